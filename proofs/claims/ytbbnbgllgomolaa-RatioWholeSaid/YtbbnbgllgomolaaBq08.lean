/- Quotients of whole numbers: no program in sight. -/
/- Facts are moved along a chain of calls. No function in sight. -/
/- The reference's May: walks (printed by gen_dys1.py out of DyW1). -/
/- The limbs of bits: the walk. -/
/- The reference's In: a dyad in parts of 2^-k; a walk. -/
/- The reference's Plus over signed numbers of bits: a walk (printed by a program of mine). -/
import Derived.Test.YtbbnbgllgomolaaBq07
import Derived.Test.YtbbnbgllgomolaaBq03
import Derived.Test.YtbbnbgllgomolaaBq06
import Derived.Test.YtbbnbgllgomolaaBq05
namespace Go.Proofs.Ytbbnbgllgomolaa
namespace Dp
/-- A whole number. -/
def whole (z : Int) : Dn := ⟨decide (z < 0), z.natAbs, 0⟩
theorem whole_may {z : Int} (h0 : -9223372036854775808 ≤ z) (h1 : z ≤ 9223372036854775807) : (whole z).May := by
  refine ⟨capD_gt (k := 64) (show z.natAbs < 2 ^ 64 by omega) (by decide), Nat.zero_le _, fun h => ⟨rfl, ?_⟩, fun h => absurd h (Nat.lt_irrefl 0)⟩
  have h : z.natAbs = 0 := h
  exact decide_eq_false (by omega)
theorem vl_whole (z : Int) : vl (whole z) 0 = z := by
  unfold vl sg whole
  simp only [Nat.sub_self, Nat.pow_zero, Nat.mul_one]
  split
  · rename_i h
    have := of_decide_eq_true h
    omega
  · rename_i h
    have : ¬ z < 0 := fun k => h (decide_eq_true k)
    omega
theorem whole_pos {n : Int} (hn : 0 < n) : (whole n).neg = false ∧ (whole n).m ≠ 0 := by
  refine ⟨decide_eq_false (by omega), ?_⟩
  show n.natAbs ≠ 0
  omega
theorem whole_of {s : Bool} {N : Nat} {z : Int} (h0 : -9223372036854775808 ≤ z) (h1 : z ≤ 9223372036854775807) (h : sg s N = z) : formed s N 0 = (whole z, 0) :=
  formed_of (K := 0) (whole_may h0 h1) (Nat.le_refl _) (Nat.le_refl _) (by rw [vl_whole, Nat.sub_self, Nat.pow_zero, Nat.mul_one, h])
theorem whole_floor {m n z : Int} (hn : 0 < n) (h0 : -9223372036854775808 ≤ z) (h1 : z ≤ 9223372036854775807) (h : m / n = z) : toD (whole m) (whole n) 0 (whole m).neg = (whole z, 0) := by
  obtain ⟨p1, p2⟩ := whole_pos hn
  obtain ⟨N, e1, e2⟩ := toD_floor (a := whole m) p1 p2 0 (K := 0) (Nat.le_refl _)
  rw [e1]
  refine whole_of h0 h1 ?_
  rw [e2, vl_whole, vl_whole, Int.pow_zero, Int.mul_one, h]
theorem whole_ceil {m n z : Int} (hn : 0 < n) (h0 : -9223372036854775808 ≤ z) (h1 : z ≤ 9223372036854775807) (h : -(-m / n) = z) : toD (whole m) (whole n) 0 (!(whole m).neg) = (whole z, 0) := by
  obtain ⟨p1, p2⟩ := whole_pos hn
  obtain ⟨N, e1, e2⟩ := toD_ceil (a := whole m) p1 p2 0 (K := 0) (Nat.le_refl _)
  rw [e1]
  refine whole_of h0 h1 ?_
  rw [e2, vl_whole, vl_whole, Int.pow_zero, Int.mul_one, h]
theorem div_is {X D q r : Int} (h : X = D * q + r) (h0 : 0 ≤ r) (h1 : r < D) : X / D = q :=
  ((Int.ediv_emod_unique (r := r) (by omega)).2 ⟨by omega, h0, h1⟩).1
theorem near_pos (M B : Nat) (hB : 0 < B) : ((M * 2 / B / 2 + if M * 2 / B % 2 = 1 then 1 else 0 : Nat) : Int) = (2 * (M : Int) + B) / (2 * B) := by
  have h1 : B * (M * 2 / B) + M * 2 % B = M * 2 := Nat.div_add_mod _ B
  have h2 := Nat.mod_lt (M * 2) hB
  generalize M * 2 / B = q at *
  generalize M * 2 % B = r at *
  have h3 : q = 2 * (q / 2) + q % 2 := by omega
  generalize q / 2 = p at *
  have h4 : B * q = 2 * (B * p) + B * (q % 2) := by
    conv => lhs; rw [h3, Nat.mul_add, Nat.mul_left_comm]
  have h5 : q % 2 = 0 ∨ q % 2 = 1 := by omega
  have h6 : (2 * (B : Int)) * (p : Int) = 2 * ((B * p : Nat) : Int) := by push_cast; rw [Int.mul_assoc]
  symm
  rcases h5 with h5 | h5
  · rw [h5, Nat.mul_zero] at h4
    rw [h5, if_neg (by decide)]
    refine div_is (r := (r : Int) + B) ?_ (by omega) (by omega)
    rw [Nat.add_zero, h6]
    omega
  · rw [h5, Nat.mul_one] at h4
    rw [h5, if_pos rfl]
    refine div_is (r := (r : Int)) ?_ (by omega) (by omega)
    rw [Int.natCast_add, Int.mul_add, h6]
    omega
theorem near_neg (M B : Nat) (hB : 0 < B) : -((M * 2 / B / 2 + if M * 2 / B % 2 = 1 ∧ M * 2 % B ≠ 0 then 1 else 0 : Nat) : Int) = (2 * (-(M : Int)) + B) / (2 * B) := by
  have h1 : B * (M * 2 / B) + M * 2 % B = M * 2 := Nat.div_add_mod _ B
  have h2 := Nat.mod_lt (M * 2) hB
  generalize M * 2 / B = q at *
  generalize M * 2 % B = r at *
  have h3 : q = 2 * (q / 2) + q % 2 := by omega
  generalize q / 2 = p at *
  have h4 : B * q = 2 * (B * p) + B * (q % 2) := by
    conv => lhs; rw [h3, Nat.mul_add, Nat.mul_left_comm]
  have h5 : q % 2 = 0 ∨ q % 2 = 1 := by omega
  have h6 : (2 * (B : Int)) * (p : Int) = 2 * ((B * p : Nat) : Int) := by push_cast; rw [Int.mul_assoc]
  symm
  rcases h5 with h5 | h5
  · rw [h5, Nat.mul_zero] at h4
    rw [h5, if_neg (fun h => by cases h.1)]
    refine div_is (r := (B : Int) - r) ?_ (by omega) (by omega)
    rw [Nat.add_zero, Int.mul_neg (2 * (B : Int)), h6]
    omega
  · rw [h5, Nat.mul_one] at h4
    by_cases hr : r = 0
    · rw [if_neg (fun h => h.2 hr)]
      refine div_is (r := 0) ?_ (by omega) (by omega)
      rw [Nat.add_zero, Int.mul_neg (2 * (B : Int)), h6]
      omega
    · rw [if_pos ⟨h5, hr⟩]
      refine div_is (r := 2 * (B : Int) - r) ?_ (by omega) (by omega)
      rw [Int.natCast_add, Int.mul_neg (2 * (B : Int)), Int.mul_add, h6]
      omega
theorem near_sg {a b : Dn} (hn : b.neg = false) (h0 : b.m ≠ 0) {K : Nat} (hK : a.e + b.e ≤ K) :
    ∃ N, nearD a b = formed a.neg N 0 ∧ sg a.neg N = (2 * vl a K + vl b K) / (2 * vl b K) := by
  obtain ⟨q1, q2⟩ := quo_at a b 1 hK
  obtain ⟨b1, b2⟩ := vl_pos hn h0 K
  refine ⟨_, rfl, ?_⟩
  rw [b1]
  unfold vl
  rw [Nat.pow_one] at q1 q2
  generalize a.m * 2 ^ (K - a.e) = M at *
  generalize b.m * 2 ^ (K - b.e) = B at *
  rw [q1]
  cases a.neg
  · have := near_pos M B b2
    simp only [sg, Bool.false_eq_true, if_false, true_or, and_true]
    exact this
  · have := near_neg M B b2
    have e : (M * 2 / B % 2 = 1 ∧ (true = false ∨ (quoN a b 1).2 ≠ 0)) ↔ (M * 2 / B % 2 = 1 ∧ M * 2 % B ≠ 0) := by
      constructor
      · rintro ⟨x, y | y⟩
        · cases y
        · exact ⟨x, mt q2.2 y⟩
      · rintro ⟨x, y⟩
        exact ⟨x, .inr (mt q2.1 y)⟩
    simp only [e]
    exact this
theorem whole_near {m n z : Int} (hn : 0 < n) (h0 : -9223372036854775808 ≤ z) (h1 : z ≤ 9223372036854775807) (h : (2 * m + n) / (2 * n) = z) : nearD (whole m) (whole n) = (whole z, 0) := by
  obtain ⟨p1, p2⟩ := whole_pos hn
  obtain ⟨N, e1, e2⟩ := near_sg (a := whole m) p1 p2 (K := 0) (Nat.le_refl _)
  rw [e1]
  refine whole_of h0 h1 ?_
  rw [e2, vl_whole, vl_whole, h]
/-- Division in Go. -/
theorem go_div {m n : Int} (hn : 0 < n) : ∃ r, m = n * Int.tdiv m n + r ∧ Int.tmod m n = r ∧ -n < r ∧ r < n ∧ (0 ≤ m → 0 ≤ r) ∧ (m < 0 → r ≤ 0) := by
  refine ⟨Int.tmod m n, ?_, rfl, ?_, ?_, ?_, ?_⟩
  · have := Int.mul_tdiv_add_tmod m n
    omega
  · exact Int.lt_tmod_of_pos m hn
  · exact Int.tmod_lt_of_pos m hn
  · exact fun h => Int.tmod_nonneg n h
  · intro h
    have h1 := Int.tmod_nonneg n (show 0 ≤ -m by omega)
    rw [Int.neg_tmod] at h1
    omega
theorem go_floor1 {m n : Int} (hn : 0 < n) (h : Int.tmod m n < 0) : m / n = Int.tdiv m n - 1 := by
  obtain ⟨r, h1, h2, h3, h4, h5, h6⟩ := go_div (m := m) hn
  refine div_is (r := r + n) ?_ (by omega) (by omega)
  rw [Int.mul_sub, Int.mul_one]
  omega
theorem go_floor0 {m n : Int} (hn : 0 < n) (h : ¬ Int.tmod m n < 0) : m / n = Int.tdiv m n := by
  obtain ⟨r, h1, h2, h3, h4, h5, h6⟩ := go_div (m := m) hn
  have h7 : 0 ≤ r := by rw [← h2]; omega
  exact div_is (r := r) (by omega) h7 h4
theorem go_ceil0 {m n : Int} (hn : 0 < n) (h : Int.tmod m n = 0) : -(-m / n) = m / n := by
  obtain ⟨r, h1, h2, h3, h4, h5, h6⟩ := go_div (m := m) hn
  rw [go_floor0 (m := m) hn (by omega), div_is (X := -m) (D := n) (q := -Int.tdiv m n) (r := 0) (by rw [Int.mul_neg]; omega) (by omega) (by omega)]
  omega
theorem go_ceil1 {m n : Int} (hn : 0 < n) (h : Int.tmod m n ≠ 0) : -(-m / n) = m / n + 1 := by
  obtain ⟨r, h1, h2, h3, h4, h5, h6⟩ := go_div (m := m) hn
  by_cases hr : r < 0
  · rw [go_floor1 (m := m) hn (by omega), div_is (X := -m) (D := n) (q := -Int.tdiv m n) (r := -r) (by rw [Int.mul_neg]; omega) (by omega) (by omega)]
    omega
  · rw [go_floor0 (m := m) hn (by omega), div_is (X := -m) (D := n) (q := -Int.tdiv m n - 1) (r := n - r) (by rw [Int.mul_sub, Int.mul_neg]; omega) (by omega) (by omega)]
    omega
end Dp
end Go.Proofs.Ytbbnbgllgomolaa
namespace Go.Proofs.Ytbbnbgllgomolaa
open Go.RowKit
namespace Dy
open Dp
theorem later {a b c : World} (h : Below a.heap.size a b) (k : Below b.heap.size b c) : Below a.heap.size a c := h.trans (k.mono h.size)
theorem box_later {w w' : World} {g : Nat} {o : Obj} (h : w.heap[g]? = some o) (hb : Below w.heap.size w w') (hg : g < w.heap.size) : w'.heap[g]? = some o := (hb.block g hg).trans h
end Dy
end Go.Proofs.Ytbbnbgllgomolaa
namespace Go.Proofs.Ytbbnbgllgomolaa
open Go.RowKit
namespace Dy
open Dp
set_option maxRecDepth 100000 in
/-- headcountref01.May: limbs that may be. -/
theorem r1May_ok (w : World) (lo hi : Nat) (A : Option Addr) (n c : Nat) (xs : List Int) (hX : Ints w lo hi .u32 A n xs) (h : MayL xs) :
    Calls Try.prog 127 #[.slice A n c] w fun e w' => e = .returned (.bool true) ∧ w' = w := by
  have hL := Lib.hid hX.len
  have h40 : n ≤ 40 := by have := h.1; have := hL.out; omega
  by_cases h0 : 0 < n
  · have hlast := (cutd_last hX.len h0).1 h.2
    obtain ⟨b, off, rfl, hcell⟩ := get hX h0
    have g1 : w.cell? ⟨b, off + (n - 1), none⟩ = some (.int .u32 (xs[n - 1]?.getD 0)) := hcell (n - 1) (by omega)
    have hb : (xs[n - 1]?.getD 0 != 0) = true := by simpa using hlast
    have hn0 : ((n : Int) == 0) = false := by simp; omega
    have e1 : ((n : Int) - 1).toNat = n - 1 := by omega
    clear hcell hlast h
    generalize xs[n - 1]?.getD 0 = v at g1 hb
    go_enter Try.func127, Try.ntmps127
    go_wp2
    go_ret
    exact ⟨rfl, rfl⟩
  · obtain rfl : n = 0 := by omega
    clear h
    go_enter Try.func127, Try.ntmps127
    go_wp2
    go_ret
    exact ⟨rfl, rfl⟩
set_option maxRecDepth 100000 in
/-- headcountref01.May: limbs that may not be. -/
theorem r1May_bad (w : World) (lo hi : Nat) (A : Option Addr) (n c : Nat) (xs : List Int) (hX : Ints w lo hi .u32 A n xs) (h : ¬ MayL xs) :
    Calls Try.prog 127 #[.slice A n c] w fun e w' => e = .returned (.bool false) ∧ w' = w := by
  have hL := Lib.hid hX.len
  have hbig := hX.big
  by_cases h40 : n ≤ 40
  · have h0 : 0 < n := by
      rcases Nat.eq_zero_or_pos n with h0 | h0
      · exact absurd ⟨by have := hL.out; omega, fun hne => absurd (hX.zero h0) hne⟩ h
      · exact h0
    have hlast : xs[n - 1]?.getD 0 = 0 := by
      by_cases hl : xs[n - 1]?.getD 0 = 0
      · exact hl
      · exact absurd ⟨by have := hL.out; omega, (cutd_last hX.len h0).2 hl⟩ h
    obtain ⟨b, off, rfl, hcell⟩ := get hX h0
    have g1 : w.cell? ⟨b, off + (n - 1), none⟩ = some (.int .u32 (xs[n - 1]?.getD 0)) := hcell (n - 1) (by omega)
    rw [hlast] at g1
    have hn0 : ((n : Int) == 0) = false := by simp; omega
    have e1 : ((n : Int) - 1).toNat = n - 1 := by omega
    clear hcell hlast h
    go_enter Try.func127, Try.ntmps127
    go_wp2
    go_ret
    exact ⟨rfl, rfl⟩
  · clear h
    go_enter Try.func127, Try.ntmps127
    go_wp2
    go_ret
    exact ⟨rfl, rfl⟩
set_option maxHeartbeats 800000 in
set_option maxRecDepth 100000 in
/-- headcountref02.May: dyads that may be. -/
theorem rMay_ok (w : World) (lo hi : Nat) (s : Bool) (A : Option Addr) (n c : Nat) (xs : List Int) (ex : Int) (hX : Ints w lo hi .u32 A n xs) (hhi : hi ≤ w.heap.size) (h : MayD s xs ex) :
    Calls Try.prog 101 #[.agg #[.bool s, .slice A n c, .int .i64 ex]] w fun e w' => e = .returned (.bool true) ∧ Below w.heap.size w w' := by
  have hL := Lib.hid hX.len
  have hX2 := hX.alloc hhi (.cells #[.bool s, .slice A n c, .int .i64 ex] 25)
  have hB := (Below.refl w.heap.size w).alloc (Nat.le_refl _) (.cells #[.bool s, .slice A n c, .int .i64 ex] 25)
  obtain ⟨hmay, he0, he1, hz, ho⟩ := h
  by_cases h0 : 0 < n
  · have hne : xs ≠ [] := fun e => by have := hL.out; rw [e] at this; simp at this; omega
    obtain ⟨b, off, rfl, hcell⟩ := get hX2 h0
    have g1 := hcell 0 h0
    rw [Nat.add_zero] at g1
    have ho' := ho hne
    have hn0 : ((n : Int) == 0) = false := by simp; omega
    obtain ⟨v0, v1⟩ := hX.u32 0
    clear hcell hz ho
    generalize xs[0]?.getD 0 = v at g1 ho' v0 v1
    by_cases hpos : 0 < ex
    · have hv := ho' hpos
      have hv2 : v % 2 = 1 := hv
      clear ho' hv hne
      go_enter Try.func101, Try.ntmps101
      go_wp2_with fail
      refine (r1May_ok _ _ _ _ _ _ _ hX2 hmay).mono ?_
      rintro e w1 ⟨rfl, rfl⟩
      clear hmay
      go_wp2
      go_ret
      exact ⟨rfl, hB⟩
    · obtain rfl : ex = 0 := by omega
      clear ho' hne he0 he1
      go_enter Try.func101, Try.ntmps101
      go_wp2_with fail
      refine (r1May_ok _ _ _ _ _ _ _ hX2 hmay).mono ?_
      rintro e w1 ⟨rfl, rfl⟩
      clear hmay
      go_wp2
      go_ret
      exact ⟨rfl, hB⟩
  · obtain rfl : n = 0 := by omega
    obtain ⟨rfl, rfl⟩ := hz (hX.zero rfl)
    clear ho he0 he1
    go_enter Try.func101, Try.ntmps101
    go_wp2_with fail
    refine (r1May_ok _ _ _ _ _ _ _ hX2 hmay).mono ?_
    rintro e w1 ⟨rfl, rfl⟩
    clear hmay
    go_wp2
    go_ret
    exact ⟨rfl, hB⟩
set_option maxHeartbeats 1600000 in
set_option maxRecDepth 100000 in
/-- headcountref02.May: dyads that may not be. -/
theorem rMay_bad (w : World) (lo hi : Nat) (s : Bool) (A : Option Addr) (n c : Nat) (xs : List Int) (ex : Int) (hX : Ints w lo hi .u32 A n xs) (hhi : hi ≤ w.heap.size) (h : ¬ MayD s xs ex) :
    Calls Try.prog 101 #[.agg #[.bool s, .slice A n c, .int .i64 ex]] w fun e w' => e = .returned (.bool false) ∧ Below w.heap.size w w' := by
  have hL := Lib.hid hX.len
  have hX2 := hX.alloc hhi (.cells #[.bool s, .slice A n c, .int .i64 ex] 25)
  have hB := (Below.refl w.heap.size w).alloc (Nat.le_refl _) (.cells #[.bool s, .slice A n c, .int .i64 ex] 25)
  have hbig := hX.big
  rcases not_may h with hm | ⟨hm, hx⟩ | ⟨hm, h0, h1, hz, hx⟩ | ⟨hm, h0, h1, hz, hx⟩
  · clear h
    go_enter Try.func101, Try.ntmps101
    go_wp2_with fail
    refine (r1May_bad _ _ _ _ _ _ _ hX2 hm).mono ?_
    rintro e w1 ⟨rfl, rfl⟩
    clear hm
    by_cases hn0 : n = 0
    · subst hn0
      go_wp2
      go_ret
      exact ⟨rfl, hB⟩
    · have hn1 : ((n : Int) == 0) = false := by simp; omega
      go_wp2
      go_ret
      exact ⟨rfl, hB⟩
  · clear h
    have hn1 : n ≠ 0 → ((n : Int) == 0) = false := fun h => by simp; omega
    rcases hx with hx | hx
    all_goals
      by_cases hn0 : n = 0
      · subst hn0
        clear hn1
        go_enter Try.func101, Try.ntmps101
        go_wp2_with fail
        refine (r1May_ok _ _ _ _ _ _ _ hX2 hm).mono ?_
        rintro e w1 ⟨rfl, rfl⟩
        clear hm
        go_wp2
        go_ret
        exact ⟨rfl, hB⟩
      · have hn2 := hn1 hn0
        clear hn1
        go_enter Try.func101, Try.ntmps101
        go_wp2_with fail
        refine (r1May_ok _ _ _ _ _ _ _ hX2 hm).mono ?_
        rintro e w1 ⟨rfl, rfl⟩
        clear hm
        go_wp2
        go_ret
        exact ⟨rfl, hB⟩
  · clear h
    subst hz
    obtain rfl : n = 0 := by have := hL.out; simp at this; omega
    by_cases hx0 : ex = 0
    · subst hx0
      obtain rfl : s = true := hx.resolve_left (fun h => h rfl)
      clear hx
      go_enter Try.func101, Try.ntmps101
      go_wp2_with fail
      refine (r1May_ok _ _ _ _ _ _ _ hX2 hm).mono ?_
      rintro e w1 ⟨rfl, rfl⟩
      clear hm
      go_wp2
      go_ret
      exact ⟨rfl, hB⟩
    · have hx1 : (ex != 0) = true := by simpa using hx0
      clear hx
      go_enter Try.func101, Try.ntmps101
      go_wp2_with fail
      refine (r1May_ok _ _ _ _ _ _ _ hX2 hm).mono ?_
      rintro e w1 ⟨rfl, rfl⟩
      clear hm
      go_wp2
      go_ret
      exact ⟨rfl, hB⟩
  · clear h
    have hn0 : 0 < n := by
      rcases Nat.eq_zero_or_pos n with h0 | h0
      · exact absurd (hX.zero h0) hz
      · exact h0
    obtain ⟨b, off, rfl, hcell⟩ := get hX2 hn0
    have g1 := hcell 0 hn0
    rw [Nat.add_zero] at g1
    have hn1 : ((n : Int) == 0) = false := by simp; omega
    obtain ⟨v0, v1⟩ := hX.u32 0
    clear hcell hz
    generalize xs[0]?.getD 0 = v at g1 hx v0 v1
    have hv : v % 2 = 0 := by omega
    have hx0 : (ex == 0) = false := by simp; omega
    clear hx
    go_enter Try.func101, Try.ntmps101
    go_wp2_with fail
    refine (r1May_ok _ _ _ _ _ _ _ hX2 hm).mono ?_
    rintro e w1 ⟨rfl, rfl⟩
    clear hm
    go_wp2
    go_ret
    exact ⟨rfl, hB⟩
end Dy
end Go.Proofs.Ytbbnbgllgomolaa
namespace Go.Proofs.Ytbbnbgllgomolaa
open Go.RowKit
namespace Dy
theorem Try.info70 : (Try.prog.info? 70).map (fun i => (i.zero, i.size, i.bytes)) = some (some (.int .u32 0), 1, 4) := by kernel_rfl
set_option maxHeartbeats 3200000 in
set_option maxRecDepth 100000 in
/-- headcountref01.Limbs. -/
theorem Limbs_any (w : World) (lo hi : Nat) (A : Option Addr) (n c : Nat) (xs : List Int) (hX : Ints w lo hi .u8 A n xs) (hdx : Dig 2 xs) (hnc : n ≤ c) (hhi : hi ≤ w.heap.size) (hn : n ≤ 1000000) (v : Nat) (hv : num 2 xs = v) :
    Calls Try.prog 102 #[.slice A n c] w fun e w' => ∃ A' n' c', e = .returned (.slice A' n' c') ∧ n' ≤ c' ∧ Below w.heap.size w w' ∧ Ints w' w.heap.size w'.heap.size .u32 A' n' (canon 4294967296 v) := by
  obtain ⟨i0, hi0, hz0, hz1, hz2⟩ := info_parts Try.info70
  go_enter Try.func102, Try.ntmps102
  go_wp2_with fail
  refine (Cut_any _ _ _ _ _ _ _ hX hdx hnc).mono ?_
  rintro e w1 ⟨⟨m, rfl, hmn, hI⟩, rfl⟩
  rw [hv] at hI
  clear hv hdx hX
  obtain ⟨ys, hys⟩ : ∃ ys, canon 2 v = ys := ⟨_, rfl⟩
  have hspec := canon_spec 2 v (by decide)
  rw [hys] at hspec hI
  obtain ⟨hdy, hcy, hvy⟩ := hspec
  have HL := Lib.hid hI.len
  have HV := Lib.hid hvy
  clear hys hvy
  go_wp2
  go_loopw [3, 4] (fun o i wr => ∃ j : Nat, ∃ out : List Int, i = .int .i64 ((32 * j : Nat) : Int) ∧ 32 * j ≤ m + 31 ∧ wr.ownsRow w1.heap.size 70 1 o j (out.map (Value.int .u32)) ∧ Dig 4294967296 out ∧ Hid (num 4294967296 out = num 2 (ys.take (32 * j))) ∧ Below w1.heap.size w1 wr)
    (fun _ i _ => m + 32 - (intOf i).toNat)
  case atStart => exact ⟨0, [], rfl, by omega, ⟨rfl, .inl ⟨rfl, rfl⟩⟩, fun x hx => (by simp at hx), by simp [Hid, num], Below.refl _ _⟩
  case round =>
    obtain ⟨j, out, rfl, hj, hown, hdo, hnum, hnx⟩ := hrel
    obtain ⟨wo, rfl⟩ : ∃ wo : World, wo = wr := ⟨_, rfl⟩
    by_cases hlt : 32 * j < m
    · by_cases htp : m ≤ 32 * j + 32
      · have hI2 := hI.below hnx hhi
        obtain ⟨bb, off, rfl, hcell⟩ := get hI2 (by omega)
        clear hI2
        have htop : m ≤ ys.length := by rw [HL.out]; omega
        go_wp2
        go_loopw [5, 6] (fun nn kv wr' => ∃ k r : Nat, kv = .int .i64 ((k : Int) - 1) ∧ nn = .int .u32 r ∧ 32 * j ≤ k ∧ k ≤ m ∧ Hid (num 2 (part ys k (m)) = r) ∧ wr' = wo) (fun _ kv _ => (intOf kv + 1).toNat)
        case atStart => exact ⟨m, 0, by first | rfl | (congr 1; omega) | (congr 1; push_cast; omega), rfl, by omega, Nat.le_refl _, by rw [Hid, part_none]; rfl, rfl⟩
        case round =>
          obtain ⟨k, r, rfl, rfl, hk1, hk2, hr, rfl⟩ := hrel
          have hr1 := part_lt (B := 2) (by decide) hdy (i := k) (t := m) (k := 32) (by omega)
          rw [hr.out] at hr1
          have hr2 : r ≤ 4294967295 := by omega
          clear hr1
          by_cases hkl : 32 * j < k
          · obtain ⟨k, rfl⟩ : ∃ k', k = k' + 1 := ⟨k - 1, by omega⟩
            have ek : ((k + 1 : Nat) : Int) - 1 = (k : Int) := by omega
            rw [ek]
            obtain ⟨p, hp, hp1⟩ := bit_nat hdy k
            have g1 : wr.cell? ⟨bb, off + k, none⟩ = some (.int .u8 (ys[k]?.getD 0)) := hcell k (by omega)
            rw [hp] at g1
            have hst := part_step 2 ys (i := k) (t := m) (by omega) htop
            rw [hp, hr.out] at hst
            have hr3 := part_lt (B := 2) (by decide) hdy (i := k) (t := m) (k := 32) (by omega)
            rw [hst] at hr3
            have hr4 : 2 * (r : Int) + (p : Int) ≤ 4294967295 := by simp only [Int.toNat_natCast] at hr3; omega
            have HST := Lib.hid hst
            clear hst hr3 hp ek
            go_wp2
            go_roundw
            case rel => exact ⟨k, p + 2 * r, by first | rfl | (congr 1; omega), by congr 1; push_cast; omega, by omega, by omega, by have := HST.out; simpa [Hid] using this, by trivial⟩
            case measure => first | (simp [intOf]; done) | (simp [intOf]; omega)
          · obtain rfl : k = 32 * j := by omega
            have hol : out.length = j := by have := hown.1; simpa using this
            have hnum2 : Hid (num 4294967296 (out ++ [(r : Int)]) = num 2 (ys.take (32 * (j + 1)))) := by
              have e1 : ys.take (32 * (j + 1)) = ys.take (m) := by
                first
                  | rfl
                  | (congr 1; done)
                  | (rw [List.take_of_length_le (by rw [HL.out]; omega), List.take_of_length_le (by rw [HL.out]; omega)])
              rw [Hid, e1, part_split 2 ys (i := 32 * j) (t := m) (by omega) (by rw [HL.out]; omega), num_append, hol, hnum.out, hr.out, Nat.pow_mul]
              simp [num]
            have hdo2 : Dig 4294967296 (out ++ [(r : Int)]) := fun x hx => by
              rcases List.mem_append.1 hx with h' | h'
              · exact hdo x h'
              · rw [List.mem_singleton.1 h']
                omega
            clear hol hnum hr
            go_wp2_with (first
              | (at_builtin; refine wpList_append_raw _ rfl (.tmp 34) (.tmp 36) 23 rfl w1.heap.size 70 i0 (.int .u32 0) 1 4 Try.underlying23 hi0 hz0 hz1 hz2 rfl (by decide) _ _ _ rfl (hown.alloc _) _ _ _ 1 1 [.int .u32 r] rfl (raw_one _ _ _ _) ?d1 ?d2 ?d3 ?d4 ?_))
            case d1 => first | rfl | (intro u hu; simp at hu; subst hu; rfl)
            case d2 => unfold maxLen; omega
            case d3 => omega
            case d4 => have := hnx.size; simp; omega
            intro A2 c2 w3 hown2 hgrow2 _
            have hnx2 : Below w1.heap.size w1 w3 := (hnx.alloc hnx.size _).grown hgrow2 (by have := hnx.size; simp; omega) (fun q hq => (hown.lt q hq).1)
            have hown3 : w3.ownsRow w1.heap.size 70 1 (.slice A2 (j + 1) c2) (j + 1) ((out ++ [(r : Int)]).map (Value.int .u32)) := by simpa using hown2
            clear hown2 hgrow2 hown
            go_wp2
            go_roundw
            case rel => exact ⟨j + 1, _, by first | rfl | (congr 1; done) | (congr 1; push_cast; omega), by omega, hown3, hdo2, hnum2, hnx2⟩
            case measure => simp [intOf]; omega
      · have hI2 := hI.below hnx hhi
        obtain ⟨bb, off, rfl, hcell⟩ := get hI2 (by omega)
        clear hI2
        have htop : 32 * j + 32 ≤ ys.length := by rw [HL.out]; omega
        go_wp2
        go_loopw [5, 6] (fun nn kv wr' => ∃ k r : Nat, kv = .int .i64 ((k : Int) - 1) ∧ nn = .int .u32 r ∧ 32 * j ≤ k ∧ k ≤ 32 * j + 32 ∧ Hid (num 2 (part ys k (32 * j + 32)) = r) ∧ wr' = wo) (fun _ kv _ => (intOf kv + 1).toNat)
        case atStart => exact ⟨32 * j + 32, 0, by first | rfl | (congr 1; omega) | (congr 1; push_cast; omega), rfl, by omega, Nat.le_refl _, by rw [Hid, part_none]; rfl, rfl⟩
        case round =>
          obtain ⟨k, r, rfl, rfl, hk1, hk2, hr, rfl⟩ := hrel
          have hr1 := part_lt (B := 2) (by decide) hdy (i := k) (t := 32 * j + 32) (k := 32) (by omega)
          rw [hr.out] at hr1
          have hr2 : r ≤ 4294967295 := by omega
          clear hr1
          by_cases hkl : 32 * j < k
          · obtain ⟨k, rfl⟩ : ∃ k', k = k' + 1 := ⟨k - 1, by omega⟩
            have ek : ((k + 1 : Nat) : Int) - 1 = (k : Int) := by omega
            rw [ek]
            obtain ⟨p, hp, hp1⟩ := bit_nat hdy k
            have g1 : wr.cell? ⟨bb, off + k, none⟩ = some (.int .u8 (ys[k]?.getD 0)) := hcell k (by omega)
            rw [hp] at g1
            have hst := part_step 2 ys (i := k) (t := 32 * j + 32) (by omega) htop
            rw [hp, hr.out] at hst
            have hr3 := part_lt (B := 2) (by decide) hdy (i := k) (t := 32 * j + 32) (k := 32) (by omega)
            rw [hst] at hr3
            have hr4 : 2 * (r : Int) + (p : Int) ≤ 4294967295 := by simp only [Int.toNat_natCast] at hr3; omega
            have HST := Lib.hid hst
            clear hst hr3 hp ek
            go_wp2
            go_roundw
            case rel => exact ⟨k, p + 2 * r, by first | rfl | (congr 1; omega), by congr 1; push_cast; omega, by omega, by omega, by have := HST.out; simpa [Hid] using this, by trivial⟩
            case measure => first | (simp [intOf]; done) | (simp [intOf]; omega)
          · obtain rfl : k = 32 * j := by omega
            have hol : out.length = j := by have := hown.1; simpa using this
            have hnum2 : Hid (num 4294967296 (out ++ [(r : Int)]) = num 2 (ys.take (32 * (j + 1)))) := by
              have e1 : ys.take (32 * (j + 1)) = ys.take (32 * j + 32) := by
                first
                  | rfl
                  | (congr 1; done)
                  | (rw [List.take_of_length_le (by rw [HL.out]; omega), List.take_of_length_le (by rw [HL.out]; omega)])
              rw [Hid, e1, part_split 2 ys (i := 32 * j) (t := 32 * j + 32) (by omega) (by rw [HL.out]; omega), num_append, hol, hnum.out, hr.out, Nat.pow_mul]
              simp [num]
            have hdo2 : Dig 4294967296 (out ++ [(r : Int)]) := fun x hx => by
              rcases List.mem_append.1 hx with h' | h'
              · exact hdo x h'
              · rw [List.mem_singleton.1 h']
                omega
            clear hol hnum hr
            go_wp2_with (first
              | (at_builtin; refine wpList_append_raw _ rfl (.tmp 34) (.tmp 36) 23 rfl w1.heap.size 70 i0 (.int .u32 0) 1 4 Try.underlying23 hi0 hz0 hz1 hz2 rfl (by decide) _ _ _ rfl (hown.alloc _) _ _ _ 1 1 [.int .u32 r] rfl (raw_one _ _ _ _) ?f1 ?f2 ?f3 ?f4 ?_))
            case f1 => first | rfl | (intro u hu; simp at hu; subst hu; rfl)
            case f2 => unfold maxLen; omega
            case f3 => omega
            case f4 => have := hnx.size; simp; omega
            intro A2 c2 w3 hown2 hgrow2 _
            have hnx2 : Below w1.heap.size w1 w3 := (hnx.alloc hnx.size _).grown hgrow2 (by have := hnx.size; simp; omega) (fun q hq => (hown.lt q hq).1)
            have hown3 : w3.ownsRow w1.heap.size 70 1 (.slice A2 (j + 1) c2) (j + 1) ((out ++ [(r : Int)]).map (Value.int .u32)) := by simpa using hown2
            clear hown2 hgrow2 hown
            go_wp2
            go_roundw
            case rel => exact ⟨j + 1, _, by first | rfl | (congr 1; done) | (congr 1; push_cast; omega), by omega, hown3, hdo2, hnum2, hnx2⟩
            case measure => simp [intOf]; omega
    · obtain ⟨A2, c2, rfl, hc2, _⟩ := own_shape hown
      have hol : out.length = j := by have := hown.1; simpa using this
      have hend : num 4294967296 out = v := by rw [hnum.out, List.take_of_length_le (by rw [HL.out]; omega), HV.out]
      have hcut : Cutd out := cutd_of_ge (by decide) hdo fun hne => by
        have hj0 : 0 < j := by rw [← hol]; exact List.length_pos_iff.2 hne
        have hyne : ys ≠ [] := fun e => by have := HL.out; rw [e] at this; simp at this; omega
        have h1 := num_ge hdy hcy hyne
        rw [HV.out, HL.out] at h1
        rw [hend, hol]
        have h2 : (4294967296 : Nat) ^ (j - 1) = 2 ^ (32 * (j - 1)) := by rw [Nat.pow_mul]
        have h3 : 2 ^ (32 * (j - 1)) ≤ 2 ^ (m - 1) := Nat.pow_le_pow_right (by decide) (by omega)
        omega
      have hcan := canon_of (by decide) hdo hcut hend
      have hwf : ∀ x ∈ out, IntKind.u32.min ≤ x ∧ x ≤ IntKind.u32.max := fun x hx => by
        have h1 := hdo x hx
        have h2 : 0 ≤ x ∧ x ≤ 4294967295 := by omega
        simpa [IntKind.min, IntKind.max, IntKind.signed, IntKind.bits] using h2
      have hI2 := Ints.of_own hown hwf (by omega)
      rw [hcan] at hI2
      clear hown hnum hol hend hcut hcan hwf
      go_wp2
      go_ret
      exact ⟨A2, j, c2, rfl, hc2, hnx, hI2⟩
end Dy
end Go.Proofs.Ytbbnbgllgomolaa
namespace Go.Proofs.Ytbbnbgllgomolaa
open Go.RowKit
namespace Dy
open Dp
theorem boxS {w : World} {g : Nat} {x y : Value} {t : TypeId} (h : w.heap[g]? = some (.cells #[x, y] t (0, 0))) :
    (w.cell? ⟨g, 0, none⟩ = some x ∧ w.cell? ⟨g, 1, none⟩ = some y) ∧ (w.frozen? ⟨g, 0, none⟩ = false ∧ w.frozen? ⟨g, 1, none⟩ = false) :=
  ⟨⟨cell_of_row w g 0 _ t _ h, cell_of_row w g 1 _ t _ h⟩, frozen_of_row w g 0 _ t h, frozen_of_row w g 1 _ t h⟩
theorem ints_set {w : World} {lo hi : Nat} {k : IntKind} {A : Option Addr} {n : Nat} {xs : List Int} (h : Ints w lo hi k A n xs) {g : Nat} (hg : g < lo) (o : Nat) (v : Value) : Ints (w.setCell ⟨g, o, none⟩ v) lo hi k A n xs := ints_far h (.inl hg) v
end Dy
end Go.Proofs.Ytbbnbgllgomolaa
namespace Go.Proofs.Ytbbnbgllgomolaa
open Go.RowKit
namespace Dy
open Dp
theorem boxSA {w : World} {g : Nat} {x y : Value} {t : TypeId} (h : w.heap[g]? = some (.cells #[x, y] t (0, 0))) :
    (∀ o, (w.alloc o).cell? ⟨g, 0, none⟩ = some x) ∧ (∀ o, (w.alloc o).cell? ⟨g, 1, none⟩ = some y) ∧ (∀ o, (w.alloc o).frozen? ⟨g, 0, none⟩ = false) ∧ (∀ o, (w.alloc o).frozen? ⟨g, 1, none⟩ = false) :=
  ⟨fun o => (boxS (heapAll o h)).1.1, fun o => (boxS (heapAll o h)).1.2, fun o => (boxS (heapAll o h)).2.1, fun o => (boxS (heapAll o h)).2.2⟩
theorem plus_cases (s1 s2 : Bool) (x y : Nat) (s : Bool) (v : Nat) (h : plusS s1 x s2 y = (s, v)) :
    (s1 = s2 ∧ s = s1 ∧ x + y = v) ∨ ((s1 == s2) = false ∧ cmpN x y = 0 ∧ y ≤ x ∧ s = s1 ∧ x - y = v) ∨ ((s1 == s2) = false ∧ cmpN x y = 1 ∧ y ≤ x ∧ s = s1 ∧ x - y = v) ∨ ((s1 == s2) = false ∧ cmpN x y = -1 ∧ x ≤ y ∧ s = s2 ∧ y - x = v) := by
  unfold plusS at h
  by_cases h1 : s1 = s2
  · rw [if_pos h1] at h
    injection h with h2 h3
    exact .inl ⟨h1, h2.symm, h3⟩
  · rw [if_neg h1] at h
    have h4 : (s1 == s2) = false := by simpa using h1
    right
    by_cases h5 : y ≤ x
    · rw [if_pos h5] at h
      injection h with h2 h3
      by_cases h6 : x = y
      · exact .inl ⟨h4, by unfold cmpN; rw [if_neg (by omega), if_pos h6], h5, h2.symm, h3⟩
      · exact .inr (.inl ⟨h4, by unfold cmpN; rw [if_neg (by omega), if_neg h6], h5, h2.symm, h3⟩)
    · rw [if_neg h5] at h
      injection h with h2 h3
      exact .inr (.inr ⟨h4, by unfold cmpN; rw [if_pos (by omega)], by omega, h2.symm, h3⟩)
theorem dig2 {n : Nat} : Dig 2 (canon 2 n) := (canon_spec 2 n (by decide)).1
theorem num2 {n : Nat} : num 2 (canon 2 n) = n := (canon_spec 2 n (by decide)).2.2
theorem canon2_len {x y : Nat} (h : x ≤ y) : (canon 2 x).length ≤ (canon 2 y).length := by
  have h1 := canon_spec 2 y (by decide)
  refine canon_len (by decide) (Nat.lt_of_le_of_lt h ?_)
  have := num_lt 2 (by decide) _ h1.1
  rwa [h1.2.2] at this
set_option maxHeartbeats 12800000 in
set_option maxRecDepth 100000 in
/-- headcountref02.Plus. -/
theorem rPlus_any (w : World) (s1 s2 : Bool) (x y : Nat) (A1 : Option Addr) (n1 c1 : Nat) (A2 : Option Addr) (n2 c2 : Nat) (h1 : Ints w 0 w.heap.size .u8 A1 n1 (canon 2 x)) (h2 : Ints w 0 w.heap.size .u8 A2 n2 (canon 2 y)) (hn1 : n1 ≤ 4000) (hn2 : n2 ≤ 4000) (s : Bool) (v : Nat) (hp : plusS s1 x s2 y = (s, v)) :
    Calls Try.prog 79 #[.agg #[.bool s1, .slice A1 n1 c1], .agg #[.bool s2, .slice A2 n2 c2]] w fun e w' => ∃ A n c, e = .returned (.agg #[.bool s, .slice A n c]) ∧ n ≤ c ∧ Below w.heap.size w w' ∧ Ints w' w.heap.size w'.heap.size .u8 A n (canon 2 v) := by
  have l1 := Lib.hid h1.len
  have l2 := Lib.hid h2.len
  have I1 := (h1.alloc (Nat.le_refl _) (.cells #[.bool s1, .slice A1 n1 c1] 110)).alloc (by simp) (.cells #[.bool s2, .slice A2 n2 c2] 110)
  have I2 := (h2.alloc (Nat.le_refl _) (.cells #[.bool s1, .slice A1 n1 c1] 110)).alloc (by simp) (.cells #[.bool s2, .slice A2 n2 c2] 110)
  clear h1 h2
  generalize hw : (w.alloc (.cells #[.bool s1, .slice A1 n1 c1] 110)).alloc (.cells #[.bool s2, .slice A2 n2 c2] 110) = w1 at *
  have HS1 : Hid (w1.heap.size = w.heap.size + 2) := by rw [Hid, ← hw]; simp
  have b1 : Below w.heap.size w w1 := by rw [← hw]; exact ((Below.refl _ w).alloc (Nat.le_refl _) _).alloc (by simp) _
  have X1 : w1.heap[w.heap.size]? = some (.cells #[.bool s1, .slice A1 n1 c1] 110 (0, 0)) := by
    rw [← hw, Below.heap_alloc _ _ _ (by simp)]
    exact heap_alloc_last _ _
  have X2 : w1.heap[w.heap.size + 1]? = some (.cells #[.bool s2, .slice A2 n2 c2] 110 (0, 0)) := by
    rw [← hw]
    exact heap_alloc2_new _ _ _
  obtain ⟨y0, y1, y2, y3⟩ := boxSA X1
  obtain ⟨z0, z1, z2, z3⟩ := boxSA X2
  have I1a := I1.alloc (by have := HS1.out; omega) (.cells #[.bool false, .slice none 0 0] 110)
  have I2a := I2.alloc (by have := HS1.out; omega) (.cells #[.bool false, .slice none 0 0] 110)
  clear I1 I2
  replace X1 := heapAll (.cells #[.bool false, .slice none 0 0] 110) X1
  replace X2 := heapAll (.cells #[.bool false, .slice none 0 0] 110) X2
  have X3 := heap_alloc_last w1 (.cells #[.bool false, .slice none 0 0] 110)
  have b2 := b1.alloc (by have := HS1.out; omega) (.cells #[.bool false, .slice none 0 0] 110)
  have HS2 : Hid ((w1.alloc (.cells #[.bool false, .slice none 0 0] 110)).heap.size = w1.heap.size + 1) := by rw [Hid]; simp
  clear b1
  rcases plus_cases s1 s2 x y s v hp with ⟨rfl, rfl, hv⟩ | ⟨he, hr, hle, rfl, hv⟩ | ⟨he, hr, hle, rfl, hv⟩ | ⟨he, hr, hle, rfl, hv⟩
  · have HV := Lib.hid hv
    clear hp hv
    go_enter Try.func79, Try.ntmps79
    go_wp2_with fail
    generalize hw2 : w1.alloc (.cells #[.bool false, .slice none 0 0] 110) = w2 at *
    clear hw2 y0 y1 y2 y3 z0 z1 z2 z3
    try clear hw
    have kD : Keeps w2 w2.drew := fun _ _ => rfl
    have d2 : Below w2.heap.size w2 w2.drew := (Below.refl _ _).drew
    refine region_E (Keeps w2) [8] (m := 9) (L := #[false, false, false, false, false, false, false, false, false]) (by kernel_rfl) (by rfl) (by rfl) ?_
    refine pureE (i := 0) (L := #[true, false, false, false, false, false, false, false, false]) (v := ?_) rfl (by rfl) (by kernel_rfl) (by kernel_rfl) (by kernel_rfl) (fun _ _ _ h => h) (by rfl) ?hy1 ?rest1
    case hy1 => intro w; go_simp; (try with_reducible rfl)
    try simp only [Act.put, List.setIfInBounds_toArray, List.set_cons_zero, List.set_cons_succ]
    refine readE (i := 1) (L := #[true, true, false, false, false, false, false, false, false]) (v := .bool s) rfl (by rfl) (by kernel_rfl) (by kernel_rfl) (by kernel_rfl) (fun _ _ _ h => h) (by assumption) (by rfl) ?hyA1 ?restA1
    case hyA1 =>
      intro w' h
      obtain ⟨⟨k1, k2⟩, _⟩ := boxS ((h _ (by have := HS1.out; have := HS2.out; omega)).trans X1)
      go_simp
    try simp only [Act.put, List.setIfInBounds_toArray, List.set_cons_zero, List.set_cons_succ]
    refine pureE (i := 2) (L := #[true, true, true, false, false, false, false, false, false]) (v := ?_) rfl (by rfl) (by kernel_rfl) (by kernel_rfl) (by kernel_rfl) (fun _ _ _ h => h) (by rfl) ?hy3 ?rest3
    case hy3 => intro w; go_simp; (try with_reducible rfl)
    try simp only [Act.put, List.setIfInBounds_toArray, List.set_cons_zero, List.set_cons_succ]
    refine readE (i := 3) (L := #[true, true, true, true, false, false, false, false, false]) (v := .slice A1 n1 c1) rfl (by rfl) (by kernel_rfl) (by kernel_rfl) (by kernel_rfl) (fun _ _ _ h => h) (by assumption) (by rfl) ?hyB1 ?restB1
    case hyB1 =>
      intro w' h
      obtain ⟨⟨k1, k2⟩, _⟩ := boxS ((h _ (by have := HS1.out; have := HS2.out; omega)).trans X1)
      go_simp
    try simp only [Act.put, List.setIfInBounds_toArray, List.set_cons_zero, List.set_cons_succ]
    refine pureE (i := 4) (L := #[true, true, true, true, true, false, false, false, false]) (v := ?_) rfl (by rfl) (by kernel_rfl) (by kernel_rfl) (by kernel_rfl) (fun _ _ _ h => h) (by rfl) ?hy5 ?rest5
    case hy5 => intro w; go_simp; (try with_reducible rfl)
    try simp only [Act.put, List.setIfInBounds_toArray, List.set_cons_zero, List.set_cons_succ]
    refine readE (i := 5) (L := #[true, true, true, true, true, true, false, false, false]) (v := .slice A2 n2 c2) rfl (by rfl) (by kernel_rfl) (by kernel_rfl) (by kernel_rfl) (fun _ _ _ h => h) (by assumption) (by rfl) ?hyC1 ?restC1
    case hyC1 =>
      intro w' h
      obtain ⟨⟨k1, k2⟩, _⟩ := boxS ((h _ (by have := HS1.out; have := HS2.out; omega)).trans X2)
      go_simp
    try simp only [Act.put, List.setIfInBounds_toArray, List.set_cons_zero, List.set_cons_succ]
    refine stepK (i := 6) (L := #[true, true, true, true, true, true, true, false, false]) rfl (by rfl) (by kernel_rfl) (by rfl) (fun K hK => ?_)
    go_simp
    go_at_call 82
    refine (Plus_any w2.drew 0 w.heap.size 0 w.heap.size A1 n1 c1 _ (I1a.drewN 1) A2 n2 c2 _ (I2a.drewN 1) dig2 dig2 (by show w.heap.size ≤ w2.heap.size; have := HS1.out; have := HS2.out; omega) (by show w.heap.size ≤ w2.heap.size; have := HS1.out; have := HS2.out; omega) (by omega) (by omega) v (by rw [num2, num2]; exact HV.out)).mono ?_
    rintro e w3 ⟨A3, n3, c3, rfl, hc3, hB, hI⟩
    have d3 := d2.trans hB
    have hI3 := Lib.hid hI
    have hs3 := hB.size
    clear hB hI
    refine hK _ _ ⟨fun _ _ p hp => d3.block p hp, ?_⟩
    clear hK K
    try simp only [Act.put, List.setIfInBounds_toArray, List.set_cons_zero, List.set_cons_succ]
    refine pureE (i := 7) (L := #[true, true, true, true, true, true, true, true, false]) (v := ?_) rfl (by rfl) (by kernel_rfl) (by kernel_rfl) (by kernel_rfl) (fun _ _ _ h => h) (by rfl) ?hy8 ?rest8
    case hy8 => intro w; go_simp; (try with_reducible rfl)
    try simp only [Act.put, List.setIfInBounds_toArray, List.set_cons_zero, List.set_cons_succ]
    obtain ⟨⟨p1, p2⟩, p3, p4⟩ := boxS ((d3.block w1.heap.size (by have := HS2.out; omega)).trans X3)
    refine stepK (i := 8) (L := #[true, true, true, true, true, true, true, true, true]) rfl (by rfl) (by kernel_rfl) (by rfl) (fun K hK => ?_)
    go_simp
    refine hK _ _ ⟨fun h => absurd h (by decide), ?_⟩
    clear hK K
    try simp only [Act.put, List.setIfInBounds_toArray, List.set_cons_zero, List.set_cons_succ]
    refine doneE (by kernel_rfl) ?_ _
    go_wp2
    refine bodyPost_ret (v := .agg #[.bool s, .slice A3 n3 c3]) (by simp [results, Try.results79, go_sem, p1, p2]) rfl ⟨A3, n3, c3, rfl, hc3, ?_, ?_⟩
    · exact ((b2.trans (d3.mono (by have := HS1.out; have := HS2.out; omega))).setCell (by have := HS1.out; simp; omega) _).setCell (by have := HS1.out; simp; omega) _
    · exact ((ints_set (ints_set hI3.out (by show w1.heap.size < w2.heap.size; have := HS2.out; omega) 0 _) (by show w1.heap.size < w2.heap.size; have := HS2.out; omega) 1 _).more (by show w.heap.size ≤ w2.heap.size; have := HS1.out; have := HS2.out; omega) (by simp [World.setCell]))
  · have HV := Lib.hid hv
    have HR := Lib.hid hr
    clear hp hv hr
    go_enter Try.func79, Try.ntmps79
    go_wp2_with fail
    refine (Order_any _ 0 w.heap.size 0 w.heap.size A1 n1 c1 _ I1a A2 n2 c2 _ I2a dig2 dig2 (by omega) (by omega) (0) (by rw [num2, num2]; exact HR.out)).mono ?_
    rintro e wq ⟨rfl, rfl⟩
    clear HR
    go_wp2_with fail
    generalize hw2 : w1.alloc (.cells #[.bool false, .slice none 0 0] 110) = w2 at *
    clear hw2 y0 y1 y2 y3 z0 z1 z2 z3
    try clear hw
    have kD : Keeps w2 w2.drew := fun _ _ => rfl
    have d2 : Below w2.heap.size w2 w2.drew := (Below.refl _ _).drew
    refine region_E (Keeps w2) [8] (m := 9) (L := #[false, false, false, false, false, false, false, false, false]) (by kernel_rfl) (by rfl) (by rfl) ?_
    refine pureE (i := 0) (L := #[true, false, false, false, false, false, false, false, false]) (v := ?_) rfl (by rfl) (by kernel_rfl) (by kernel_rfl) (by kernel_rfl) (fun _ _ _ h => h) (by rfl) ?hy10 ?rest10
    case hy10 => intro w; go_simp; (try with_reducible rfl)
    try simp only [Act.put, List.setIfInBounds_toArray, List.set_cons_zero, List.set_cons_succ]
    refine readE (i := 1) (L := #[true, true, false, false, false, false, false, false, false]) (v := .bool s) rfl (by rfl) (by kernel_rfl) (by kernel_rfl) (by kernel_rfl) (fun _ _ _ h => h) (by assumption) (by rfl) ?hyA2 ?restA2
    case hyA2 =>
      intro w' h
      obtain ⟨⟨k1, k2⟩, _⟩ := boxS ((h _ (by have := HS1.out; have := HS2.out; omega)).trans X1)
      go_simp
    try simp only [Act.put, List.setIfInBounds_toArray, List.set_cons_zero, List.set_cons_succ]
    refine pureE (i := 2) (L := #[true, true, true, false, false, false, false, false, false]) (v := ?_) rfl (by rfl) (by kernel_rfl) (by kernel_rfl) (by kernel_rfl) (fun _ _ _ h => h) (by rfl) ?hy12 ?rest12
    case hy12 => intro w; go_simp; (try with_reducible rfl)
    try simp only [Act.put, List.setIfInBounds_toArray, List.set_cons_zero, List.set_cons_succ]
    refine readE (i := 3) (L := #[true, true, true, true, false, false, false, false, false]) (v := .slice A1 n1 c1) rfl (by rfl) (by kernel_rfl) (by kernel_rfl) (by kernel_rfl) (fun _ _ _ h => h) (by assumption) (by rfl) ?hyB2 ?restB2
    case hyB2 =>
      intro w' h
      obtain ⟨⟨k1, k2⟩, _⟩ := boxS ((h _ (by have := HS1.out; have := HS2.out; omega)).trans X1)
      go_simp
    try simp only [Act.put, List.setIfInBounds_toArray, List.set_cons_zero, List.set_cons_succ]
    refine pureE (i := 4) (L := #[true, true, true, true, true, false, false, false, false]) (v := ?_) rfl (by rfl) (by kernel_rfl) (by kernel_rfl) (by kernel_rfl) (fun _ _ _ h => h) (by rfl) ?hy14 ?rest14
    case hy14 => intro w; go_simp; (try with_reducible rfl)
    try simp only [Act.put, List.setIfInBounds_toArray, List.set_cons_zero, List.set_cons_succ]
    refine readE (i := 5) (L := #[true, true, true, true, true, true, false, false, false]) (v := .slice A2 n2 c2) rfl (by rfl) (by kernel_rfl) (by kernel_rfl) (by kernel_rfl) (fun _ _ _ h => h) (by assumption) (by rfl) ?hyC2 ?restC2
    case hyC2 =>
      intro w' h
      obtain ⟨⟨k1, k2⟩, _⟩ := boxS ((h _ (by have := HS1.out; have := HS2.out; omega)).trans X2)
      go_simp
    try simp only [Act.put, List.setIfInBounds_toArray, List.set_cons_zero, List.set_cons_succ]
    refine stepK (i := 6) (L := #[true, true, true, true, true, true, true, false, false]) rfl (by rfl) (by kernel_rfl) (by rfl) (fun K hK => ?_)
    go_simp
    go_at_call 112
    refine (Minus_any w2.drew 0 w.heap.size 0 w.heap.size A1 n1 c1 _ (I1a.drewN 1) A2 n2 c2 _ (I2a.drewN 1) dig2 dig2 (by show w.heap.size ≤ w2.heap.size; have := HS1.out; have := HS2.out; omega) (by show w.heap.size ≤ w2.heap.size; have := HS1.out; have := HS2.out; omega) (by omega) (by have := canon2_len hle; have := l1.out; have := l2.out; omega) (by rw [num2, num2]; exact hle) v (by rw [num2, num2]; exact HV.out)).mono ?_
    rintro e w3 ⟨A3, n3, c3, rfl, hc3, hB, hI⟩
    have d3 := d2.trans hB
    have hI3 := Lib.hid hI
    have hs3 := hB.size
    clear hB hI
    refine hK _ _ ⟨fun _ _ p hp => d3.block p hp, ?_⟩
    clear hK K
    try simp only [Act.put, List.setIfInBounds_toArray, List.set_cons_zero, List.set_cons_succ]
    refine pureE (i := 7) (L := #[true, true, true, true, true, true, true, true, false]) (v := ?_) rfl (by rfl) (by kernel_rfl) (by kernel_rfl) (by kernel_rfl) (fun _ _ _ h => h) (by rfl) ?hy17 ?rest17
    case hy17 => intro w; go_simp; (try with_reducible rfl)
    try simp only [Act.put, List.setIfInBounds_toArray, List.set_cons_zero, List.set_cons_succ]
    obtain ⟨⟨p1, p2⟩, p3, p4⟩ := boxS ((d3.block w1.heap.size (by have := HS2.out; omega)).trans X3)
    refine stepK (i := 8) (L := #[true, true, true, true, true, true, true, true, true]) rfl (by rfl) (by kernel_rfl) (by rfl) (fun K hK => ?_)
    go_simp
    refine hK _ _ ⟨fun h => absurd h (by decide), ?_⟩
    clear hK K
    try simp only [Act.put, List.setIfInBounds_toArray, List.set_cons_zero, List.set_cons_succ]
    refine doneE (by kernel_rfl) ?_ _
    go_wp2
    refine bodyPost_ret (v := .agg #[.bool s, .slice A3 n3 c3]) (by simp [results, Try.results79, go_sem, p1, p2]) rfl ⟨A3, n3, c3, rfl, hc3, ?_, ?_⟩
    · exact ((b2.trans (d3.mono (by have := HS1.out; have := HS2.out; omega))).setCell (by have := HS1.out; simp; omega) _).setCell (by have := HS1.out; simp; omega) _
    · exact ((ints_set (ints_set hI3.out (by show w1.heap.size < w2.heap.size; have := HS2.out; omega) 0 _) (by show w1.heap.size < w2.heap.size; have := HS2.out; omega) 1 _).more (by show w.heap.size ≤ w2.heap.size; have := HS1.out; have := HS2.out; omega) (by simp [World.setCell]))
  · have HV := Lib.hid hv
    have HR := Lib.hid hr
    clear hp hv hr
    go_enter Try.func79, Try.ntmps79
    go_wp2_with fail
    refine (Order_any _ 0 w.heap.size 0 w.heap.size A1 n1 c1 _ I1a A2 n2 c2 _ I2a dig2 dig2 (by omega) (by omega) (1) (by rw [num2, num2]; exact HR.out)).mono ?_
    rintro e wq ⟨rfl, rfl⟩
    clear HR
    go_wp2_with fail
    generalize hw2 : w1.alloc (.cells #[.bool false, .slice none 0 0] 110) = w2 at *
    clear hw2 y0 y1 y2 y3 z0 z1 z2 z3
    try clear hw
    have kD : Keeps w2 w2.drew := fun _ _ => rfl
    have d2 : Below w2.heap.size w2 w2.drew := (Below.refl _ _).drew
    refine region_E (Keeps w2) [8] (m := 9) (L := #[false, false, false, false, false, false, false, false, false]) (by kernel_rfl) (by rfl) (by rfl) ?_
    refine pureE (i := 0) (L := #[true, false, false, false, false, false, false, false, false]) (v := ?_) rfl (by rfl) (by kernel_rfl) (by kernel_rfl) (by kernel_rfl) (fun _ _ _ h => h) (by rfl) ?hy19 ?rest19
    case hy19 => intro w; go_simp; (try with_reducible rfl)
    try simp only [Act.put, List.setIfInBounds_toArray, List.set_cons_zero, List.set_cons_succ]
    refine readE (i := 1) (L := #[true, true, false, false, false, false, false, false, false]) (v := .bool s) rfl (by rfl) (by kernel_rfl) (by kernel_rfl) (by kernel_rfl) (fun _ _ _ h => h) (by assumption) (by rfl) ?hyA3 ?restA3
    case hyA3 =>
      intro w' h
      obtain ⟨⟨k1, k2⟩, _⟩ := boxS ((h _ (by have := HS1.out; have := HS2.out; omega)).trans X1)
      go_simp
    try simp only [Act.put, List.setIfInBounds_toArray, List.set_cons_zero, List.set_cons_succ]
    refine pureE (i := 2) (L := #[true, true, true, false, false, false, false, false, false]) (v := ?_) rfl (by rfl) (by kernel_rfl) (by kernel_rfl) (by kernel_rfl) (fun _ _ _ h => h) (by rfl) ?hy21 ?rest21
    case hy21 => intro w; go_simp; (try with_reducible rfl)
    try simp only [Act.put, List.setIfInBounds_toArray, List.set_cons_zero, List.set_cons_succ]
    refine readE (i := 3) (L := #[true, true, true, true, false, false, false, false, false]) (v := .slice A1 n1 c1) rfl (by rfl) (by kernel_rfl) (by kernel_rfl) (by kernel_rfl) (fun _ _ _ h => h) (by assumption) (by rfl) ?hyB3 ?restB3
    case hyB3 =>
      intro w' h
      obtain ⟨⟨k1, k2⟩, _⟩ := boxS ((h _ (by have := HS1.out; have := HS2.out; omega)).trans X1)
      go_simp
    try simp only [Act.put, List.setIfInBounds_toArray, List.set_cons_zero, List.set_cons_succ]
    refine pureE (i := 4) (L := #[true, true, true, true, true, false, false, false, false]) (v := ?_) rfl (by rfl) (by kernel_rfl) (by kernel_rfl) (by kernel_rfl) (fun _ _ _ h => h) (by rfl) ?hy23 ?rest23
    case hy23 => intro w; go_simp; (try with_reducible rfl)
    try simp only [Act.put, List.setIfInBounds_toArray, List.set_cons_zero, List.set_cons_succ]
    refine readE (i := 5) (L := #[true, true, true, true, true, true, false, false, false]) (v := .slice A2 n2 c2) rfl (by rfl) (by kernel_rfl) (by kernel_rfl) (by kernel_rfl) (fun _ _ _ h => h) (by assumption) (by rfl) ?hyC3 ?restC3
    case hyC3 =>
      intro w' h
      obtain ⟨⟨k1, k2⟩, _⟩ := boxS ((h _ (by have := HS1.out; have := HS2.out; omega)).trans X2)
      go_simp
    try simp only [Act.put, List.setIfInBounds_toArray, List.set_cons_zero, List.set_cons_succ]
    refine stepK (i := 6) (L := #[true, true, true, true, true, true, true, false, false]) rfl (by rfl) (by kernel_rfl) (by rfl) (fun K hK => ?_)
    go_simp
    go_at_call 112
    refine (Minus_any w2.drew 0 w.heap.size 0 w.heap.size A1 n1 c1 _ (I1a.drewN 1) A2 n2 c2 _ (I2a.drewN 1) dig2 dig2 (by show w.heap.size ≤ w2.heap.size; have := HS1.out; have := HS2.out; omega) (by show w.heap.size ≤ w2.heap.size; have := HS1.out; have := HS2.out; omega) (by omega) (by have := canon2_len hle; have := l1.out; have := l2.out; omega) (by rw [num2, num2]; exact hle) v (by rw [num2, num2]; exact HV.out)).mono ?_
    rintro e w3 ⟨A3, n3, c3, rfl, hc3, hB, hI⟩
    have d3 := d2.trans hB
    have hI3 := Lib.hid hI
    have hs3 := hB.size
    clear hB hI
    refine hK _ _ ⟨fun _ _ p hp => d3.block p hp, ?_⟩
    clear hK K
    try simp only [Act.put, List.setIfInBounds_toArray, List.set_cons_zero, List.set_cons_succ]
    refine pureE (i := 7) (L := #[true, true, true, true, true, true, true, true, false]) (v := ?_) rfl (by rfl) (by kernel_rfl) (by kernel_rfl) (by kernel_rfl) (fun _ _ _ h => h) (by rfl) ?hy26 ?rest26
    case hy26 => intro w; go_simp; (try with_reducible rfl)
    try simp only [Act.put, List.setIfInBounds_toArray, List.set_cons_zero, List.set_cons_succ]
    obtain ⟨⟨p1, p2⟩, p3, p4⟩ := boxS ((d3.block w1.heap.size (by have := HS2.out; omega)).trans X3)
    refine stepK (i := 8) (L := #[true, true, true, true, true, true, true, true, true]) rfl (by rfl) (by kernel_rfl) (by rfl) (fun K hK => ?_)
    go_simp
    refine hK _ _ ⟨fun h => absurd h (by decide), ?_⟩
    clear hK K
    try simp only [Act.put, List.setIfInBounds_toArray, List.set_cons_zero, List.set_cons_succ]
    refine doneE (by kernel_rfl) ?_ _
    go_wp2
    refine bodyPost_ret (v := .agg #[.bool s, .slice A3 n3 c3]) (by simp [results, Try.results79, go_sem, p1, p2]) rfl ⟨A3, n3, c3, rfl, hc3, ?_, ?_⟩
    · exact ((b2.trans (d3.mono (by have := HS1.out; have := HS2.out; omega))).setCell (by have := HS1.out; simp; omega) _).setCell (by have := HS1.out; simp; omega) _
    · exact ((ints_set (ints_set hI3.out (by show w1.heap.size < w2.heap.size; have := HS2.out; omega) 0 _) (by show w1.heap.size < w2.heap.size; have := HS2.out; omega) 1 _).more (by show w.heap.size ≤ w2.heap.size; have := HS1.out; have := HS2.out; omega) (by simp [World.setCell]))
  · have HV := Lib.hid hv
    have HR := Lib.hid hr
    clear hp hv hr
    go_enter Try.func79, Try.ntmps79
    go_wp2_with fail
    refine (Order_any _ 0 w.heap.size 0 w.heap.size A1 n1 c1 _ I1a A2 n2 c2 _ I2a dig2 dig2 (by omega) (by omega) (-1) (by rw [num2, num2]; exact HR.out)).mono ?_
    rintro e wq ⟨rfl, rfl⟩
    clear HR
    go_wp2_with fail
    generalize hw2 : w1.alloc (.cells #[.bool false, .slice none 0 0] 110) = w2 at *
    clear hw2 y0 y1 y2 y3 z0 z1 z2 z3
    try clear hw
    have kD : Keeps w2 w2.drew := fun _ _ => rfl
    have d2 : Below w2.heap.size w2 w2.drew := (Below.refl _ _).drew
    refine region_E (Keeps w2) [8] (m := 9) (L := #[false, false, false, false, false, false, false, false, false]) (by kernel_rfl) (by rfl) (by rfl) ?_
    refine pureE (i := 0) (L := #[true, false, false, false, false, false, false, false, false]) (v := ?_) rfl (by rfl) (by kernel_rfl) (by kernel_rfl) (by kernel_rfl) (fun _ _ _ h => h) (by rfl) ?hy28 ?rest28
    case hy28 => intro w; go_simp; (try with_reducible rfl)
    try simp only [Act.put, List.setIfInBounds_toArray, List.set_cons_zero, List.set_cons_succ]
    refine readE (i := 1) (L := #[true, true, false, false, false, false, false, false, false]) (v := .bool s) rfl (by rfl) (by kernel_rfl) (by kernel_rfl) (by kernel_rfl) (fun _ _ _ h => h) (by assumption) (by rfl) ?hyA4 ?restA4
    case hyA4 =>
      intro w' h
      obtain ⟨⟨k1, k2⟩, _⟩ := boxS ((h _ (by have := HS1.out; have := HS2.out; omega)).trans X2)
      go_simp
    try simp only [Act.put, List.setIfInBounds_toArray, List.set_cons_zero, List.set_cons_succ]
    refine pureE (i := 2) (L := #[true, true, true, false, false, false, false, false, false]) (v := ?_) rfl (by rfl) (by kernel_rfl) (by kernel_rfl) (by kernel_rfl) (fun _ _ _ h => h) (by rfl) ?hy30 ?rest30
    case hy30 => intro w; go_simp; (try with_reducible rfl)
    try simp only [Act.put, List.setIfInBounds_toArray, List.set_cons_zero, List.set_cons_succ]
    refine readE (i := 3) (L := #[true, true, true, true, false, false, false, false, false]) (v := .slice A2 n2 c2) rfl (by rfl) (by kernel_rfl) (by kernel_rfl) (by kernel_rfl) (fun _ _ _ h => h) (by assumption) (by rfl) ?hyB4 ?restB4
    case hyB4 =>
      intro w' h
      obtain ⟨⟨k1, k2⟩, _⟩ := boxS ((h _ (by have := HS1.out; have := HS2.out; omega)).trans X2)
      go_simp
    try simp only [Act.put, List.setIfInBounds_toArray, List.set_cons_zero, List.set_cons_succ]
    refine pureE (i := 4) (L := #[true, true, true, true, true, false, false, false, false]) (v := ?_) rfl (by rfl) (by kernel_rfl) (by kernel_rfl) (by kernel_rfl) (fun _ _ _ h => h) (by rfl) ?hy32 ?rest32
    case hy32 => intro w; go_simp; (try with_reducible rfl)
    try simp only [Act.put, List.setIfInBounds_toArray, List.set_cons_zero, List.set_cons_succ]
    refine readE (i := 5) (L := #[true, true, true, true, true, true, false, false, false]) (v := .slice A1 n1 c1) rfl (by rfl) (by kernel_rfl) (by kernel_rfl) (by kernel_rfl) (fun _ _ _ h => h) (by assumption) (by rfl) ?hyC4 ?restC4
    case hyC4 =>
      intro w' h
      obtain ⟨⟨k1, k2⟩, _⟩ := boxS ((h _ (by have := HS1.out; have := HS2.out; omega)).trans X1)
      go_simp
    try simp only [Act.put, List.setIfInBounds_toArray, List.set_cons_zero, List.set_cons_succ]
    refine stepK (i := 6) (L := #[true, true, true, true, true, true, true, false, false]) rfl (by rfl) (by kernel_rfl) (by rfl) (fun K hK => ?_)
    go_simp
    go_at_call 112
    refine (Minus_any w2.drew 0 w.heap.size 0 w.heap.size A2 n2 c2 _ (I2a.drewN 1) A1 n1 c1 _ (I1a.drewN 1) dig2 dig2 (by show w.heap.size ≤ w2.heap.size; have := HS1.out; have := HS2.out; omega) (by show w.heap.size ≤ w2.heap.size; have := HS1.out; have := HS2.out; omega) (by omega) (by have := canon2_len hle; have := l1.out; have := l2.out; omega) (by rw [num2, num2]; exact hle) v (by rw [num2, num2]; exact HV.out)).mono ?_
    rintro e w3 ⟨A3, n3, c3, rfl, hc3, hB, hI⟩
    have d3 := d2.trans hB
    have hI3 := Lib.hid hI
    have hs3 := hB.size
    clear hB hI
    refine hK _ _ ⟨fun _ _ p hp => d3.block p hp, ?_⟩
    clear hK K
    try simp only [Act.put, List.setIfInBounds_toArray, List.set_cons_zero, List.set_cons_succ]
    refine pureE (i := 7) (L := #[true, true, true, true, true, true, true, true, false]) (v := ?_) rfl (by rfl) (by kernel_rfl) (by kernel_rfl) (by kernel_rfl) (fun _ _ _ h => h) (by rfl) ?hy35 ?rest35
    case hy35 => intro w; go_simp; (try with_reducible rfl)
    try simp only [Act.put, List.setIfInBounds_toArray, List.set_cons_zero, List.set_cons_succ]
    obtain ⟨⟨p1, p2⟩, p3, p4⟩ := boxS ((d3.block w1.heap.size (by have := HS2.out; omega)).trans X3)
    refine stepK (i := 8) (L := #[true, true, true, true, true, true, true, true, true]) rfl (by rfl) (by kernel_rfl) (by rfl) (fun K hK => ?_)
    go_simp
    refine hK _ _ ⟨fun h => absurd h (by decide), ?_⟩
    clear hK K
    try simp only [Act.put, List.setIfInBounds_toArray, List.set_cons_zero, List.set_cons_succ]
    refine doneE (by kernel_rfl) ?_ _
    go_wp2
    refine bodyPost_ret (v := .agg #[.bool s, .slice A3 n3 c3]) (by simp [results, Try.results79, go_sem, p1, p2]) rfl ⟨A3, n3, c3, rfl, hc3, ?_, ?_⟩
    · exact ((b2.trans (d3.mono (by have := HS1.out; have := HS2.out; omega))).setCell (by have := HS1.out; simp; omega) _).setCell (by have := HS1.out; simp; omega) _
    · exact ((ints_set (ints_set hI3.out (by show w1.heap.size < w2.heap.size; have := HS2.out; omega) 0 _) (by show w1.heap.size < w2.heap.size; have := HS2.out; omega) 1 _).more (by show w.heap.size ≤ w2.heap.size; have := HS1.out; have := HS2.out; omega) (by simp [World.setCell]))
end Dy
end Go.Proofs.Ytbbnbgllgomolaa
