/- The laws of quotients: no program in sight. -/
/- The laws of quotients, for any arguments: no program in sight. -/
/- Quotients of whole numbers: no program in sight. -/
/- Facts are moved along a chain of calls. No function in sight. -/
/- The law RatioBand: a walk (printed by a program of mine). -/
/- The reference's May: walks (printed by gen_dys1.py out of DyW1). -/
/- The limbs of bits: the walk. -/
/- The reference's In: a dyad in parts of 2^-k; a walk. -/
import Derived.Test.YtbbnbgllgomolaaBe08
import Derived.Test.YtbbnbgllgomolaaBe03
import Derived.Test.YtbbnbgllgomolaaBe07
import Derived.Test.YtbbnbgllgomolaaBe06
namespace Go.Proofs.Ytbbnbgllgomolaa
namespace Dp
theorem floor_neg {M B : Nat} (hB : 0 < B) : (-(M : Int)) / (B : Int) = -((M / B + (if M % B ≠ 0 then 1 else 0) : Nat) : Int) := by
 have h1 : B * (M / B) + M % B = M := Nat.div_add_mod M B
 have h2 := Nat.mod_lt M hB
 have h3 : ((B : Int) * ((M / B : Nat) : Int)) + ((M % B : Nat) : Int) = M := by exact_mod_cast h1
 generalize M / B = q at *
 generalize M % B = r at *
 split
 · refine ((Int.ediv_emod_unique (r := (B : Int) - r) (by omega)).2 ⟨?_, by omega, by omega⟩).1
   rw [Int.natCast_add, Int.mul_neg, Int.mul_add]
   simp only [Int.natCast_one, Int.mul_one]
   omega
 · refine ((Int.ediv_emod_unique (r := 0) (by omega)).2 ⟨?_, by omega, by omega⟩).1
   rw [Nat.add_zero, Int.mul_neg]
   omega
theorem quo_at (a b : Dn) (k : Nat) {K : Nat} (hK : a.e + b.e ≤ K) : (quoN a b k).1 = (a.m * 2 ^ (K - a.e) * 2 ^ k) / (b.m * 2 ^ (K - b.e)) ∧ ((quoN a b k).2 = 0 ↔ (a.m * 2 ^ (K - a.e) * 2 ^ k) % (b.m * 2 ^ (K - b.e)) = 0) := by
 obtain ⟨h1, h2⟩ := quo_shift (a.m * 2 ^ (b.e + k)) (b.m * 2 ^ a.e) (K - a.e - b.e)
 have e1 : a.m * 2 ^ (b.e + k) * 2 ^ (K - a.e - b.e) = a.m * 2 ^ (K - a.e) * 2 ^ k := by
  rw [Nat.mul_assoc, Nat.mul_assoc, ← Nat.pow_add, ← Nat.pow_add]
  congr 2
  omega
 have e2 : b.m * 2 ^ a.e * 2 ^ (K - a.e - b.e) = b.m * 2 ^ (K - b.e) := by
  rw [Nat.mul_assoc, ← Nat.pow_add]
  congr 2
  omega
 rw [e1, e2] at h1 h2
 exact ⟨h1.symm, h2.symm⟩
theorem vl_pos {b : Dn} (hn : b.neg = false) (h0 : b.m ≠ 0) (K : Nat) : vl b K = ((b.m * 2 ^ (K - b.e) : Nat) : Int) ∧ 0 < b.m * 2 ^ (K - b.e) := by
 unfold vl sg
 rw [hn]
 exact ⟨rfl, Nat.mul_pos (Nat.pos_of_ne_zero h0) (Nat.pow_pos (by decide))⟩
theorem pos_vl {b : Dn} {K : Nat} (h : 0 < vl b K) : b.neg = false ∧ b.m ≠ 0 := by
 unfold vl sg at h
 cases hn : b.neg
 · refine ⟨rfl, fun h0 => ?_⟩
   rw [hn, h0] at h
   simp at h
 · rw [hn] at h
   simp only [if_true] at h
   omega
theorem vl_scaled (a : Dn) (K k : Nat) : vl a K * (2 : Int) ^ k = sg a.neg (a.m * 2 ^ (K - a.e) * 2 ^ k) := by
 unfold vl
 rw [sg_mul _ _ (2 ^ k)]
 norm_cast
/-- Down. -/
theorem toD_floor {a b : Dn} (hn : b.neg = false) (h0 : b.m ≠ 0) (k : Nat) {K : Nat} (hK : a.e + b.e ≤ K) :
  ∃ N, toD a b k a.neg = formed a.neg N k ∧ sg a.neg N = vl a K * 2 ^ k / vl b K := by
 obtain ⟨q1, q2⟩ := quo_at a b k hK
 obtain ⟨b1, b2⟩ := vl_pos hn h0 K
 refine ⟨_, rfl, ?_⟩
 rw [vl_scaled, b1]
 generalize a.m * 2 ^ (K - a.e) * 2 ^ k = M at *
 generalize b.m * 2 ^ (K - b.e) = B at *
 cases a.neg
 · rw [if_neg (fun h => by cases h.2), Nat.add_zero, q1]
   exact Int.natCast_ediv M B
 · show -(((_ : Nat)) : Int) = (-(M : Int)) / (B : Int)
   rw [floor_neg b2, q1]
   congr 2
   by_cases h : M % B = 0
   · simp [q2.2 h, h]
   · simp [mt q2.1 h, h]
/-- Up. -/
theorem toD_ceil {a b : Dn} (hn : b.neg = false) (h0 : b.m ≠ 0) (k : Nat) {K : Nat} (hK : a.e + b.e ≤ K) :
  ∃ N, toD a b k (!a.neg) = formed a.neg N k ∧ sg a.neg N = -(-(vl a K * 2 ^ k) / vl b K) := by
 obtain ⟨q1, q2⟩ := quo_at a b k hK
 obtain ⟨b1, b2⟩ := vl_pos hn h0 K
 refine ⟨_, rfl, ?_⟩
 rw [vl_scaled, b1]
 generalize a.m * 2 ^ (K - a.e) * 2 ^ k = M at *
 generalize b.m * 2 ^ (K - b.e) = B at *
 cases a.neg
 · show (((_ : Nat)) : Int) = -(-(M : Int) / (B : Int))
   rw [floor_neg b2, q1, Int.neg_neg]
   congr 2
   by_cases h : M % B = 0
   · simp [q2.2 h, h]
   · simp [mt q2.1 h, h]
 · rw [if_neg (fun h => by cases h.2), Nat.add_zero, q1]
   show -((M / B : Nat) : Int) = -(-(-(M : Int)) / (B : Int))
   rw [Int.neg_neg]
   rw [Int.natCast_ediv M B]
end Dp
end Go.Proofs.Ytbbnbgllgomolaa
namespace Go.Proofs.Ytbbnbgllgomolaa
namespace Dy
open Dp
theorem dn_ne {s : Bool} {xs : List Int} {e : Int} (hd : Dig 4294967296 xs) (h : MayD s xs e) (hx : xs ≠ []) : (dn s xs e).m ≠ 0 := fun h0 => hx (by rw [← (dn_ok hd h).2.1, h0]; rfl)
theorem cmpX_dn {x y : Dn} (hx : x.May) (hy : y.May) : cmpX x.neg (canon 4294967296 x.m) x.e y.neg (canon 4294967296 y.m) y.e = (cmpD x y, 0) := by
 unfold cmpX
 rw [if_pos ⟨dn_may hx, dn_may hy⟩, dn_of, dn_of]
/-- Codes of quotients. -/
theorem toX_code {s1 : Bool} {xs1 : List Int} {e1 : Int} {s2 : Bool} {xs2 : List Int} {e2 k : Int} {away : Bool} {x : Dn} {c : Int} (h : toX s1 xs1 e1 s2 xs2 e2 k away = (x, c)) : (askX s1 xs1 e1 s2 xs2 e2 k = 0 ∧ (c = 0 ∨ c = 10)) ∨ (askX s1 xs1 e1 s2 xs2 e2 k = c ∧ c ≠ 0) := by
 unfold toX at h
 split at h
 · rename_i hm
   rcases formed_cases (dn s1 xs1 e1).neg ((quoN (dn s1 xs1 e1) (dn s2 xs2 e2) k.toNat).1 + if (quoN (dn s1 xs1 e1) (dn s2 xs2 e2) k.toNat).2 ≠ 0 ∧ away = true then 1 else 0) k.toNat with hc | hc
   · have h2 := congrArg Prod.snd h
     exact .inl ⟨hm, .inl (h2.symm.trans hc)⟩
   · have h2 := congrArg Prod.snd h
     exact .inl ⟨hm, .inr (h2.symm.trans (congrArg Prod.snd hc))⟩
 · rename_i hm
   have := congrArg Prod.snd h
   exact .inr ⟨this, fun e => hm (this.trans e)⟩
end Dy
end Go.Proofs.Ytbbnbgllgomolaa
namespace Go.Proofs.Ytbbnbgllgomolaa
namespace Dp
/-- A whole number. -/
def whole (z : Int) : Dn := ⟨decide (z < 0), z.natAbs, 0⟩
theorem whole_may {z : Int} (h0 : -9223372036854775808 ≤ z) (h1 : z ≤ 9223372036854775807) : (whole z).May := by
 refine ⟨capD_gt (k := 64) (show z.natAbs < 2 ^ 64 by omega) (by decide), Nat.zero_le _, fun h => ⟨rfl, ?_⟩, fun h => absurd h (Nat.lt_irrefl 0)⟩
 have h : z.natAbs = 0 := h
 exact decide_eq_false (by omega)
theorem vl_whole (z : Int) : vl (whole z) 0 = z := by
 unfold vl sg whole
 simp only [Nat.sub_self, Nat.pow_zero, Nat.mul_one]
 split
 · rename_i h
   have := of_decide_eq_true h
   omega
 · rename_i h
   have : ¬ z < 0 := fun k => h (decide_eq_true k)
   omega
theorem whole_of {s : Bool} {N : Nat} {z : Int} (h0 : -9223372036854775808 ≤ z) (h1 : z ≤ 9223372036854775807) (h : sg s N = z) : formed s N 0 = (whole z, 0) :=
 formed_of (K := 0) (whole_may h0 h1) (Nat.le_refl _) (Nat.le_refl _) (by rw [vl_whole, Nat.sub_self, Nat.pow_zero, Nat.mul_one, h])
end Dp
end Go.Proofs.Ytbbnbgllgomolaa
namespace Go.Proofs.Ytbbnbgllgomolaa
open Go.RowKit
namespace Dy
open Dp
theorem later {a b c : World} (h : Below a.heap.size a b) (k : Below b.heap.size b c) : Below a.heap.size a c := h.trans (k.mono h.size)
theorem box_later {w w' : World} {g : Nat} {o : Obj} (h : w.heap[g]? = some o) (hb : Below w.heap.size w w') (hg : g < w.heap.size) : w'.heap[g]? = some o := (hb.block g hg).trans h
end Dy
end Go.Proofs.Ytbbnbgllgomolaa
namespace Go.Proofs.Ytbbnbgllgomolaa
open Go.RowKit
namespace Dy
open Dp
/-- How the codes of a quotient down and up stand. -/
theorem codes_two {s1 : Bool} {xs1 : List Int} {e1 : Int} {s2 : Bool} {xs2 : List Int} {e2 k : Int} {aw bw : Bool} {x y : Dn} {e f : Int} (hx : toX s1 xs1 e1 s2 xs2 e2 k aw = (x, e)) (hy : toX s1 xs1 e1 s2 xs2 e2 k bw = (y, f)) :
  (e = 0 ∧ f = 0) ∨ (e = 0 ∧ f = 10) ∨ (e = 10 ∧ f = 0) ∨ (e = 10 ∧ f = 10) ∨ (e = 2 ∧ f = 2 ∧ askX s1 xs1 e1 s2 xs2 e2 k = 2) ∨ (e = 8 ∧ f = 8 ∧ askX s1 xs1 e1 s2 xs2 e2 k = 8) := by
 rcases ask_two s1 xs1 e1 s2 xs2 e2 k with h | h | h <;> rcases toX_code hx with ⟨h1, h2⟩ | ⟨h1, h2⟩ <;> rcases toX_code hy with ⟨h3, h4⟩ | ⟨h3, h4⟩ <;> omega
end Dy
end Go.Proofs.Ytbbnbgllgomolaa
namespace Go.Proofs.Ytbbnbgllgomolaa
open Go.RowKit
namespace Dy
open Dp
set_option maxRecDepth 100000 in
/-- headcountref01.May: limbs that may be. -/
theorem r1May_ok (w : World) (lo hi : Nat) (A : Option Addr) (n c : Nat) (xs : List Int) (hX : Ints w lo hi .u32 A n xs) (h : MayL xs) :
  Calls Try.prog 127 #[.slice A n c] w fun e w' => e = .returned (.bool true) ∧ w' = w := by
 have hL := Lib.hid hX.len
 have h40 : n ≤ 40 := by have := h.1; have := hL.out; omega
 by_cases h0 : 0 < n
 · have hlast := (cutd_last hX.len h0).1 h.2
   obtain ⟨b, off, rfl, hcell⟩ := get hX h0
   have g1 : w.cell? ⟨b, off + (n - 1), none⟩ = some (.int .u32 (xs[n - 1]?.getD 0)) := hcell (n - 1) (by omega)
   have hb : (xs[n - 1]?.getD 0 != 0) = true := by simpa using hlast
   have hn0 : ((n : Int) == 0) = false := by simp; omega
   have e1 : ((n : Int) - 1).toNat = n - 1 := by omega
   clear hcell hlast h
   generalize xs[n - 1]?.getD 0 = v at g1 hb
   go_enter Try.func127, Try.ntmps127
   go_wp2
   go_ret
   exact ⟨rfl, rfl⟩
 · obtain rfl : n = 0 := by omega
   clear h
   go_enter Try.func127, Try.ntmps127
   go_wp2
   go_ret
   exact ⟨rfl, rfl⟩
set_option maxRecDepth 100000 in
/-- headcountref01.May: limbs that may not be. -/
theorem r1May_bad (w : World) (lo hi : Nat) (A : Option Addr) (n c : Nat) (xs : List Int) (hX : Ints w lo hi .u32 A n xs) (h : ¬ MayL xs) :
  Calls Try.prog 127 #[.slice A n c] w fun e w' => e = .returned (.bool false) ∧ w' = w := by
 have hL := Lib.hid hX.len
 have hbig := hX.big
 by_cases h40 : n ≤ 40
 · have h0 : 0 < n := by
     rcases Nat.eq_zero_or_pos n with h0 | h0
     · exact absurd ⟨by have := hL.out; omega, fun hne => absurd (hX.zero h0) hne⟩ h
     · exact h0
   have hlast : xs[n - 1]?.getD 0 = 0 := by
    by_cases hl : xs[n - 1]?.getD 0 = 0
    · exact hl
    · exact absurd ⟨by have := hL.out; omega, (cutd_last hX.len h0).2 hl⟩ h
   obtain ⟨b, off, rfl, hcell⟩ := get hX h0
   have g1 : w.cell? ⟨b, off + (n - 1), none⟩ = some (.int .u32 (xs[n - 1]?.getD 0)) := hcell (n - 1) (by omega)
   rw [hlast] at g1
   have hn0 : ((n : Int) == 0) = false := by simp; omega
   have e1 : ((n : Int) - 1).toNat = n - 1 := by omega
   clear hcell hlast h
   go_enter Try.func127, Try.ntmps127
   go_wp2
   go_ret
   exact ⟨rfl, rfl⟩
 · clear h
   go_enter Try.func127, Try.ntmps127
   go_wp2
   go_ret
   exact ⟨rfl, rfl⟩
set_option maxHeartbeats 800000 in
set_option maxRecDepth 100000 in
/-- headcountref02.May: dyads that may be. -/
theorem rMay_ok (w : World) (lo hi : Nat) (s : Bool) (A : Option Addr) (n c : Nat) (xs : List Int) (ex : Int) (hX : Ints w lo hi .u32 A n xs) (hhi : hi ≤ w.heap.size) (h : MayD s xs ex) :
  Calls Try.prog 101 #[.agg #[.bool s, .slice A n c, .int .i64 ex]] w fun e w' => e = .returned (.bool true) ∧ Below w.heap.size w w' := by
 have hL := Lib.hid hX.len
 have hX2 := hX.alloc hhi (.cells #[.bool s, .slice A n c, .int .i64 ex] 25)
 have hB := (Below.refl w.heap.size w).alloc (Nat.le_refl _) (.cells #[.bool s, .slice A n c, .int .i64 ex] 25)
 obtain ⟨hmay, he0, he1, hz, ho⟩ := h
 by_cases h0 : 0 < n
 · have hne : xs ≠ [] := fun e => by have := hL.out; rw [e] at this; simp at this; omega
   obtain ⟨b, off, rfl, hcell⟩ := get hX2 h0
   have g1 := hcell 0 h0
   rw [Nat.add_zero] at g1
   have ho' := ho hne
   have hn0 : ((n : Int) == 0) = false := by simp; omega
   obtain ⟨v0, v1⟩ := hX.u32 0
   clear hcell hz ho
   generalize xs[0]?.getD 0 = v at g1 ho' v0 v1
   by_cases hpos : 0 < ex
   · have hv := ho' hpos
     have hv2 : v % 2 = 1 := hv
     clear ho' hv hne
     go_enter Try.func101, Try.ntmps101
     go_wp2_with fail
     refine (r1May_ok _ _ _ _ _ _ _ hX2 hmay).mono ?_
     rintro e w1 ⟨rfl, rfl⟩
     clear hmay
     go_wp2
     go_ret
     exact ⟨rfl, hB⟩
   · obtain rfl : ex = 0 := by omega
     clear ho' hne he0 he1
     go_enter Try.func101, Try.ntmps101
     go_wp2_with fail
     refine (r1May_ok _ _ _ _ _ _ _ hX2 hmay).mono ?_
     rintro e w1 ⟨rfl, rfl⟩
     clear hmay
     go_wp2
     go_ret
     exact ⟨rfl, hB⟩
 · obtain rfl : n = 0 := by omega
   obtain ⟨rfl, rfl⟩ := hz (hX.zero rfl)
   clear ho he0 he1
   go_enter Try.func101, Try.ntmps101
   go_wp2_with fail
   refine (r1May_ok _ _ _ _ _ _ _ hX2 hmay).mono ?_
   rintro e w1 ⟨rfl, rfl⟩
   clear hmay
   go_wp2
   go_ret
   exact ⟨rfl, hB⟩
set_option maxHeartbeats 1600000 in
set_option maxRecDepth 100000 in
/-- headcountref02.May: dyads that may not be. -/
theorem rMay_bad (w : World) (lo hi : Nat) (s : Bool) (A : Option Addr) (n c : Nat) (xs : List Int) (ex : Int) (hX : Ints w lo hi .u32 A n xs) (hhi : hi ≤ w.heap.size) (h : ¬ MayD s xs ex) :
  Calls Try.prog 101 #[.agg #[.bool s, .slice A n c, .int .i64 ex]] w fun e w' => e = .returned (.bool false) ∧ Below w.heap.size w w' := by
 have hL := Lib.hid hX.len
 have hX2 := hX.alloc hhi (.cells #[.bool s, .slice A n c, .int .i64 ex] 25)
 have hB := (Below.refl w.heap.size w).alloc (Nat.le_refl _) (.cells #[.bool s, .slice A n c, .int .i64 ex] 25)
 have hbig := hX.big
 rcases not_may h with hm | ⟨hm, hx⟩ | ⟨hm, h0, h1, hz, hx⟩ | ⟨hm, h0, h1, hz, hx⟩
 · clear h
   go_enter Try.func101, Try.ntmps101
   go_wp2_with fail
   refine (r1May_bad _ _ _ _ _ _ _ hX2 hm).mono ?_
   rintro e w1 ⟨rfl, rfl⟩
   clear hm
   by_cases hn0 : n = 0
   · subst hn0
     go_wp2
     go_ret
     exact ⟨rfl, hB⟩
   · have hn1 : ((n : Int) == 0) = false := by simp; omega
     go_wp2
     go_ret
     exact ⟨rfl, hB⟩
 · clear h
   have hn1 : n ≠ 0 → ((n : Int) == 0) = false := fun h => by simp; omega
   rcases hx with hx | hx
   all_goals
    by_cases hn0 : n = 0
    · subst hn0
      clear hn1
      go_enter Try.func101, Try.ntmps101
      go_wp2_with fail
      refine (r1May_ok _ _ _ _ _ _ _ hX2 hm).mono ?_
      rintro e w1 ⟨rfl, rfl⟩
      clear hm
      go_wp2
      go_ret
      exact ⟨rfl, hB⟩
    · have hn2 := hn1 hn0
      clear hn1
      go_enter Try.func101, Try.ntmps101
      go_wp2_with fail
      refine (r1May_ok _ _ _ _ _ _ _ hX2 hm).mono ?_
      rintro e w1 ⟨rfl, rfl⟩
      clear hm
      go_wp2
      go_ret
      exact ⟨rfl, hB⟩
 · clear h
   subst hz
   obtain rfl : n = 0 := by have := hL.out; simp at this; omega
   by_cases hx0 : ex = 0
   · subst hx0
     obtain rfl : s = true := hx.resolve_left (fun h => h rfl)
     clear hx
     go_enter Try.func101, Try.ntmps101
     go_wp2_with fail
     refine (r1May_ok _ _ _ _ _ _ _ hX2 hm).mono ?_
     rintro e w1 ⟨rfl, rfl⟩
     clear hm
     go_wp2
     go_ret
     exact ⟨rfl, hB⟩
   · have hx1 : (ex != 0) = true := by simpa using hx0
     clear hx
     go_enter Try.func101, Try.ntmps101
     go_wp2_with fail
     refine (r1May_ok _ _ _ _ _ _ _ hX2 hm).mono ?_
     rintro e w1 ⟨rfl, rfl⟩
     clear hm
     go_wp2
     go_ret
     exact ⟨rfl, hB⟩
 · clear h
   have hn0 : 0 < n := by
    rcases Nat.eq_zero_or_pos n with h0 | h0
    · exact absurd (hX.zero h0) hz
    · exact h0
   obtain ⟨b, off, rfl, hcell⟩ := get hX2 hn0
   have g1 := hcell 0 hn0
   rw [Nat.add_zero] at g1
   have hn1 : ((n : Int) == 0) = false := by simp; omega
   obtain ⟨v0, v1⟩ := hX.u32 0
   clear hcell hz
   generalize xs[0]?.getD 0 = v at g1 hx v0 v1
   have hv : v % 2 = 0 := by omega
   have hx0 : (ex == 0) = false := by simp; omega
   clear hx
   go_enter Try.func101, Try.ntmps101
   go_wp2_with fail
   refine (r1May_ok _ _ _ _ _ _ _ hX2 hm).mono ?_
   rintro e w1 ⟨rfl, rfl⟩
   clear hm
   go_wp2
   go_ret
   exact ⟨rfl, hB⟩
end Dy
end Go.Proofs.Ytbbnbgllgomolaa
namespace Go.Proofs.Ytbbnbgllgomolaa
open Go.RowKit
namespace Dy
theorem Try.info70 : (Try.prog.info? 70).map (fun i => (i.zero, i.size, i.bytes)) = some (some (.int .u32 0), 1, 4) := by kernel_rfl
set_option maxHeartbeats 3200000 in
set_option maxRecDepth 100000 in
/-- headcountref01.Limbs. -/
theorem Limbs_any (w : World) (lo hi : Nat) (A : Option Addr) (n c : Nat) (xs : List Int) (hX : Ints w lo hi .u8 A n xs) (hdx : Dig 2 xs) (hnc : n ≤ c) (hhi : hi ≤ w.heap.size) (hn : n ≤ 1000000) (v : Nat) (hv : num 2 xs = v) :
  Calls Try.prog 102 #[.slice A n c] w fun e w' => ∃ A' n' c', e = .returned (.slice A' n' c') ∧ n' ≤ c' ∧ Below w.heap.size w w' ∧ Ints w' w.heap.size w'.heap.size .u32 A' n' (canon 4294967296 v) := by
 obtain ⟨i0, hi0, hz0, hz1, hz2⟩ := info_parts Try.info70
 go_enter Try.func102, Try.ntmps102
 go_wp2_with fail
 refine (Cut_any _ _ _ _ _ _ _ hX hdx hnc).mono ?_
 rintro e w1 ⟨⟨m, rfl, hmn, hI⟩, rfl⟩
 rw [hv] at hI
 clear hv hdx hX
 obtain ⟨ys, hys⟩ : ∃ ys, canon 2 v = ys := ⟨_, rfl⟩
 have hspec := canon_spec 2 v (by decide)
 rw [hys] at hspec hI
 obtain ⟨hdy, hcy, hvy⟩ := hspec
 have HL := Lib.hid hI.len
 have HV := Lib.hid hvy
 clear hys hvy
 go_wp2
 go_loopw [3, 4] (fun o i wr => ∃ j : Nat, ∃ out : List Int, i = .int .i64 ((32 * j : Nat) : Int) ∧ 32 * j ≤ m + 31 ∧ wr.ownsRow w1.heap.size 70 1 o j (out.map (Value.int .u32)) ∧ Dig 4294967296 out ∧ Hid (num 4294967296 out = num 2 (ys.take (32 * j))) ∧ Below w1.heap.size w1 wr)
  (fun _ i _ => m + 32 - (intOf i).toNat)
 case atStart => exact ⟨0, [], rfl, by omega, ⟨rfl, .inl ⟨rfl, rfl⟩⟩, fun x hx => (by simp at hx), by simp [Hid, num], Below.refl _ _⟩
 case round =>
  obtain ⟨j, out, rfl, hj, hown, hdo, hnum, hnx⟩ := hrel
  obtain ⟨wo, rfl⟩ : ∃ wo : World, wo = wr := ⟨_, rfl⟩
  by_cases hlt : 32 * j < m
  · by_cases htp : m ≤ 32 * j + 32
    · have hI2 := hI.below hnx hhi
      obtain ⟨bb, off, rfl, hcell⟩ := get hI2 (by omega)
      clear hI2
      have htop : m ≤ ys.length := by rw [HL.out]; omega
      go_wp2
      go_loopw [5, 6] (fun nn kv wr' => ∃ k r : Nat, kv = .int .i64 ((k : Int) - 1) ∧ nn = .int .u32 r ∧ 32 * j ≤ k ∧ k ≤ m ∧ Hid (num 2 (part ys k (m)) = r) ∧ wr' = wo) (fun _ kv _ => (intOf kv + 1).toNat)
      case atStart => exact ⟨m, 0, by first | rfl | (congr 1; omega) | (congr 1; push_cast; omega), rfl, by omega, Nat.le_refl _, by rw [Hid, part_none]; rfl, rfl⟩
      case round =>
       obtain ⟨k, r, rfl, rfl, hk1, hk2, hr, rfl⟩ := hrel
       have hr1 := part_lt (B := 2) (by decide) hdy (i := k) (t := m) (k := 32) (by omega)
       rw [hr.out] at hr1
       have hr2 : r ≤ 4294967295 := by omega
       clear hr1
       by_cases hkl : 32 * j < k
       · obtain ⟨k, rfl⟩ : ∃ k', k = k' + 1 := ⟨k - 1, by omega⟩
         have ek : ((k + 1 : Nat) : Int) - 1 = (k : Int) := by omega
         rw [ek]
         obtain ⟨p, hp, hp1⟩ := bit_nat hdy k
         have g1 : wr.cell? ⟨bb, off + k, none⟩ = some (.int .u8 (ys[k]?.getD 0)) := hcell k (by omega)
         rw [hp] at g1
         have hst := part_step 2 ys (i := k) (t := m) (by omega) htop
         rw [hp, hr.out] at hst
         have hr3 := part_lt (B := 2) (by decide) hdy (i := k) (t := m) (k := 32) (by omega)
         rw [hst] at hr3
         have hr4 : 2 * (r : Int) + (p : Int) ≤ 4294967295 := by simp only [Int.toNat_natCast] at hr3; omega
         have HST := Lib.hid hst
         clear hst hr3 hp ek
         go_wp2
         go_roundw
         case rel => exact ⟨k, p + 2 * r, by first | rfl | (congr 1; omega), by congr 1; push_cast; omega, by omega, by omega, by have := HST.out; simpa [Hid] using this, by trivial⟩
         case measure => first | (simp [intOf]; done) | (simp [intOf]; omega)
       · obtain rfl : k = 32 * j := by omega
         have hol : out.length = j := by have := hown.1; simpa using this
         have hnum2 : Hid (num 4294967296 (out ++ [(r : Int)]) = num 2 (ys.take (32 * (j + 1)))) := by
          have e1 : ys.take (32 * (j + 1)) = ys.take (m) := by
           first
            | rfl
            | (congr 1; done)
            | (rw [List.take_of_length_le (by rw [HL.out]; omega), List.take_of_length_le (by rw [HL.out]; omega)])
          rw [Hid, e1, part_split 2 ys (i := 32 * j) (t := m) (by omega) (by rw [HL.out]; omega), num_append, hol, hnum.out, hr.out, Nat.pow_mul]
          simp [num]
         have hdo2 : Dig 4294967296 (out ++ [(r : Int)]) := fun x hx => by
          rcases List.mem_append.1 hx with h' | h'
          · exact hdo x h'
          · rw [List.mem_singleton.1 h']
            omega
         clear hol hnum hr
         go_wp2_with (first
          | (at_builtin; refine wpList_append_raw _ rfl (.tmp 34) (.tmp 36) 23 rfl w1.heap.size 70 i0 (.int .u32 0) 1 4 Try.underlying23 hi0 hz0 hz1 hz2 rfl (by decide) _ _ _ rfl (hown.alloc _) _ _ _ 1 1 [.int .u32 r] rfl (raw_one _ _ _ _) ?d1 ?d2 ?d3 ?d4 ?_))
         case d1 => first | rfl | (intro u hu; simp at hu; subst hu; rfl)
         case d2 => unfold maxLen; omega
         case d3 => omega
         case d4 => have := hnx.size; simp; omega
         intro A2 c2 w3 hown2 hgrow2 _
         have hnx2 : Below w1.heap.size w1 w3 := (hnx.alloc hnx.size _).grown hgrow2 (by have := hnx.size; simp; omega) (fun q hq => (hown.lt q hq).1)
         have hown3 : w3.ownsRow w1.heap.size 70 1 (.slice A2 (j + 1) c2) (j + 1) ((out ++ [(r : Int)]).map (Value.int .u32)) := by simpa using hown2
         clear hown2 hgrow2 hown
         go_wp2
         go_roundw
         case rel => exact ⟨j + 1, _, by first | rfl | (congr 1; done) | (congr 1; push_cast; omega), by omega, hown3, hdo2, hnum2, hnx2⟩
         case measure => simp [intOf]; omega
    · have hI2 := hI.below hnx hhi
      obtain ⟨bb, off, rfl, hcell⟩ := get hI2 (by omega)
      clear hI2
      have htop : 32 * j + 32 ≤ ys.length := by rw [HL.out]; omega
      go_wp2
      go_loopw [5, 6] (fun nn kv wr' => ∃ k r : Nat, kv = .int .i64 ((k : Int) - 1) ∧ nn = .int .u32 r ∧ 32 * j ≤ k ∧ k ≤ 32 * j + 32 ∧ Hid (num 2 (part ys k (32 * j + 32)) = r) ∧ wr' = wo) (fun _ kv _ => (intOf kv + 1).toNat)
      case atStart => exact ⟨32 * j + 32, 0, by first | rfl | (congr 1; omega) | (congr 1; push_cast; omega), rfl, by omega, Nat.le_refl _, by rw [Hid, part_none]; rfl, rfl⟩
      case round =>
       obtain ⟨k, r, rfl, rfl, hk1, hk2, hr, rfl⟩ := hrel
       have hr1 := part_lt (B := 2) (by decide) hdy (i := k) (t := 32 * j + 32) (k := 32) (by omega)
       rw [hr.out] at hr1
       have hr2 : r ≤ 4294967295 := by omega
       clear hr1
       by_cases hkl : 32 * j < k
       · obtain ⟨k, rfl⟩ : ∃ k', k = k' + 1 := ⟨k - 1, by omega⟩
         have ek : ((k + 1 : Nat) : Int) - 1 = (k : Int) := by omega
         rw [ek]
         obtain ⟨p, hp, hp1⟩ := bit_nat hdy k
         have g1 : wr.cell? ⟨bb, off + k, none⟩ = some (.int .u8 (ys[k]?.getD 0)) := hcell k (by omega)
         rw [hp] at g1
         have hst := part_step 2 ys (i := k) (t := 32 * j + 32) (by omega) htop
         rw [hp, hr.out] at hst
         have hr3 := part_lt (B := 2) (by decide) hdy (i := k) (t := 32 * j + 32) (k := 32) (by omega)
         rw [hst] at hr3
         have hr4 : 2 * (r : Int) + (p : Int) ≤ 4294967295 := by simp only [Int.toNat_natCast] at hr3; omega
         have HST := Lib.hid hst
         clear hst hr3 hp ek
         go_wp2
         go_roundw
         case rel => exact ⟨k, p + 2 * r, by first | rfl | (congr 1; omega), by congr 1; push_cast; omega, by omega, by omega, by have := HST.out; simpa [Hid] using this, by trivial⟩
         case measure => first | (simp [intOf]; done) | (simp [intOf]; omega)
       · obtain rfl : k = 32 * j := by omega
         have hol : out.length = j := by have := hown.1; simpa using this
         have hnum2 : Hid (num 4294967296 (out ++ [(r : Int)]) = num 2 (ys.take (32 * (j + 1)))) := by
          have e1 : ys.take (32 * (j + 1)) = ys.take (32 * j + 32) := by
           first
            | rfl
            | (congr 1; done)
            | (rw [List.take_of_length_le (by rw [HL.out]; omega), List.take_of_length_le (by rw [HL.out]; omega)])
          rw [Hid, e1, part_split 2 ys (i := 32 * j) (t := 32 * j + 32) (by omega) (by rw [HL.out]; omega), num_append, hol, hnum.out, hr.out, Nat.pow_mul]
          simp [num]
         have hdo2 : Dig 4294967296 (out ++ [(r : Int)]) := fun x hx => by
          rcases List.mem_append.1 hx with h' | h'
          · exact hdo x h'
          · rw [List.mem_singleton.1 h']
            omega
         clear hol hnum hr
         go_wp2_with (first
          | (at_builtin; refine wpList_append_raw _ rfl (.tmp 34) (.tmp 36) 23 rfl w1.heap.size 70 i0 (.int .u32 0) 1 4 Try.underlying23 hi0 hz0 hz1 hz2 rfl (by decide) _ _ _ rfl (hown.alloc _) _ _ _ 1 1 [.int .u32 r] rfl (raw_one _ _ _ _) ?f1 ?f2 ?f3 ?f4 ?_))
         case f1 => first | rfl | (intro u hu; simp at hu; subst hu; rfl)
         case f2 => unfold maxLen; omega
         case f3 => omega
         case f4 => have := hnx.size; simp; omega
         intro A2 c2 w3 hown2 hgrow2 _
         have hnx2 : Below w1.heap.size w1 w3 := (hnx.alloc hnx.size _).grown hgrow2 (by have := hnx.size; simp; omega) (fun q hq => (hown.lt q hq).1)
         have hown3 : w3.ownsRow w1.heap.size 70 1 (.slice A2 (j + 1) c2) (j + 1) ((out ++ [(r : Int)]).map (Value.int .u32)) := by simpa using hown2
         clear hown2 hgrow2 hown
         go_wp2
         go_roundw
         case rel => exact ⟨j + 1, _, by first | rfl | (congr 1; done) | (congr 1; push_cast; omega), by omega, hown3, hdo2, hnum2, hnx2⟩
         case measure => simp [intOf]; omega
  · obtain ⟨A2, c2, rfl, hc2, _⟩ := own_shape hown
    have hol : out.length = j := by have := hown.1; simpa using this
    have hend : num 4294967296 out = v := by rw [hnum.out, List.take_of_length_le (by rw [HL.out]; omega), HV.out]
    have hcut : Cutd out := cutd_of_ge (by decide) hdo fun hne => by
     have hj0 : 0 < j := by rw [← hol]; exact List.length_pos_iff.2 hne
     have hyne : ys ≠ [] := fun e => by have := HL.out; rw [e] at this; simp at this; omega
     have h1 := num_ge hdy hcy hyne
     rw [HV.out, HL.out] at h1
     rw [hend, hol]
     have h2 : (4294967296 : Nat) ^ (j - 1) = 2 ^ (32 * (j - 1)) := by rw [Nat.pow_mul]
     have h3 : 2 ^ (32 * (j - 1)) ≤ 2 ^ (m - 1) := Nat.pow_le_pow_right (by decide) (by omega)
     omega
    have hcan := canon_of (by decide) hdo hcut hend
    have hwf : ∀ x ∈ out, IntKind.u32.min ≤ x ∧ x ≤ IntKind.u32.max := fun x hx => by
     have h1 := hdo x hx
     have h2 : 0 ≤ x ∧ x ≤ 4294967295 := by omega
     simpa [IntKind.min, IntKind.max, IntKind.signed, IntKind.bits] using h2
    have hI2 := Ints.of_own hown hwf (by omega)
    rw [hcan] at hI2
    clear hown hnum hol hend hcut hcan hwf
    go_wp2
    go_ret
    exact ⟨A2, j, c2, rfl, hc2, hnx, hI2⟩
end Dy
end Go.Proofs.Ytbbnbgllgomolaa
namespace Go.Proofs.Ytbbnbgllgomolaa
open Go.RowKit
namespace Dy
open Dp
theorem boxS {w : World} {g : Nat} {x y : Value} {t : TypeId} (h : w.heap[g]? = some (.cells #[x, y] t (0, 0))) :
  (w.cell? ⟨g, 0, none⟩ = some x ∧ w.cell? ⟨g, 1, none⟩ = some y) ∧ (w.frozen? ⟨g, 0, none⟩ = false ∧ w.frozen? ⟨g, 1, none⟩ = false) :=
 ⟨⟨cell_of_row w g 0 _ t _ h, cell_of_row w g 1 _ t _ h⟩, frozen_of_row w g 0 _ t h, frozen_of_row w g 1 _ t h⟩
theorem ints_set {w : World} {lo hi : Nat} {k : IntKind} {A : Option Addr} {n : Nat} {xs : List Int} (h : Ints w lo hi k A n xs) {g : Nat} (hg : g < lo) (o : Nat) (v : Value) : Ints (w.setCell ⟨g, o, none⟩ v) lo hi k A n xs := ints_far h (.inl hg) v
set_option maxHeartbeats 6400000 in
set_option maxRecDepth 100000 in
/-- headcountref02.In. -/
theorem In_any (w : World) (s : Bool) (m ex : Nat) (A : Option Addr) (n c : Nat) (h : Ints w 0 w.heap.size .u32 A n (canon 4294967296 m)) (hn : n ≤ 40) (k : Nat) (hk : ex ≤ k) (hk2 : k ≤ 2000) (v : Nat) (hv : 2 ^ (k - ex) * m = v) (kk : Int) (hkk : kk = k) :
  Calls Try.prog 122 #[.agg #[.bool s, .slice A n c, .int .i64 ex], .int .i64 kk] w fun e w' => ∃ A' n' c', e = .returned (.agg #[.bool s, .slice A' n' c']) ∧ n' ≤ c' ∧ n' ≤ 4000 ∧ Below w.heap.size w w' ∧ Ints w' w.heap.size w'.heap.size .u8 A' n' (canon 2 v) := by
 have hsub : IntKind.i64.wrap (kk - (ex : Int)) = ((k - ex : Nat) : Int) := by rw [hkk, IntKind.wrap_i64]; omega
 have HS := Lib.hid hsub
 have hcs := canon_spec 4294967296 m (by decide)
 have hd := Lib.hid hcs.1
 have hnm := Lib.hid hcs.2.2
 have HV := Lib.hid hv
 have hX2 := h.alloc (Nat.le_refl _) (.cells #[.bool s, .slice A n c, .int .i64 ex] 25)
 clear hkk hsub hcs hv h
 generalize hw1 : w.alloc (.cells #[.bool s, .slice A n c, .int .i64 ex] 25) = w1 at *
 have hbx : w1.heap[w.heap.size]? = some (.cells #[.bool s, .slice A n c, .int .i64 ex] 25 (0, 0)) := by rw [← hw1]; exact heap_alloc_last _ _
 have HS1 : Hid (w1.heap.size = w.heap.size + 1) := by rw [Hid, ← hw1]; simp
 have hB1 : Below w.heap.size w w1 := by rw [← hw1]; exact (Below.refl _ w).alloc (Nat.le_refl _) _
 go_enter Try.func122, Try.ntmps122
 go_wp2
 clear hw1
 have hX3 := hX2.alloc (by have := HS1.out; omega) (.cells #[.bool false, .slice none 0 0] 110)
 have hB2 := hB1.alloc (by have := HS1.out; omega) (.cells #[.bool false, .slice none 0 0] 110)
 have hbx2 := (Below.heap_alloc w1 (.cells #[.bool false, .slice none 0 0] 110) w.heap.size (by have := HS1.out; omega)).trans hbx
 have hrs := heap_alloc_last w1 (.cells #[.bool false, .slice none 0 0] 110)
 have HS2 : Hid ((w1.alloc (.cells #[.bool false, .slice none 0 0] 110)).heap.size = w1.heap.size + 1) := by rw [Hid]; simp
 generalize hw2 : w1.alloc (.cells #[.bool false, .slice none 0 0] 110) = w2 at *
 clear hw2 hX2 hB1 hbx
 have kD : Keeps w2 w2.drew := fun _ _ => rfl
 have b2 : Below w2.heap.size w2 w2.drew := (Below.refl _ _).drew
 refine region_E (Keeps w2) [11] (m := 12) (L := #[zF,zF,zF,zF,zF,zF,zF,zF,zF,zF,zF,zF]) (by kernel_rfl) (by rfl) (by rfl) ?_
 refine zE 0 #[zT,zF,zF,zF,zF,zF,zF,zF,zF,zF,zF,zF] ?_ rfl ?hy1 ?rest1
 case hy1 => intro w; go_simp; (try with_reducible rfl)
 try simp only [Act.put, zp]
 refine readE (i := 1) (L := #[zT,zT,zF,zF,zF,zF,zF,zF,zF,zF,zF,zF]) (v := .bool s) rfl (by rfl) (by kernel_rfl) (by kernel_rfl) (by kernel_rfl) (fun _ _ _ h => h) (by assumption) (by rfl) ?hyA ?restA
 case hyA =>
  intro w' h1
  obtain ⟨⟨k1, k2, k3⟩, _⟩ := boxD ((h1 _ (by have := HS1.out; have := HS2.out; omega)).trans hbx2)
  go_simp
 try simp only [Act.put, zp]
 refine zE 2 #[zT,zT,zT,zF,zF,zF,zF,zF,zF,zF,zF,zF] ?_ rfl ?hy3 ?rest3
 case hy3 => intro w; go_simp; (try with_reducible rfl)
 try simp only [Act.put, zp]
 refine readE (i := 3) (L := #[zT,zT,zT,zT,zF,zF,zF,zF,zF,zF,zF,zF]) (v := .slice A n c) rfl (by rfl) (by kernel_rfl) (by kernel_rfl) (by kernel_rfl) (fun _ _ _ h => h) (by assumption) (by rfl) ?hyB ?restB
 case hyB =>
  intro w' h1
  obtain ⟨⟨k1, k2, k3⟩, _⟩ := boxD ((h1 _ (by have := HS1.out; have := HS2.out; omega)).trans hbx2)
  go_simp
 try simp only [Act.put, zp]
 refine zE 5 #[zT,zT,zT,zT,zF,zT,zF,zF,zF,zF,zF,zF] ?_ rfl ?hy5 ?rest5
 case hy5 => intro w; go_simp; (try with_reducible rfl)
 try simp only [Act.put, zp]
 refine zE 6 #[zT,zT,zT,zT,zF,zT,zT,zF,zF,zF,zF,zF] ?_ rfl ?hy6 ?rest6
 case hy6 => intro w; go_simp; (try with_reducible rfl)
 try simp only [Act.put, zp]
 refine readE (i := 7) (L := #[zT,zT,zT,zT,zF,zT,zT,zT,zF,zF,zF,zF]) (v := .int .i64 ex) rfl (by rfl) (by kernel_rfl) (by kernel_rfl) (by kernel_rfl) (fun _ _ _ h => h) (by assumption) (by rfl) ?hyC ?restC
 case hyC =>
  intro w' h1
  obtain ⟨⟨k1, k2, k3⟩, _⟩ := boxD ((h1 _ (by have := HS1.out; have := HS2.out; omega)).trans hbx2)
  go_simp
 try simp only [Act.put, zp]
 have hsub := HS.out
 refine zE 8 #[zT,zT,zT,zT,zF,zT,zT,zT,zT,zF,zF,zF] ?_ rfl ?hy8 ?rest8
 case hy8 => intro w; go_simp; (try with_reducible rfl)
 try simp only [Act.put, zp]
 clear hsub
 refine stepK (i := 4) (L := #[zT,zT,zT,zT,zT,zT,zT,zT,zT,zF,zF,zF]) rfl (by rfl) (by kernel_rfl) (by rfl) (fun K hK => ?_)
 go_simp
 go_at_call 104
 refine (Digits_any w2.drew 0 w.heap.size A n c _ (hX3.drewN 1) hd.out (by show w.heap.size ≤ w2.heap.size; have := HS1.out; have := HS2.out; omega) (by omega) m hnm.out).mono ?_
 rintro e w3 ⟨A1, n1, c1, rfl, hc1, hn1, hB, hI3⟩
 have b3 := b2.trans hB
 clear hB
 refine hK _ _ ⟨fun _ _ p hp => b3.block p hp, ?_⟩
 clear hK K
 try simp only [Act.put, zp]
 refine stepK (i := 9) (L := #[zT,zT,zT,zT,zT,zT,zT,zT,zT,zT,zF,zF]) rfl (by rfl) (by kernel_rfl) (by rfl) (fun K hK => ?_)
 go_simp
 go_at_call 103
 refine (Times2_any w3 _ _ A1 n1 c1 m hI3 (Nat.le_refl _) (by omega) (k - ex) _ rfl (by omega)).mono ?_
 rintro e w4 ⟨A2, n2, c2, rfl, hc2, hn2, hB, hI4⟩
 have b4 := b3.trans (hB.mono b3.size)
 have hi4 := Lib.hid hI4
 have hs3 := b3.size
 have hs4 := hB.size
 clear hB hI3 hI4
 refine hK _ _ ⟨fun _ _ p hp => b4.block p hp, ?_⟩
 clear hK K
 try simp only [Act.put, zp]
 refine zE 10 #[zT,zT,zT,zT,zT,zT,zT,zT,zT,zT,zT,zF] ?_ rfl ?hy11 ?rest11
 case hy11 => intro w; go_simp; (try with_reducible rfl)
 try simp only [Act.put, zp]
 obtain ⟨⟨p1, p2⟩, p3, p4⟩ := boxS ((b4.block w1.heap.size (by have := HS2.out; omega)).trans hrs)
 refine stepK (i := 11) (L := #[zT,zT,zT,zT,zT,zT,zT,zT,zT,zT,zT,zT]) rfl (by rfl) (by kernel_rfl) (by rfl) (fun K hK => ?_)
 go_simp
 refine hK _ _ ⟨fun h => absurd h (by decide), ?_⟩
 clear hK K
 try simp only [Act.put, zp]
 refine doneE (by kernel_rfl) ?_ _
 go_wp2
 refine bodyPost_ret (v := .agg #[.bool s, .slice A2 n2 c2]) (by simp [results, Try.results122, go_sem, p1, p2]) rfl ⟨A2, n2, c2, rfl, hc2, by omega, ?_, ?_⟩
 · exact ((hB2.trans (b4.mono (by have := HS1.out; have := HS2.out; omega))).setCell (by have := HS1.out; simp; omega) _).setCell (by have := HS1.out; simp; omega) _
 · have h := hi4.out
   rw [HV.out] at h
   exact ((ints_set (ints_set h (by have := HS2.out; omega) 0 _) (by have := HS2.out; omega) 1 _).more (by have := HS1.out; have := HS2.out; omega) (by simp [World.setCell]))
end Dy
end Go.Proofs.Ytbbnbgllgomolaa