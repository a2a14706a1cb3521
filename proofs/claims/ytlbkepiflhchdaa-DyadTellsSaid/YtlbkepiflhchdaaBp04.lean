/- The law DyadHalves: a walk. -/
/- The reference's May: walks (printed by gen_dys1.py out of DyW1). -/
/- Sums of bits, by a walk. -/
/- Differences of bits, bits with 0 ahead of them, by walks. -/
/- How bits stand to each other, by a walk. -/
/- Bits with 0 ahead of them; the bits of limbs, by walks. -/
/- The bits of limbs, by a walk. -/
/- The limbs of bits, by a walk. -/
import Derived.Test.YtlbkepiflhchdaaBp03
import Derived.Test.YtlbkepiflhchdaaBp01
namespace Go.Proofs.Ytlbkepiflhchdaa
open Go.RowKit
namespace Dy
open Dp
/-- What a law answers. -/
def Yes (w : World) (e : Ending) (w' : World) : Prop := e = .returned (.bool true) ∧ Below w.heap.size w w'
end Dy
end Go.Proofs.Ytlbkepiflhchdaa
namespace Go.Proofs.Ytlbkepiflhchdaa
open Go.RowKit
namespace Dy
open Dp
set_option maxRecDepth 100000 in
/-- headcountref01.May: limbs that may be. -/
theorem r1May_ok (w : World) (lo hi : Nat) (A : Option Addr) (n c : Nat) (xs : List Int) (hX : Ints w lo hi .u32 A n xs) (h : MayL xs) :
    Calls Try.prog 33 #[.slice A n c] w fun e w' => e = .returned (.bool true) ∧ w' = w := by
  have hL := Lib.hid hX.len
  have h40 : n ≤ 40 := by have := h.1; have := hL.out; omega
  by_cases h0 : 0 < n
  · have hlast := (cutd_last hX.len h0).1 h.2
    obtain ⟨b, off, rfl, hcell⟩ := get hX h0
    have g1 : w.cell? ⟨b, off + (n - 1), none⟩ = some (.int .u32 (xs[n - 1]?.getD 0)) := hcell (n - 1) (by omega)
    have hb : (xs[n - 1]?.getD 0 != 0) = true := by simpa using hlast
    have hn0 : ((n : Int) == 0) = false := by simp; omega
    have e1 : ((n : Int) - 1).toNat = n - 1 := by omega
    clear hcell hlast h
    generalize xs[n - 1]?.getD 0 = v at g1 hb
    go_enter Try.func33, Try.ntmps33
    go_wp2
    go_ret
    exact ⟨rfl, rfl⟩
  · obtain rfl : n = 0 := by omega
    clear h
    go_enter Try.func33, Try.ntmps33
    go_wp2
    go_ret
    exact ⟨rfl, rfl⟩
set_option maxRecDepth 100000 in
/-- headcountref01.May: limbs that may not be. -/
theorem r1May_bad (w : World) (lo hi : Nat) (A : Option Addr) (n c : Nat) (xs : List Int) (hX : Ints w lo hi .u32 A n xs) (h : ¬ MayL xs) :
    Calls Try.prog 33 #[.slice A n c] w fun e w' => e = .returned (.bool false) ∧ w' = w := by
  have hL := Lib.hid hX.len
  have hbig := hX.big
  by_cases h40 : n ≤ 40
  · have h0 : 0 < n := by
      rcases Nat.eq_zero_or_pos n with h0 | h0
      · exact absurd ⟨by have := hL.out; omega, fun hne => absurd (hX.zero h0) hne⟩ h
      · exact h0
    have hlast : xs[n - 1]?.getD 0 = 0 := by
      by_cases hl : xs[n - 1]?.getD 0 = 0
      · exact hl
      · exact absurd ⟨by have := hL.out; omega, (cutd_last hX.len h0).2 hl⟩ h
    obtain ⟨b, off, rfl, hcell⟩ := get hX h0
    have g1 : w.cell? ⟨b, off + (n - 1), none⟩ = some (.int .u32 (xs[n - 1]?.getD 0)) := hcell (n - 1) (by omega)
    rw [hlast] at g1
    have hn0 : ((n : Int) == 0) = false := by simp; omega
    have e1 : ((n : Int) - 1).toNat = n - 1 := by omega
    clear hcell hlast h
    go_enter Try.func33, Try.ntmps33
    go_wp2
    go_ret
    exact ⟨rfl, rfl⟩
  · clear h
    go_enter Try.func33, Try.ntmps33
    go_wp2
    go_ret
    exact ⟨rfl, rfl⟩
set_option maxHeartbeats 800000 in
set_option maxRecDepth 100000 in
/-- headcountref02.May: dyads that may be. -/
theorem rMay_ok (w : World) (lo hi : Nat) (s : Bool) (A : Option Addr) (n c : Nat) (xs : List Int) (ex : Int) (hX : Ints w lo hi .u32 A n xs) (hhi : hi ≤ w.heap.size) (h : MayD s xs ex) :
    Calls Try.prog 19 #[.agg #[.bool s, .slice A n c, .int .i64 ex]] w fun e w' => e = .returned (.bool true) ∧ Below w.heap.size w w' := by
  have hL := Lib.hid hX.len
  have hX2 := hX.alloc hhi (.cells #[.bool s, .slice A n c, .int .i64 ex] 24)
  have hB := (Below.refl w.heap.size w).alloc (Nat.le_refl _) (.cells #[.bool s, .slice A n c, .int .i64 ex] 24)
  obtain ⟨hmay, he0, he1, hz, ho⟩ := h
  by_cases h0 : 0 < n
  · have hne : xs ≠ [] := fun e => by have := hL.out; rw [e] at this; simp at this; omega
    obtain ⟨b, off, rfl, hcell⟩ := get hX2 h0
    have g1 := hcell 0 h0
    rw [Nat.add_zero] at g1
    have ho' := ho hne
    have hn0 : ((n : Int) == 0) = false := by simp; omega
    obtain ⟨v0, v1⟩ := hX.u32 0
    clear hcell hz ho
    generalize xs[0]?.getD 0 = v at g1 ho' v0 v1
    by_cases hpos : 0 < ex
    · have hv := ho' hpos
      have hv2 : v % 2 = 1 := hv
      clear ho' hv hne
      go_enter Try.func19, Try.ntmps19
      go_wp2_with fail
      refine (r1May_ok _ _ _ _ _ _ _ hX2 hmay).mono ?_
      rintro e w1 ⟨rfl, rfl⟩
      clear hmay
      go_wp2
      go_ret
      exact ⟨rfl, hB⟩
    · obtain rfl : ex = 0 := by omega
      clear ho' hne he0 he1
      go_enter Try.func19, Try.ntmps19
      go_wp2_with fail
      refine (r1May_ok _ _ _ _ _ _ _ hX2 hmay).mono ?_
      rintro e w1 ⟨rfl, rfl⟩
      clear hmay
      go_wp2
      go_ret
      exact ⟨rfl, hB⟩
  · obtain rfl : n = 0 := by omega
    obtain ⟨rfl, rfl⟩ := hz (hX.zero rfl)
    clear ho he0 he1
    go_enter Try.func19, Try.ntmps19
    go_wp2_with fail
    refine (r1May_ok _ _ _ _ _ _ _ hX2 hmay).mono ?_
    rintro e w1 ⟨rfl, rfl⟩
    clear hmay
    go_wp2
    go_ret
    exact ⟨rfl, hB⟩
set_option maxHeartbeats 1600000 in
set_option maxRecDepth 100000 in
/-- headcountref02.May: dyads that may not be. -/
theorem rMay_bad (w : World) (lo hi : Nat) (s : Bool) (A : Option Addr) (n c : Nat) (xs : List Int) (ex : Int) (hX : Ints w lo hi .u32 A n xs) (hhi : hi ≤ w.heap.size) (h : ¬ MayD s xs ex) :
    Calls Try.prog 19 #[.agg #[.bool s, .slice A n c, .int .i64 ex]] w fun e w' => e = .returned (.bool false) ∧ Below w.heap.size w w' := by
  have hL := Lib.hid hX.len
  have hX2 := hX.alloc hhi (.cells #[.bool s, .slice A n c, .int .i64 ex] 24)
  have hB := (Below.refl w.heap.size w).alloc (Nat.le_refl _) (.cells #[.bool s, .slice A n c, .int .i64 ex] 24)
  have hbig := hX.big
  rcases not_may h with hm | ⟨hm, hx⟩ | ⟨hm, h0, h1, hz, hx⟩ | ⟨hm, h0, h1, hz, hx⟩
  · clear h
    go_enter Try.func19, Try.ntmps19
    go_wp2_with fail
    refine (r1May_bad _ _ _ _ _ _ _ hX2 hm).mono ?_
    rintro e w1 ⟨rfl, rfl⟩
    clear hm
    by_cases hn0 : n = 0
    · subst hn0
      go_wp2
      go_ret
      exact ⟨rfl, hB⟩
    · have hn1 : ((n : Int) == 0) = false := by simp; omega
      go_wp2
      go_ret
      exact ⟨rfl, hB⟩
  · clear h
    have hn1 : n ≠ 0 → ((n : Int) == 0) = false := fun h => by simp; omega
    rcases hx with hx | hx
    all_goals
      by_cases hn0 : n = 0
      · subst hn0
        clear hn1
        go_enter Try.func19, Try.ntmps19
        go_wp2_with fail
        refine (r1May_ok _ _ _ _ _ _ _ hX2 hm).mono ?_
        rintro e w1 ⟨rfl, rfl⟩
        clear hm
        go_wp2
        go_ret
        exact ⟨rfl, hB⟩
      · have hn2 := hn1 hn0
        clear hn1
        go_enter Try.func19, Try.ntmps19
        go_wp2_with fail
        refine (r1May_ok _ _ _ _ _ _ _ hX2 hm).mono ?_
        rintro e w1 ⟨rfl, rfl⟩
        clear hm
        go_wp2
        go_ret
        exact ⟨rfl, hB⟩
  · clear h
    subst hz
    obtain rfl : n = 0 := by have := hL.out; simp at this; omega
    by_cases hx0 : ex = 0
    · subst hx0
      obtain rfl : s = true := hx.resolve_left (fun h => h rfl)
      clear hx
      go_enter Try.func19, Try.ntmps19
      go_wp2_with fail
      refine (r1May_ok _ _ _ _ _ _ _ hX2 hm).mono ?_
      rintro e w1 ⟨rfl, rfl⟩
      clear hm
      go_wp2
      go_ret
      exact ⟨rfl, hB⟩
    · have hx1 : (ex != 0) = true := by simpa using hx0
      clear hx
      go_enter Try.func19, Try.ntmps19
      go_wp2_with fail
      refine (r1May_ok _ _ _ _ _ _ _ hX2 hm).mono ?_
      rintro e w1 ⟨rfl, rfl⟩
      clear hm
      go_wp2
      go_ret
      exact ⟨rfl, hB⟩
  · clear h
    have hn0 : 0 < n := by
      rcases Nat.eq_zero_or_pos n with h0 | h0
      · exact absurd (hX.zero h0) hz
      · exact h0
    obtain ⟨b, off, rfl, hcell⟩ := get hX2 hn0
    have g1 := hcell 0 hn0
    rw [Nat.add_zero] at g1
    have hn1 : ((n : Int) == 0) = false := by simp; omega
    obtain ⟨v0, v1⟩ := hX.u32 0
    clear hcell hz
    generalize xs[0]?.getD 0 = v at g1 hx v0 v1
    have hv : v % 2 = 0 := by omega
    have hx0 : (ex == 0) = false := by simp; omega
    clear hx
    go_enter Try.func19, Try.ntmps19
    go_wp2_with fail
    refine (r1May_ok _ _ _ _ _ _ _ hX2 hm).mono ?_
    rintro e w1 ⟨rfl, rfl⟩
    clear hm
    go_wp2
    go_ret
    exact ⟨rfl, hB⟩
end Dy
end Go.Proofs.Ytlbkepiflhchdaa
namespace Go.Proofs.Ytlbkepiflhchdaa
open Go.RowKit
namespace Dy
theorem Try.info5 : (Try.prog.info? 5).map (fun i => (i.zero, i.size, i.bytes)) = some (some (.int .u8 0), 1, 1) := by kernel_rfl
theorem take_num (B : Nat) (l : List Int) (k : Nat) : num B (l.take (k + 1)) = num B (l.take k) + B ^ k * (l[k]?.getD 0).toNat := by
  by_cases h : k < l.length
  · rw [List.take_succ_eq_append_getElem h, num_append, List.getElem?_eq_getElem h]
    simp [num, Nat.min_eq_left (Nat.le_of_lt h)]
  · rw [List.take_of_length_le (by omega), List.take_of_length_le (by omega), List.getElem?_eq_none (by omega)]
    simp
theorem bit_nat {l : List Int} (hd : Dig 2 l) (k : Nat) : ∃ p : Nat, l[k]?.getD 0 = p ∧ p ≤ 1 := by
  by_cases h : k < l.length
  · rw [List.getElem?_eq_getElem h]
    have := hd _ (List.getElem_mem h)
    exact ⟨l[k].toNat, by simp only [Option.getD_some]; omega, by omega⟩
  · rw [List.getElem?_eq_none (by omega)]
    exact ⟨0, rfl, by omega⟩
theorem dig_snoc {l : List Int} (hd : Dig 2 l) (d : Nat) (h : d ≤ 1) : Dig 2 (l ++ [(d : Int)]) := fun x hx => by
  rcases List.mem_append.1 hx with h' | h'
  · exact hd x h'
  · rw [List.mem_singleton.1 h']
    omega
theorem plus_law {out xs ys : List Int} {k c p q s : Nat} (hl : out.length = k) (h : num 2 out + 2 ^ k * c = num 2 (xs.take k) + num 2 (ys.take k)) (hp : xs[k]?.getD 0 = (p : Int)) (hq : ys[k]?.getD 0 = (q : Int)) (hs : p + q + c = s) :
    num 2 (out ++ [((s % 2 : Nat) : Int)]) + 2 ^ (k + 1) * (s / 2) = num 2 (xs.take (k + 1)) + num 2 (ys.take (k + 1)) := by
  rw [take_num, take_num, hp, hq, num_append, hl]
  simp only [num, Int.toNat_natCast, Nat.mul_zero, Nat.add_zero, Nat.pow_succ]
  have e : 2 ^ k * (s % 2) + 2 ^ k * 2 * (s / 2) = 2 ^ k * s := by
    rw [Nat.mul_assoc, ← Nat.mul_add, Nat.mod_add_div]
  rw [Nat.add_assoc, e, ← hs, Nat.mul_add, Nat.mul_add]
  omega
theorem plus_end {out xs ys : List Int} {N c : Nat} (hx : xs.length + 1 ≤ N) (hy : ys.length + 1 ≤ N) (hdx : Dig 2 xs) (hdy : Dig 2 ys) (hc : c ≤ 1) (_hN : 1 ≤ N) (h : num 2 out + 2 ^ N * c = num 2 (xs.take N) + num 2 (ys.take N)) : num 2 out = num 2 xs + num 2 ys := by
  rw [List.take_of_length_le (by omega), List.take_of_length_le (by omega)] at h
  have h1 := num_lt 2 (by decide) xs hdx
  have h2 := num_lt 2 (by decide) ys hdy
  have e1 : 2 ^ xs.length ≤ 2 ^ (N - 1) := Nat.pow_le_pow_right (by decide) (by omega)
  have e2 : 2 ^ ys.length ≤ 2 ^ (N - 1) := Nat.pow_le_pow_right (by decide) (by omega)
  have e3 : 2 ^ N = 2 * 2 ^ (N - 1) := by rw [← Nat.pow_succ']; congr 1; omega
  rcases Nat.lt_or_ge 0 c with h0 | h0
  · obtain rfl : c = 1 := by omega
    omega
  · obtain rfl : c = 0 := by omega
    omega
set_option maxHeartbeats 1600000 in
/-- headcountref01.Plus, where the second is longer. -/
theorem Plus_lt (w : World) (lo hi lo' hi' : Nat) (A : Option Addr) (n c : Nat) (xs : List Int) (hX : Ints w lo hi .u8 A n xs) (B : Option Addr) (m d : Nat) (ys : List Int) (hY : Ints w lo' hi' .u8 B m ys) (hdx : Dig 2 xs) (hdy : Dig 2 ys)
    (hhi : hi ≤ w.heap.size) (hhi' : hi' ≤ w.heap.size) (hn : n ≤ 1000000) (hm : m ≤ 1000000) (hnm : n < m) :
    Calls Try.prog 34 #[.slice A n c, .slice B m d] w fun e w' => ∃ A' n' c', e = .returned (.slice A' n' c') ∧ n' ≤ c' ∧ Below w.heap.size w w' ∧ Ints w' w.heap.size w'.heap.size .u8 A' n' (canon 2 (num 2 xs + num 2 ys)) := by
  have HL := Lib.hid hX.len
  have HL2 := Lib.hid hY.len
  obtain ⟨i0, hi0, hz0, hz1, hz2⟩ := info_parts Try.info5
  go_enter Try.func34, Try.ntmps34
  go_wp2
  go_loopw [5, 6, 7] (fun v cy i wr => ∃ k cc : Nat, ∃ out : List Int, i = .int .i64 k ∧ cy = .int .u8 cc ∧ cc ≤ 1 ∧ k ≤ m + 1 ∧ wr.ownsRow w.heap.size 5 1 v k (out.map (Value.int .u8)) ∧ Dig 2 out ∧ Hid (num 2 out + 2 ^ k * cc = num 2 (xs.take k) + num 2 (ys.take k)) ∧ Below w.heap.size w wr)
    (fun _ _ i _ => m + 1 - (intOf i).toNat)
  case atStart => exact ⟨0, 0, [], rfl, rfl, by omega, by omega, ⟨rfl, .inl ⟨rfl, rfl⟩⟩, fun x hx => (by simp at hx), by simp [Hid, num], Below.refl _ _⟩
  case round =>
    obtain ⟨k, cc, out, rfl, rfl, hcc, hk, hown, hdo, hnum, hnx⟩ := hrel
    by_cases hlt : k ≤ m
    · obtain ⟨p, hp, hp1⟩ := bit_nat hdx k
      obtain ⟨q, hq, hq1⟩ := bit_nat hdy k
      have HP := Lib.hid hp
      have HQ := Lib.hid hq
      clear hp hq
      go_wp2_with fail
      refine (bit_any _ _ _ _ _ _ _ (hX.below hnx hhi) k _ p rfl HP.out (by omega)).mono ?_
      rintro e w1 ⟨rfl, rfl⟩
      go_wp2_with fail
      refine (bit_any _ _ _ _ _ _ _ (hY.below hnx hhi') k _ q rfl HQ.out (by omega)).mono ?_
      rintro e w2 ⟨rfl, rfl⟩
      go_wp2_with (first
        | (at_builtin; refine wpList_append_raw _ rfl (.tmp 27) (.tmp 30) 47 rfl w.heap.size 5 i0 (.int .u8 0) 1 1 Try.underlying47 hi0 hz0 hz1 hz2 rfl (by decide) _ _ _ rfl (hown.alloc _) _ _ _ 1 1 [.int .u8 (((p : Int) + q + cc) % 2)] rfl (raw_one _ _ _ _) ?c1 ?c2 ?c3 ?c4 ?_))
      case c1 => first | rfl | (intro u hu; simp at hu; subst hu; rfl)
      case c2 => unfold maxLen; omega
      case c3 => omega
      case c4 => have := hnx.size; simp; omega
      intro A2 c2 w3 hown2 hgrow2 _
      have hnx2 : Below w.heap.size w w3 := (hnx.alloc hnx.size _).grown hgrow2 (by have := hnx.size; simp; omega) (fun q hq => (hown.lt q hq).1)
      have hs : ((p : Int) + q + cc) % 2 = (((p + q + cc) % 2 : Nat) : Int) := by omega
      rw [hs] at hown2
      have hown3 : w3.ownsRow w.heap.size 5 1 (.slice A2 (k + 1) c2) (k + 1) ((out ++ [(((p + q + cc) % 2 : Nat) : Int)]).map (Value.int .u8)) := by simpa using hown2
      have hol : out.length = k := by have := hown.1; simpa using this
      have hnum2 := Lib.hid (plus_law hol hnum.out HP.out HQ.out rfl)
      have hdo2 := dig_snoc hdo ((p + q + cc) % 2) (by omega)
      clear hs hown2 hgrow2 hol hown hnum
      go_wp2
      go_roundw
      case rel => exact ⟨k + 1, (p + q + cc) / 2, _, by go_num, by congr 1, by omega, by omega, hown3, hdo2, hnum2, hnx2⟩
      case measure => simp [intOf]; omega
    · obtain ⟨A2, c2, rfl, hc2, _⟩ := own_shape hown
      have hend := plus_end (N := k) (by rw [HL.out]; omega) (by rw [HL2.out]; omega) hdx hdy hcc (by omega) hnum.out
      have hwf : ∀ x ∈ out, IntKind.u8.min ≤ x ∧ x ≤ IntKind.u8.max := fun x hx => by
        have := hdo x hx
        simp only [IntKind.min, IntKind.max, IntKind.signed, IntKind.bits]
        omega
      have hI := Ints.of_own hown hwf (by omega)
      have HE := Lib.hid hend
      clear hown hnum hend
      go_wp2_with fail
      refine (Cut_any _ _ _ _ _ _ _ hI hdo hc2).mono ?_
      rintro e w4 ⟨⟨m4, rfl, hm4, hI4⟩, rfl⟩
      rw [HE.out] at hI4
      go_wp2_with fail
      go_ret
      exact ⟨A2, m4, c2, rfl, by omega, hnx, hI4⟩
set_option maxHeartbeats 1600000 in
/-- headcountref01.Plus, where it is not. -/
theorem Plus_ge (w : World) (lo hi lo' hi' : Nat) (A : Option Addr) (n c : Nat) (xs : List Int) (hX : Ints w lo hi .u8 A n xs) (B : Option Addr) (m d : Nat) (ys : List Int) (hY : Ints w lo' hi' .u8 B m ys) (hdx : Dig 2 xs) (hdy : Dig 2 ys)
    (hhi : hi ≤ w.heap.size) (hhi' : hi' ≤ w.heap.size) (hn : n ≤ 1000000) (_hm : m ≤ 1000000) (hnm : ¬ n < m) :
    Calls Try.prog 34 #[.slice A n c, .slice B m d] w fun e w' => ∃ A' n' c', e = .returned (.slice A' n' c') ∧ n' ≤ c' ∧ Below w.heap.size w w' ∧ Ints w' w.heap.size w'.heap.size .u8 A' n' (canon 2 (num 2 xs + num 2 ys)) := by
  have HL := Lib.hid hX.len
  have HL2 := Lib.hid hY.len
  obtain ⟨i0, hi0, hz0, hz1, hz2⟩ := info_parts Try.info5
  go_enter Try.func34, Try.ntmps34
  go_wp2
  go_loopw [5, 6, 7] (fun v cy i wr => ∃ k cc : Nat, ∃ out : List Int, i = .int .i64 k ∧ cy = .int .u8 cc ∧ cc ≤ 1 ∧ k ≤ n + 1 ∧ wr.ownsRow w.heap.size 5 1 v k (out.map (Value.int .u8)) ∧ Dig 2 out ∧ Hid (num 2 out + 2 ^ k * cc = num 2 (xs.take k) + num 2 (ys.take k)) ∧ Below w.heap.size w wr)
    (fun _ _ i _ => n + 1 - (intOf i).toNat)
  case atStart => exact ⟨0, 0, [], rfl, rfl, by omega, by omega, ⟨rfl, .inl ⟨rfl, rfl⟩⟩, fun x hx => (by simp at hx), by simp [Hid, num], Below.refl _ _⟩
  case round =>
    obtain ⟨k, cc, out, rfl, rfl, hcc, hk, hown, hdo, hnum, hnx⟩ := hrel
    by_cases hlt : k ≤ n
    · obtain ⟨p, hp, hp1⟩ := bit_nat hdx k
      obtain ⟨q, hq, hq1⟩ := bit_nat hdy k
      have HP := Lib.hid hp
      have HQ := Lib.hid hq
      clear hp hq
      go_wp2_with fail
      refine (bit_any _ _ _ _ _ _ _ (hX.below hnx hhi) k _ p rfl HP.out (by omega)).mono ?_
      rintro e w1 ⟨rfl, rfl⟩
      go_wp2_with fail
      refine (bit_any _ _ _ _ _ _ _ (hY.below hnx hhi') k _ q rfl HQ.out (by omega)).mono ?_
      rintro e w2 ⟨rfl, rfl⟩
      go_wp2_with (first
        | (at_builtin; refine wpList_append_raw _ rfl (.tmp 27) (.tmp 30) 47 rfl w.heap.size 5 i0 (.int .u8 0) 1 1 Try.underlying47 hi0 hz0 hz1 hz2 rfl (by decide) _ _ _ rfl (hown.alloc _) _ _ _ 1 1 [.int .u8 (((p : Int) + q + cc) % 2)] rfl (raw_one _ _ _ _) ?c1 ?c2 ?c3 ?c4 ?_))
      case c1 => first | rfl | (intro u hu; simp at hu; subst hu; rfl)
      case c2 => unfold maxLen; omega
      case c3 => omega
      case c4 => have := hnx.size; simp; omega
      intro A2 c2 w3 hown2 hgrow2 _
      have hnx2 : Below w.heap.size w w3 := (hnx.alloc hnx.size _).grown hgrow2 (by have := hnx.size; simp; omega) (fun q hq => (hown.lt q hq).1)
      have hs : ((p : Int) + q + cc) % 2 = (((p + q + cc) % 2 : Nat) : Int) := by omega
      rw [hs] at hown2
      have hown3 : w3.ownsRow w.heap.size 5 1 (.slice A2 (k + 1) c2) (k + 1) ((out ++ [(((p + q + cc) % 2 : Nat) : Int)]).map (Value.int .u8)) := by simpa using hown2
      have hol : out.length = k := by have := hown.1; simpa using this
      have hnum2 := Lib.hid (plus_law hol hnum.out HP.out HQ.out rfl)
      have hdo2 := dig_snoc hdo ((p + q + cc) % 2) (by omega)
      clear hs hown2 hgrow2 hol hown hnum
      go_wp2
      go_roundw
      case rel => exact ⟨k + 1, (p + q + cc) / 2, _, by go_num, by congr 1, by omega, by omega, hown3, hdo2, hnum2, hnx2⟩
      case measure => simp [intOf]; omega
    · obtain ⟨A2, c2, rfl, hc2, _⟩ := own_shape hown
      have hend := plus_end (N := k) (by rw [HL.out]; omega) (by rw [HL2.out]; omega) hdx hdy hcc (by omega) hnum.out
      have hwf : ∀ x ∈ out, IntKind.u8.min ≤ x ∧ x ≤ IntKind.u8.max := fun x hx => by
        have := hdo x hx
        simp only [IntKind.min, IntKind.max, IntKind.signed, IntKind.bits]
        omega
      have hI := Ints.of_own hown hwf (by omega)
      have HE := Lib.hid hend
      clear hown hnum hend
      go_wp2_with fail
      refine (Cut_any _ _ _ _ _ _ _ hI hdo hc2).mono ?_
      rintro e w4 ⟨⟨m4, rfl, hm4, hI4⟩, rfl⟩
      rw [HE.out] at hI4
      go_wp2_with fail
      go_ret
      exact ⟨A2, m4, c2, rfl, by omega, hnx, hI4⟩
theorem Plus_any (w : World) (lo hi lo' hi' : Nat) (A : Option Addr) (n c : Nat) (xs : List Int) (hX : Ints w lo hi .u8 A n xs) (B : Option Addr) (m d : Nat) (ys : List Int) (hY : Ints w lo' hi' .u8 B m ys) (hdx : Dig 2 xs) (hdy : Dig 2 ys)
    (hhi : hi ≤ w.heap.size) (hhi' : hi' ≤ w.heap.size) (hn : n ≤ 1000000) (hm : m ≤ 1000000) (s : Nat) (hs : num 2 xs + num 2 ys = s) :
    Calls Try.prog 34 #[.slice A n c, .slice B m d] w fun e w' => ∃ A' n' c', e = .returned (.slice A' n' c') ∧ n' ≤ c' ∧ Below w.heap.size w w' ∧ Ints w' w.heap.size w'.heap.size .u8 A' n' (canon 2 s) := by
  subst hs
  by_cases h : n < m
  · exact Plus_lt w lo hi lo' hi' A n c xs hX B m d ys hY hdx hdy hhi hhi' hn hm h
  · exact Plus_ge w lo hi lo' hi' A n c xs hX B m d ys hY hdx hdy hhi hhi' hn hm h
end Dy
end Go.Proofs.Ytlbkepiflhchdaa
namespace Go.Proofs.Ytlbkepiflhchdaa
open Go.RowKit
namespace Dy
theorem minus_law {out xs ys : List Int} {k c p q s : Nat} (hl : out.length = k) (h : num 2 (xs.take k) + 2 ^ k * c = num 2 out + num 2 (ys.take k)) (hp : xs[k]?.getD 0 = (p : Int)) (hq : ys[k]?.getD 0 = (q : Int)) (hs : p + 2 = s + q + c) (h3 : s ≤ 3) :
    num 2 (xs.take (k + 1)) + 2 ^ (k + 1) * (1 - s / 2) = num 2 (out ++ [((s % 2 : Nat) : Int)]) + num 2 (ys.take (k + 1)) := by
  rw [take_num, take_num, hp, hq, num_append, hl]
  simp only [num, Int.toNat_natCast, Nat.mul_zero, Nat.add_zero, Nat.pow_succ]
  have e : 2 ^ k * p + 2 ^ k * 2 * (1 - s / 2) = 2 ^ k * (s % 2) + 2 ^ k * q + 2 ^ k * c := by
    rw [Nat.mul_assoc, ← Nat.mul_add, ← Nat.mul_add, ← Nat.mul_add]
    congr 1
    omega
  omega
theorem minus_end {out xs ys : List Int} {N c : Nat} (hl : out.length = N) (hdo : Dig 2 out) (hx : xs.length = N) (hy : ys.length ≤ N) (hle : num 2 ys ≤ num 2 xs) (hc : c ≤ 1) (h : num 2 (xs.take N) + 2 ^ N * c = num 2 out + num 2 (ys.take N)) : num 2 out = num 2 xs - num 2 ys := by
  rw [List.take_of_length_le (by omega), List.take_of_length_le (by omega)] at h
  have h1 := num_lt 2 (by decide) out hdo
  rw [hl] at h1
  rcases Nat.lt_or_ge 0 c with h0 | h0
  · obtain rfl : c = 1 := by omega
    omega
  · obtain rfl : c = 0 := by omega
    omega
set_option maxHeartbeats 1600000 in
set_option maxRecDepth 100000 in
/-- headcountref01.Minus. -/
theorem Minus_any (w : World) (lo hi lo' hi' : Nat) (A : Option Addr) (n c : Nat) (xs : List Int) (hX : Ints w lo hi .u8 A n xs) (B : Option Addr) (m d : Nat) (ys : List Int) (hY : Ints w lo' hi' .u8 B m ys) (hdx : Dig 2 xs) (hdy : Dig 2 ys)
    (hhi : hi ≤ w.heap.size) (hhi' : hi' ≤ w.heap.size) (hn : n ≤ 1000000) (hm : m ≤ n) (hle : num 2 ys ≤ num 2 xs) (s : Nat) (hs : num 2 xs - num 2 ys = s) :
    Calls Try.prog 36 #[.slice A n c, .slice B m d] w fun e w' => ∃ A' n' c', e = .returned (.slice A' n' c') ∧ n' ≤ c' ∧ Below w.heap.size w w' ∧ Ints w' w.heap.size w'.heap.size .u8 A' n' (canon 2 s) := by
  have HL := Lib.hid hX.len
  have HL2 := Lib.hid hY.len
  have HS := Lib.hid hs
  clear hs
  obtain ⟨i0, hi0, hz0, hz1, hz2⟩ := info_parts Try.info5
  go_enter Try.func36, Try.ntmps36
  go_wp2
  go_loopw [5, 6, 7] (fun v cy i wr => ∃ k cc : Nat, ∃ out : List Int, i = .int .i64 k ∧ cy = .int .u8 cc ∧ cc ≤ 1 ∧ k ≤ n ∧ wr.ownsRow w.heap.size 5 1 v k (out.map (Value.int .u8)) ∧ Dig 2 out ∧ Hid (num 2 (xs.take k) + 2 ^ k * cc = num 2 out + num 2 (ys.take k)) ∧ Below w.heap.size w wr)
    (fun _ _ i _ => n - (intOf i).toNat)
  case atStart => exact ⟨0, 0, [], rfl, rfl, by omega, by omega, ⟨rfl, .inl ⟨rfl, rfl⟩⟩, fun x hx => (by simp at hx), by simp [Hid, num], Below.refl _ _⟩
  case round =>
    obtain ⟨k, cc, out, rfl, rfl, hcc, hk, hown, hdo, hnum, hnx⟩ := hrel
    by_cases hlt : k < n
    · obtain ⟨p, hp, hp1⟩ := bit_nat hdx k
      obtain ⟨q, hq, hq1⟩ := bit_nat hdy k
      have HP := Lib.hid hp
      have HQ := Lib.hid hq
      clear hp hq
      obtain ⟨s1, hs1⟩ : ∃ s1 : Nat, p + 2 = s1 + q + cc := ⟨p + 2 - q - cc, by omega⟩
      have hs3 : s1 ≤ 3 := by omega
      go_wp2_with fail
      refine (bit_any _ _ _ _ _ _ _ (hX.below hnx hhi) k _ p rfl HP.out (by omega)).mono ?_
      rintro e w1 ⟨rfl, rfl⟩
      go_wp2_with fail
      refine (bit_any _ _ _ _ _ _ _ (hY.below hnx hhi') k _ q rfl HQ.out (by omega)).mono ?_
      rintro e w2 ⟨rfl, rfl⟩
      go_wp2_with (first
        | (at_builtin; refine wpList_append_raw _ rfl (.tmp 25) (.tmp 28) 47 rfl w.heap.size 5 i0 (.int .u8 0) 1 1 Try.underlying47 hi0 hz0 hz1 hz2 rfl (by decide) _ _ _ rfl (hown.alloc _) _ _ _ 1 1 [.int .u8 (((p : Int) + 2 - q - cc) % 2)] rfl (raw_one _ _ _ _) ?c1 ?c2 ?c3 ?c4 ?_))
      case c1 => first | rfl | (intro u hu; simp at hu; subst hu; rfl)
      case c2 => unfold maxLen; omega
      case c3 => omega
      case c4 => have := hnx.size; simp; omega
      intro A2 c2 w3 hown2 hgrow2 _
      have hnx2 : Below w.heap.size w w3 := (hnx.alloc hnx.size _).grown hgrow2 (by have := hnx.size; simp; omega) (fun q hq => (hown.lt q hq).1)
      have hs : ((p : Int) + 2 - q - cc) % 2 = ((s1 % 2 : Nat) : Int) := by omega
      rw [hs] at hown2
      have hown3 : w3.ownsRow w.heap.size 5 1 (.slice A2 (k + 1) c2) (k + 1) ((out ++ [((s1 % 2 : Nat) : Int)]).map (Value.int .u8)) := by simpa using hown2
      have hol : out.length = k := by have := hown.1; simpa using this
      have hnum2 := Lib.hid (minus_law hol hnum.out HP.out HQ.out hs1 hs3)
      have hdo2 := dig_snoc hdo (s1 % 2) (by omega)
      have hb0 : 0 ≤ (p : Int) + 2 - q - cc := by omega
      have hb3 : (p : Int) + 2 - q - cc ≤ 3 := by omega
      have HS1 := Lib.hid hs1
      clear hs hs1 hown2 hgrow2 hol hown hnum
      go_wp2
      go_roundw
      case rel =>
        have hs1 := HS1.out
        exact ⟨k + 1, 1 - s1 / 2, _, by go_num, by congr 1; omega, by omega, by omega, hown3, hdo2, hnum2, hnx2⟩
      case measure => simp [intOf]; omega
    · obtain rfl : k = n := by omega
      obtain ⟨A2, c2, rfl, hc2, _⟩ := own_shape hown
      have hol : out.length = k := by have := hown.1; simpa using this
      have hend := minus_end hol hdo HL.out (by rw [HL2.out]; omega) hle hcc hnum.out
      rw [HS.out] at hend
      have hwf : ∀ x ∈ out, IntKind.u8.min ≤ x ∧ x ≤ IntKind.u8.max := fun x hx => by
        have := hdo x hx
        simp only [IntKind.min, IntKind.max, IntKind.signed, IntKind.bits]
        omega
      have hI := Ints.of_own hown hwf (by omega)
      have HE := Lib.hid hend
      clear hown hnum hend hol
      go_wp2_with fail
      refine (Cut_any _ _ _ _ _ _ _ hI hdo hc2).mono ?_
      rintro e w4 ⟨⟨m4, rfl, hm4, hI4⟩, rfl⟩
      rw [HE.out] at hI4
      go_wp2_with fail
      go_ret
      exact ⟨A2, m4, c2, rfl, by omega, hnx, hI4⟩
end Dy
end Go.Proofs.Ytlbkepiflhchdaa
namespace Go.Proofs.Ytlbkepiflhchdaa
open Go.RowKit
namespace Dy
theorem num_ext (B : Nat) : ∀ (xs ys : List Int), (∀ j : Nat, xs[j]?.getD 0 = ys[j]?.getD 0) → num B xs = num B ys
  | [], [], _ => rfl
  | [], y :: ys, h => by
    have h0 : (0 : Int) = y := by simpa using h 0
    have ih := num_ext B [] ys fun j => by simpa using h (j + 1)
    simp only [num] at ih ⊢
    rw [← ih, ← h0]
    simp
  | x :: xs, [], h => by
    have h0 : x = (0 : Int) := by simpa using h 0
    have ih := num_ext B xs [] fun j => by simpa using h (j + 1)
    simp only [num] at ih ⊢
    rw [ih, h0]
    simp
  | x :: xs, y :: ys, h => by
    have h0 : x = y := by simpa using h 0
    have ih := num_ext B xs ys fun j => by simpa using h (j + 1)
    simp only [num]
    rw [ih, h0]
theorem num_split (B : Nat) (l : List Int) (k : Nat) : num B l = num B (l.take k) + B ^ k * num B (l.drop k) := by
  by_cases h : k ≤ l.length
  · conv => lhs; rw [← List.take_append_drop k l]
    rw [num_append]
    simp [Nat.min_eq_left h]
  · rw [List.take_of_length_le (by omega), List.drop_eq_nil_of_le (by omega)]
    simp [num]
theorem order_lt {B : Nat} (hB : 0 < B) {xs ys : List Int} {i : Nat} (hdx : Dig B xs) (_hdy : Dig B ys) (heq : ∀ j, i < j → xs[j]?.getD 0 = ys[j]?.getD 0) (hlt : (xs[i]?.getD 0).toNat < (ys[i]?.getD 0).toNat) : num B xs < num B ys := by
  rw [num_split B xs (i + 1), num_split B ys (i + 1), take_num, take_num]
  have hd : num B (xs.drop (i + 1)) = num B (ys.drop (i + 1)) := num_ext B _ _ fun j => by
    rw [List.getElem?_drop, List.getElem?_drop]
    exact heq (i + 1 + j) (by omega)
  rw [hd]
  have h1 := num_lt B hB (xs.take i) fun x hx => hdx x (List.mem_of_mem_take hx)
  have h2 : B ^ (xs.take i).length ≤ B ^ i := Nat.pow_le_pow_right hB (by simp; omega)
  have h3 : B ^ i * ((xs[i]?.getD 0).toNat + 1) ≤ B ^ i * (ys[i]?.getD 0).toNat := Nat.mul_le_mul_left _ hlt
  rw [Nat.mul_add, Nat.mul_one] at h3
  omega
def cmpN (a b : Nat) : Int := if a < b then -1 else if a = b then 0 else 1
set_option maxHeartbeats 800000 in
set_option maxRecDepth 100000 in
theorem Order_lt (w : World) (lo hi lo' hi' : Nat) (A : Option Addr) (n c : Nat) (xs : List Int) (hX : Ints w lo hi .u8 A n xs) (B : Option Addr) (m d : Nat) (ys : List Int) (hY : Ints w lo' hi' .u8 B m ys) (hdx : Dig 2 xs) (hdy : Dig 2 ys)
    (hn : n ≤ 1000000) (hm : m ≤ 1000000) (hnm : n < m) (r : Int) (hr : cmpN (num 2 xs) (num 2 ys) = r) :
    Calls Try.prog 35 #[.slice A n c, .slice B m d] w fun e w' => e = .returned (.int .i64 r) ∧ w' = w := by
  have HR := Lib.hid hr
  have heq0 : ∀ j, m ≤ j → xs[j]?.getD 0 = ys[j]?.getD 0 := fun j hj => by
    have h1 := hX.len
    have h2 := hY.len
    rw [List.getElem?_eq_none (by omega), List.getElem?_eq_none (by omega)]
  have H0 := Lib.hid heq0
  clear hr heq0
  go_enter Try.func35, Try.ntmps35
  go_wp2
  go_loopw [5] (fun i wr => ∃ j : Nat, i = .int .i64 ((j : Int) - 1) ∧ j ≤ m ∧ Hid (∀ t, j ≤ t → xs[t]?.getD 0 = ys[t]?.getD 0) ∧ wr = w) (fun i _ => (intOf i + 1).toNat)
  case atStart => exact ⟨m, rfl, Nat.le_refl _, H0.out, rfl⟩
  case round =>
    obtain ⟨j, rfl, hj, he, rfl⟩ := hrel
    rcases j with _ | i
    · have hr0 : r = 0 := by
        rw [← HR.out, num_ext 2 xs ys fun t => he.out t (Nat.zero_le _)]
        simp [cmpN]
      go_wp2
      go_ret
      exact ⟨ret_int (by rw [hr0]), by trivial⟩
    · have ei : ((i + 1 : Nat) : Int) - 1 = (i : Int) := by omega
      rw [ei]
      obtain ⟨p, hp, hp1⟩ := bit_nat hdx i
      obtain ⟨q, hq, hq1⟩ := bit_nat hdy i
      have HP := Lib.hid hp
      have HQ := Lib.hid hq
      clear hp hq ei
      by_cases hpq : p = q
      · subst hpq
        go_wp2_with fail
        refine (bit_any _ _ _ _ _ _ _ hX i _ p rfl HP.out (by omega)).mono ?_
        rintro e w1 ⟨rfl, rfl⟩
        go_wp2_with fail
        refine (bit_any _ _ _ _ _ _ _ hY i _ p rfl HQ.out (by omega)).mono ?_
        rintro e w2 ⟨rfl, rfl⟩
        go_wp2_with fail
        go_roundw
        case rel =>
          refine ⟨i, by first | rfl | (congr 1; omega), by omega, fun t ht => ?_, by trivial⟩
          by_cases e : t = i
          · subst e
            rw [HP.out, HQ.out]
          · exact he.out t (by omega)
        case measure => first | (simp [intOf]; done) | (simp [intOf]; omega)
      · by_cases hlt : p < q
        · have hr1 : r = -1 := by
            have := order_lt (by decide) hdx hdy (i := i) (fun t ht => he.out t ht) (by rw [HP.out, HQ.out]; simpa using hlt)
            rw [← HR.out, cmpN, if_pos this]
          obtain rfl : p = 0 := by omega
          obtain rfl : q = 1 := by omega
          have HR1 := Lib.hid hr1
          clear hr1
          go_wp2_with fail
          refine (bit_any _ _ _ _ _ _ _ hX i _ 0 rfl HP.out (by omega)).mono ?_
          rintro e w1 ⟨rfl, rfl⟩
          go_wp2_with fail
          refine (bit_any _ _ _ _ _ _ _ hY i _ 1 rfl HQ.out (by omega)).mono ?_
          rintro e w2 ⟨rfl, rfl⟩
          go_wp2_with fail
          refine (bit_any _ _ _ _ _ _ _ hX i _ 0 rfl HP.out (by omega)).mono ?_
          rintro e w1 ⟨rfl, rfl⟩
          go_wp2_with fail
          refine (bit_any _ _ _ _ _ _ _ hY i _ 1 rfl HQ.out (by omega)).mono ?_
          rintro e w2 ⟨rfl, rfl⟩
          go_wp2_with fail
          go_ret
          exact ⟨ret_int (by rw [HR1.out]), by trivial⟩
        · have hr1 : r = 1 := by
            have := order_lt (by decide) hdy hdx (i := i) (fun t ht => (he.out t ht).symm) (by rw [HP.out, HQ.out]; simp; omega)
            rw [← HR.out, cmpN, if_neg (by omega), if_neg (by omega)]
          obtain rfl : p = 1 := by omega
          obtain rfl : q = 0 := by omega
          have HR1 := Lib.hid hr1
          clear hr1
          go_wp2_with fail
          refine (bit_any _ _ _ _ _ _ _ hX i _ 1 rfl HP.out (by omega)).mono ?_
          rintro e w1 ⟨rfl, rfl⟩
          go_wp2_with fail
          refine (bit_any _ _ _ _ _ _ _ hY i _ 0 rfl HQ.out (by omega)).mono ?_
          rintro e w2 ⟨rfl, rfl⟩
          go_wp2_with fail
          refine (bit_any _ _ _ _ _ _ _ hX i _ 1 rfl HP.out (by omega)).mono ?_
          rintro e w1 ⟨rfl, rfl⟩
          go_wp2_with fail
          refine (bit_any _ _ _ _ _ _ _ hY i _ 0 rfl HQ.out (by omega)).mono ?_
          rintro e w2 ⟨rfl, rfl⟩
          go_wp2_with fail
          go_ret
          exact ⟨ret_int (by rw [HR1.out]), by trivial⟩
set_option maxHeartbeats 800000 in
set_option maxRecDepth 100000 in
theorem Order_ge (w : World) (lo hi lo' hi' : Nat) (A : Option Addr) (n c : Nat) (xs : List Int) (hX : Ints w lo hi .u8 A n xs) (B : Option Addr) (m d : Nat) (ys : List Int) (hY : Ints w lo' hi' .u8 B m ys) (hdx : Dig 2 xs) (hdy : Dig 2 ys)
    (hn : n ≤ 1000000) (_hm : m ≤ 1000000) (hnm : ¬ n < m) (r : Int) (hr : cmpN (num 2 xs) (num 2 ys) = r) :
    Calls Try.prog 35 #[.slice A n c, .slice B m d] w fun e w' => e = .returned (.int .i64 r) ∧ w' = w := by
  have HR := Lib.hid hr
  have heq0 : ∀ j, n ≤ j → xs[j]?.getD 0 = ys[j]?.getD 0 := fun j hj => by
    have h1 := hX.len
    have h2 := hY.len
    rw [List.getElem?_eq_none (by omega), List.getElem?_eq_none (by omega)]
  have H0 := Lib.hid heq0
  clear hr heq0
  go_enter Try.func35, Try.ntmps35
  go_wp2
  go_loopw [5] (fun i wr => ∃ j : Nat, i = .int .i64 ((j : Int) - 1) ∧ j ≤ n ∧ Hid (∀ t, j ≤ t → xs[t]?.getD 0 = ys[t]?.getD 0) ∧ wr = w) (fun i _ => (intOf i + 1).toNat)
  case atStart => exact ⟨n, rfl, Nat.le_refl _, H0.out, rfl⟩
  case round =>
    obtain ⟨j, rfl, hj, he, rfl⟩ := hrel
    rcases j with _ | i
    · have hr0 : r = 0 := by
        rw [← HR.out, num_ext 2 xs ys fun t => he.out t (Nat.zero_le _)]
        simp [cmpN]
      go_wp2
      go_ret
      exact ⟨ret_int (by rw [hr0]), by trivial⟩
    · have ei : ((i + 1 : Nat) : Int) - 1 = (i : Int) := by omega
      rw [ei]
      obtain ⟨p, hp, hp1⟩ := bit_nat hdx i
      obtain ⟨q, hq, hq1⟩ := bit_nat hdy i
      have HP := Lib.hid hp
      have HQ := Lib.hid hq
      clear hp hq ei
      by_cases hpq : p = q
      · subst hpq
        go_wp2_with fail
        refine (bit_any _ _ _ _ _ _ _ hX i _ p rfl HP.out (by omega)).mono ?_
        rintro e w1 ⟨rfl, rfl⟩
        go_wp2_with fail
        refine (bit_any _ _ _ _ _ _ _ hY i _ p rfl HQ.out (by omega)).mono ?_
        rintro e w2 ⟨rfl, rfl⟩
        go_wp2_with fail
        go_roundw
        case rel =>
          refine ⟨i, by first | rfl | (congr 1; omega), by omega, fun t ht => ?_, by trivial⟩
          by_cases e : t = i
          · subst e
            rw [HP.out, HQ.out]
          · exact he.out t (by omega)
        case measure => first | (simp [intOf]; done) | (simp [intOf]; omega)
      · by_cases hlt : p < q
        · have hr1 : r = -1 := by
            have := order_lt (by decide) hdx hdy (i := i) (fun t ht => he.out t ht) (by rw [HP.out, HQ.out]; simpa using hlt)
            rw [← HR.out, cmpN, if_pos this]
          obtain rfl : p = 0 := by omega
          obtain rfl : q = 1 := by omega
          have HR1 := Lib.hid hr1
          clear hr1
          go_wp2_with fail
          refine (bit_any _ _ _ _ _ _ _ hX i _ 0 rfl HP.out (by omega)).mono ?_
          rintro e w1 ⟨rfl, rfl⟩
          go_wp2_with fail
          refine (bit_any _ _ _ _ _ _ _ hY i _ 1 rfl HQ.out (by omega)).mono ?_
          rintro e w2 ⟨rfl, rfl⟩
          go_wp2_with fail
          refine (bit_any _ _ _ _ _ _ _ hX i _ 0 rfl HP.out (by omega)).mono ?_
          rintro e w1 ⟨rfl, rfl⟩
          go_wp2_with fail
          refine (bit_any _ _ _ _ _ _ _ hY i _ 1 rfl HQ.out (by omega)).mono ?_
          rintro e w2 ⟨rfl, rfl⟩
          go_wp2_with fail
          go_ret
          exact ⟨ret_int (by rw [HR1.out]), by trivial⟩
        · have hr1 : r = 1 := by
            have := order_lt (by decide) hdy hdx (i := i) (fun t ht => (he.out t ht).symm) (by rw [HP.out, HQ.out]; simp; omega)
            rw [← HR.out, cmpN, if_neg (by omega), if_neg (by omega)]
          obtain rfl : p = 1 := by omega
          obtain rfl : q = 0 := by omega
          have HR1 := Lib.hid hr1
          clear hr1
          go_wp2_with fail
          refine (bit_any _ _ _ _ _ _ _ hX i _ 1 rfl HP.out (by omega)).mono ?_
          rintro e w1 ⟨rfl, rfl⟩
          go_wp2_with fail
          refine (bit_any _ _ _ _ _ _ _ hY i _ 0 rfl HQ.out (by omega)).mono ?_
          rintro e w2 ⟨rfl, rfl⟩
          go_wp2_with fail
          refine (bit_any _ _ _ _ _ _ _ hX i _ 1 rfl HP.out (by omega)).mono ?_
          rintro e w1 ⟨rfl, rfl⟩
          go_wp2_with fail
          refine (bit_any _ _ _ _ _ _ _ hY i _ 0 rfl HQ.out (by omega)).mono ?_
          rintro e w2 ⟨rfl, rfl⟩
          go_wp2_with fail
          go_ret
          exact ⟨ret_int (by rw [HR1.out]), by trivial⟩
/-- headcountref01.Order. -/
theorem Order_any (w : World) (lo hi lo' hi' : Nat) (A : Option Addr) (n c : Nat) (xs : List Int) (hX : Ints w lo hi .u8 A n xs) (B : Option Addr) (m d : Nat) (ys : List Int) (hY : Ints w lo' hi' .u8 B m ys) (hdx : Dig 2 xs) (hdy : Dig 2 ys)
    (hn : n ≤ 1000000) (hm : m ≤ 1000000) (r : Int) (hr : cmpN (num 2 xs) (num 2 ys) = r) :
    Calls Try.prog 35 #[.slice A n c, .slice B m d] w fun e w' => e = .returned (.int .i64 r) ∧ w' = w := by
  by_cases h : n < m
  · exact Order_lt w lo hi lo' hi' A n c xs hX B m d ys hY hdx hdy hn hm h r hr
  · exact Order_ge w lo hi lo' hi' A n c xs hX B m d ys hY hdx hdy hn hm h r hr
end Dy
end Go.Proofs.Ytlbkepiflhchdaa
namespace Go.Proofs.Ytlbkepiflhchdaa
open Go.RowKit
namespace Dy
theorem canon_shift {B n : Nat} (hB : 2 ≤ B) (k : Nat) (h : n ≠ 0) : List.replicate k 0 ++ canon B n = canon B (B ^ k * n) := by
  obtain ⟨h1, h2, h3⟩ := canon_spec B n hB
  have hne : canon B n ≠ [] := fun e => h (canon_nil hB e)
  refine canon_of hB (fun x hx => ?_) (fun hn => ?_) (by rw [num_append, num_zeros, h3]; simp)
  · rcases List.mem_append.1 hx with h' | h'
    · rw [(List.mem_replicate.1 h').2]
      omega
    · exact h1 x h'
  · rw [List.getLast_append_of_ne_nil _ hne]
    exact h2 hne
set_option maxHeartbeats 800000 in
set_option maxRecDepth 100000 in
/-- headcountref01.Times2. -/
theorem Times2_any (w : World) (lo hi : Nat) (A : Option Addr) (n c : Nat) (v : Nat) (hX : Ints w lo hi .u8 A n (canon 2 v)) (hhi : hi ≤ w.heap.size) (hn : n ≤ 1000000) (k : Nat) (kk : Int) (hkk : kk = k) (hk : k ≤ 100000) :
    Calls Try.prog 37 #[.slice A n c, .int .i64 kk] w fun e w' => ∃ A' n' c', e = .returned (.slice A' n' c') ∧ n' ≤ c' ∧ n' ≤ n + k ∧ Below w.heap.size w w' ∧ Ints w' w.heap.size w'.heap.size .u8 A' n' (canon 2 (2 ^ k * v)) := by
  subst hkk
  obtain ⟨i0, hi0, hz0, hz1, hz2⟩ := info_parts Try.info5
  have HL := Lib.hid hX.len
  by_cases h0 : v = 0
  · subst h0
    have hn0 : n = 0 := by rw [← HL.out]; rfl
    subst hn0
    go_enter Try.func37, Try.ntmps37
    go_wp2
    go_ret
    exact ⟨none, 0, 0, rfl, Nat.le_refl _, by omega, Below.refl _ _, by rw [Nat.mul_zero]; exact Ints.nil_ ..⟩
  · have hn0 : 0 < n := by
      rw [← HL.out]
      exact List.length_pos_iff.2 fun e => h0 (canon_nil (by decide) e)
    have hC := Lib.hid (canon_shift (B := 2) (by decide) k h0)
    go_enter Try.func37, Try.ntmps37
    go_wp2_with (first
      | (at_make; refine wpList_make_full _ rfl _ _ 47 rfl w.heap.size 5 i0 (.int .u8 0) 1 Try.underlying47 hi0 hz0 hz1 .i64 .i64 k k k rfl rfl rfl rfl (by rw [hz2]; omega) (by unfold maxLen; omega) (Nat.le_refl _) ?_))
    intro w1 hown1 hgrow1
    have hz : (madeCells #[Value.int .u8 0] k).toList = (List.replicate k (0 : Int)).map (Value.int .u8) := by
      apply List.ext_getElem
      · simp [madeCells]
      · intro j h1 h2
        simp [madeCells, Nat.mod_one]
    rw [hz] at hown1
    have hb1 : Below w.heap.size w w1 := (Below.refl _ w).grown hgrow1 (Nat.le_refl _) (fun q hq => by cases hq)
    clear hz hgrow1
    go_wp2_with (first
      | (at_builtin; refine wpList_append_raw _ rfl (.tmp 9) (.tmp 10) 47 rfl w.heap.size 5 i0 (.int .u8 0) 1 1 Try.underlying47 hi0 hz0 hz1 hz2 rfl (by decide) _ _ _ rfl hown1 _ _ _ n _ _ rfl (hX.below hb1 hhi).raw ?c1 ?c2 ?c3 ?c4 ?_))
    case c1 => exact ints_oneCell _ _
    case c2 => unfold maxLen; omega
    case c3 => omega
    case c4 => exact hb1.size
    intro A2 c2 w2 hown2 hgrow2 _
    have hb2 : Below w.heap.size w w2 := hb1.grown hgrow2 hb1.size (fun q hq => (hown1.lt q hq).1)
    have hcz : List.replicate k (Value.int .u8 0) ++ (canon 2 v).map (Value.int .u8) = (canon 2 (2 ^ k * v)).map (Value.int .u8) := by rw [← hC.out]; simp
    rw [hcz] at hown2
    clear hcz
    have hc2 := own_cap hown2
    have hwf : ∀ x ∈ canon 2 (2 ^ k * v), IntKind.u8.min ≤ x ∧ x ≤ IntKind.u8.max := fun x hx => by
      have := (canon_spec 2 (2 ^ k * v) (by decide)).1 x hx
      simp only [IntKind.min, IntKind.max, IntKind.signed, IntKind.bits]
      omega
    have hI := Ints.of_own hown2 hwf (by omega)
    clear hown1 hown2 hgrow2 hb1
    go_wp2
    go_ret
    exact ⟨A2, k + n, c2, rfl, hc2, by omega, hb2, hI⟩
end Dy
end Go.Proofs.Ytlbkepiflhchdaa
namespace Go.Proofs.Ytlbkepiflhchdaa
open Go.RowKit
namespace Dy
theorem bits_law {out : List Int} {k i t : Nat} (S r : Nat) (hl : out.length = i + k) (h : num 2 out = S + 2 ^ i * (t % 2 ^ k)) (hr : t / 2 ^ k = r) :
    num 2 (out ++ [((r % 2 : Nat) : Int)]) = S + 2 ^ i * (t % 2 ^ (k + 1)) := by
  rw [num_append, hl, h, Nat.mod_pow_succ, hr]
  simp only [num, Int.toNat_natCast, Nat.mul_zero, Nat.add_zero, Nat.mul_add, Nat.pow_add]
  rw [Nat.mul_assoc, Nat.add_assoc]
set_option maxHeartbeats 1600000 in
set_option maxRecDepth 100000 in
/-- headcountref01.Digits. -/
theorem Digits_any (w : World) (lo hi : Nat) (A : Option Addr) (n c : Nat) (xs : List Int) (hX : Ints w lo hi .u32 A n xs) (hdx : Dig 4294967296 xs) (hhi : hi ≤ w.heap.size) (hn : n ≤ 10000) (v : Nat) (hv : num 4294967296 xs = v) :
    Calls Try.prog 38 #[.slice A n c] w fun e w' => ∃ A' n' c', e = .returned (.slice A' n' c') ∧ n' ≤ c' ∧ n' ≤ 32 * n ∧ Below w.heap.size w w' ∧ Ints w' w.heap.size w'.heap.size .u8 A' n' (canon 2 v) := by
  have HL := Lib.hid hX.len
  have HV := Lib.hid hv
  clear hv
  obtain ⟨i0, hi0, hz0, hz1, hz2⟩ := info_parts Try.info5
  go_enter Try.func38, Try.ntmps38
  go_wp2
  go_loopw [3, 4] (fun o i wr => ∃ j : Nat, ∃ out : List Int, i = .int .i64 j ∧ j ≤ n ∧ wr.ownsRow w.heap.size 5 1 o (32 * j) (out.map (Value.int .u8)) ∧ Dig 2 out ∧ Hid (num 2 out = num 4294967296 (xs.take j)) ∧ Below w.heap.size w wr)
    (fun _ i _ => n - (intOf i).toNat)
  case atStart => exact ⟨0, [], rfl, by omega, ⟨rfl, .inl ⟨rfl, rfl⟩⟩, fun x hx => (by simp at hx), by simp [Hid, num], Below.refl _ _⟩
  case round =>
    obtain ⟨j, out, rfl, hj, hown, hdo, hnum, hnx⟩ := hrel
    by_cases hlt : j < n
    · obtain ⟨b, off, rfl, hcell⟩ := get (hX.below hnx hhi) (by omega)
      have g1 : wr.cell? ⟨b, off + j, none⟩ = some (.int .u32 (xs[j]?.getD 0)) := hcell j hlt
      clear hcell
      have hxm : 0 ≤ xs[j]?.getD 0 ∧ xs[j]?.getD 0 < 4294967296 := by
        rw [List.getElem?_eq_getElem (by rw [HL.out]; exact hlt)]
        exact hdx _ (List.getElem_mem _)
      obtain ⟨t, ht⟩ : ∃ t : Nat, xs[j]?.getD 0 = t := ⟨(xs[j]?.getD 0).toNat, by omega⟩
      have HT := Lib.hid ht
      rw [ht] at g1 hxm
      clear ht
      obtain ⟨S, hS⟩ : ∃ S, num 4294967296 (xs.take j) = S := ⟨_, rfl⟩
      rw [hS] at hnum
      have HSS := Lib.hid hS
      clear hS
      go_wp2
      go_loopw [3, 5, 6] (fun o nn kv wr => ∃ k r : Nat, ∃ out : List Int, kv = .int .i64 k ∧ nn = .int .u32 r ∧ Hid (t / 2 ^ k = r) ∧ r ≤ 4294967295 ∧ k ≤ 32 ∧ wr.ownsRow w.heap.size 5 1 o (32 * j + k) (out.map (Value.int .u8)) ∧ Dig 2 out ∧ Hid (num 2 out = S + 2 ^ (32 * j) * (t % 2 ^ k)) ∧ Below w.heap.size w wr)
        (fun _ _ kv _ => 32 - (intOf kv).toNat)
      case atStart => exact ⟨0, t, out, rfl, rfl, by simp [Hid], by omega, by omega, hown, hdo, by rw [Hid, hnum.out]; simp [Nat.mod_one], hnx⟩
      case round =>
        clear hown hdo hnum hnx g1
        obtain ⟨k, r, out, rfl, rfl, hr, hr2, hk, hown, hdo, hnum, hnx⟩ := hrel
        by_cases hkl : k < 32
        · have hol : out.length = 32 * j + k := by have := hown.1; simpa using this
          have hnum2 := Lib.hid (bits_law S r hol hnum.out hr.out)
          have hdo2 := dig_snoc hdo (r % 2) (by omega)
          have hr3 : Hid (t / 2 ^ (k + 1) = r / 2) := by rw [Hid, Nat.pow_succ, ← Nat.div_div_eq_div_mul, hr.out]
          clear hol hnum hr
          go_wp2_with (first
            | (at_builtin; refine wpList_append_raw _ rfl (.tmp 21) (.tmp 25) 47 rfl w.heap.size 5 i0 (.int .u8 0) 1 1 Try.underlying47 hi0 hz0 hz1 hz2 rfl (by decide) _ _ _ rfl (hown.alloc _) _ _ _ 1 1 [.int .u8 ((r : Int) % 2)] rfl (raw_one _ _ _ _) ?c1 ?c2 ?c3 ?c4 ?_))
          case c1 => first | rfl | (intro u hu; simp at hu; subst hu; rfl)
          case c2 => unfold maxLen; omega
          case c3 => omega
          case c4 => have := hnx.size; simp; omega
          intro A2 c2 w3 hown2 hgrow2 _
          have hnx2 : Below w.heap.size w w3 := (hnx.alloc hnx.size _).grown hgrow2 (by have := hnx.size; simp; omega) (fun q hq => (hown.lt q hq).1)
          have hs : (r : Int) % 2 = ((r % 2 : Nat) : Int) := by omega
          rw [hs] at hown2
          have hown3 : w3.ownsRow w.heap.size 5 1 (.slice A2 (32 * j + k + 1) c2) (32 * j + (k + 1)) ((out ++ [((r % 2 : Nat) : Int)]).map (Value.int .u8)) := by simpa [Nat.add_assoc] using hown2
          clear hs hown2 hgrow2 hown
          go_wp2
          go_roundw
          case rel => exact ⟨k + 1, r / 2, _, by go_num, by congr 1, hr3, by omega, by omega, hown3, hdo2, hnum2, hnx2⟩
          case measure => simp [intOf]; omega
        · obtain rfl : k = 32 := by omega
          have hfin : Hid (num 2 out = num 4294967296 (xs.take (j + 1))) := by
            rw [Hid, take_num, HT.out, HSS.out, hnum.out, Nat.mod_eq_of_lt (by omega), Nat.pow_mul]
            simp
          clear hnum
          go_wp2
          go_roundw
          case rel => exact ⟨j + 1, out, by go_num, by omega, by rw [show 32 * (j + 1) = 32 * j + 32 by omega]; exact hown, hdo, hfin, hnx⟩
          case measure => simp [intOf]; omega
    · obtain rfl : j = n := by omega
      obtain ⟨A2, c2, rfl, hc2, _⟩ := own_shape hown
      have hend : num 2 out = v := by rw [hnum.out, List.take_of_length_le (by rw [HL.out]; exact Nat.le_refl _), HV.out]
      have hwf : ∀ x ∈ out, IntKind.u8.min ≤ x ∧ x ≤ IntKind.u8.max := fun x hx => by
        have := hdo x hx
        simp only [IntKind.min, IntKind.max, IntKind.signed, IntKind.bits]
        omega
      have hI := Ints.of_own hown hwf (by omega)
      have HE := Lib.hid hend
      clear hown hnum hend
      go_wp2_with fail
      refine (Cut_any _ _ _ _ _ _ _ hI hdo hc2).mono ?_
      rintro e w4 ⟨⟨m4, rfl, hm4, hI4⟩, rfl⟩
      rw [HE.out] at hI4
      go_wp2_with fail
      go_ret
      exact ⟨A2, m4, c2, rfl, by omega, hm4, hnx, hI4⟩
end Dy
end Go.Proofs.Ytlbkepiflhchdaa
namespace Go.Proofs.Ytlbkepiflhchdaa
open Go.RowKit
namespace Dy
theorem num_last (B : Nat) (l : List Int) (h : l ≠ []) : num B l = num B l.dropLast + B ^ (l.length - 1) * (l.getLast h).toNat := by
  conv => lhs; rw [← List.dropLast_concat_getLast h]
  rw [num_append]
  simp [num]
theorem num_ge {B : Nat} {l : List Int} (hd : Dig B l) (hc : Cutd l) (h : l ≠ []) : B ^ (l.length - 1) ≤ num B l := by
  rw [num_last B l h]
  have h1 := hc h
  have h2 := hd _ (List.getLast_mem h)
  have : B ^ (l.length - 1) * 1 ≤ B ^ (l.length - 1) * (l.getLast h).toNat := Nat.mul_le_mul_left _ (by omega)
  omega
theorem cutd_of_ge {B : Nat} (hB : 0 < B) {l : List Int} (hd : Dig B l) (hg : l ≠ [] → B ^ (l.length - 1) ≤ num B l) : Cutd l := fun h h0 => by
  have h1 := hg h
  rw [num_last B l h, h0] at h1
  have h2 := num_lt B hB l.dropLast fun x hx => hd x (List.dropLast_subset _ hx)
  simp at h1 h2
  omega
/-- The digits from place i on, below place t. -/
def part (l : List Int) (i t : Nat) : List Int := (l.take t).drop i
theorem part_none (l : List Int) (t : Nat) : part l t t = [] := by
  unfold part
  rw [List.drop_eq_nil_of_le (by simp; omega)]
theorem part_step (B : Nat) (l : List Int) {i t : Nat} (hi : i < t) (ht : t ≤ l.length) : num B (part l i t) = (l[i]?.getD 0).toNat + B * num B (part l (i + 1) t) := by
  unfold part
  rw [List.drop_eq_getElem_cons (by simp; omega)]
  simp only [num, List.getElem_take]
  rw [List.getElem?_eq_getElem (by omega)]
  rfl
theorem part_split (B : Nat) (l : List Int) {i t : Nat} (hi : i ≤ t) (_ht : i ≤ l.length) : num B (l.take t) = num B (l.take i) + B ^ i * num B (part l i t) := by
  rw [num_split B (l.take t) i, List.take_take, Nat.min_eq_left hi]
  rfl
theorem part_lt {B : Nat} (hB : 0 < B) {l : List Int} (hd : Dig B l) {i t k : Nat} (h : t ≤ i + k) : num B (part l i t) < B ^ k := by
  have h1 := num_lt B hB (part l i t) fun x hx => hd x (List.mem_of_mem_take (List.mem_of_mem_drop hx))
  have h2 : B ^ (part l i t).length ≤ B ^ k := Nat.pow_le_pow_right hB (by unfold part; simp; omega)
  omega
end Dy
end Go.Proofs.Ytlbkepiflhchdaa
