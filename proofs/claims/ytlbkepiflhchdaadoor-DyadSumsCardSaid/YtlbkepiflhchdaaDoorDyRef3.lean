/- Differences of bits, bits with 0 ahead of them, by walks. -/
import Derived.Test.YtlbkepiflhchdaaDoorDyRef2
namespace Go.Proofs.YtlbkepiflhchdaaDoor
open Go.RowKit
namespace Dy
theorem minus_law {out xs ys : List Int} {k c p q s : Nat} (hl : out.length = k) (h : num 2 (xs.take k) + 2 ^ k * c = num 2 out + num 2 (ys.take k)) (hp : xs[k]?.getD 0 = (p : Int)) (hq : ys[k]?.getD 0 = (q : Int)) (hs : p + 2 = s + q + c) (h3 : s ≤ 3) :
    num 2 (xs.take (k + 1)) + 2 ^ (k + 1) * (1 - s / 2) = num 2 (out ++ [((s % 2 : Nat) : Int)]) + num 2 (ys.take (k + 1)) := by
  rw [take_num, take_num, hp, hq, num_append, hl]
  simp only [num, Int.toNat_natCast, Nat.mul_zero, Nat.add_zero, Nat.pow_succ]
  have e : 2 ^ k * p + 2 ^ k * 2 * (1 - s / 2) = 2 ^ k * (s % 2) + 2 ^ k * q + 2 ^ k * c := by
    rw [Nat.mul_assoc, ← Nat.mul_add, ← Nat.mul_add, ← Nat.mul_add]
    congr 1
    omega
  omega
theorem minus_end {out xs ys : List Int} {N c : Nat} (hl : out.length = N) (hdo : Dig 2 out) (hx : xs.length = N) (hy : ys.length ≤ N) (hle : num 2 ys ≤ num 2 xs) (hc : c ≤ 1) (h : num 2 (xs.take N) + 2 ^ N * c = num 2 out + num 2 (ys.take N)) : num 2 out = num 2 xs - num 2 ys := by
  rw [List.take_of_length_le (by omega), List.take_of_length_le (by omega)] at h
  have h1 := num_lt 2 (by decide) out hdo
  rw [hl] at h1
  rcases Nat.lt_or_ge 0 c with h0 | h0
  · obtain rfl : c = 1 := by omega
    omega
  · obtain rfl : c = 0 := by omega
    omega

set_option maxHeartbeats 1600000 in
set_option maxRecDepth 100000 in
/-- headcountref01.Minus. -/
theorem Minus_any (w : World) (lo hi lo' hi' : Nat) (A : Option Addr) (n c : Nat) (xs : List Int) (hX : Ints w lo hi .u8 A n xs) (B : Option Addr) (m d : Nat) (ys : List Int) (hY : Ints w lo' hi' .u8 B m ys) (hdx : Dig 2 xs) (hdy : Dig 2 ys)
    (hhi : hi ≤ w.heap.size) (hhi' : hi' ≤ w.heap.size) (hn : n ≤ 1000000) (hm : m ≤ n) (hle : num 2 ys ≤ num 2 xs) (s : Nat) (hs : num 2 xs - num 2 ys = s) :
    Calls Tryd.prog 100 #[.slice A n c, .slice B m d] w fun e w' => ∃ A' n' c', e = .returned (.slice A' n' c') ∧ n' ≤ c' ∧ Below w.heap.size w w' ∧ Ints w' w.heap.size w'.heap.size .u8 A' n' (canon 2 s) := by
  have HL := Lib.hid hX.len
  have HL2 := Lib.hid hY.len
  have HS := Lib.hid hs
  clear hs
  obtain ⟨i0, hi0, hz0, hz1, hz2⟩ := info_parts Tryd.info5
  go_enter Tryd.func100, Tryd.ntmps100
  go_wp2
  go_loopw [5, 6, 7] (fun v cy i wr => ∃ k cc : Nat, ∃ out : List Int, i = .int .i64 k ∧ cy = .int .u8 cc ∧ cc ≤ 1 ∧ k ≤ n ∧ wr.ownsRow w.heap.size 5 1 v k (out.map (Value.int .u8)) ∧ Dig 2 out ∧ Hid (num 2 (xs.take k) + 2 ^ k * cc = num 2 out + num 2 (ys.take k)) ∧ Below w.heap.size w wr)
    (fun _ _ i _ => n - (intOf i).toNat)
  case atStart => exact ⟨0, 0, [], rfl, rfl, by omega, by omega, ⟨rfl, .inl ⟨rfl, rfl⟩⟩, fun x hx => (by simp at hx), by simp [Hid, num], Below.refl _ _⟩
  case round =>
    obtain ⟨k, cc, out, rfl, rfl, hcc, hk, hown, hdo, hnum, hnx⟩ := hrel
    by_cases hlt : k < n
    · obtain ⟨p, hp, hp1⟩ := bit_nat hdx k
      obtain ⟨q, hq, hq1⟩ := bit_nat hdy k
      have HP := Lib.hid hp
      have HQ := Lib.hid hq
      clear hp hq
      obtain ⟨s1, hs1⟩ : ∃ s1 : Nat, p + 2 = s1 + q + cc := ⟨p + 2 - q - cc, by omega⟩
      have hs3 : s1 ≤ 3 := by omega
      go_wp2_with fail
      refine (bit_any _ _ _ _ _ _ _ (hX.below hnx hhi) k _ p rfl HP.out (by omega)).mono ?_
      rintro e w1 ⟨rfl, rfl⟩
      go_wp2_with fail
      refine (bit_any _ _ _ _ _ _ _ (hY.below hnx hhi') k _ q rfl HQ.out (by omega)).mono ?_
      rintro e w2 ⟨rfl, rfl⟩
      go_wp2_with (first
        | (at_builtin; refine wpList_append_raw _ rfl (.tmp 25) (.tmp 28) 85 rfl w.heap.size 5 i0 (.int .u8 0) 1 1 Tryd.underlying85 hi0 hz0 hz1 hz2 rfl (by decide) _ _ _ rfl (hown.alloc _) _ _ _ 1 1 [.int .u8 (((p : Int) + 2 - q - cc) % 2)] rfl (raw_one _ _ _ _) ?c1 ?c2 ?c3 ?c4 ?_))
      case c1 => first | rfl | (intro u hu; simp at hu; subst hu; rfl)
      case c2 => unfold maxLen; omega
      case c3 => omega
      case c4 => have := hnx.size; simp; omega
      intro A2 c2 w3 hown2 hgrow2 _
      have hnx2 : Below w.heap.size w w3 := (hnx.alloc hnx.size _).grown hgrow2 (by have := hnx.size; simp; omega) (fun q hq => (hown.lt q hq).1)
      have hs : ((p : Int) + 2 - q - cc) % 2 = ((s1 % 2 : Nat) : Int) := by omega
      rw [hs] at hown2
      have hown3 : w3.ownsRow w.heap.size 5 1 (.slice A2 (k + 1) c2) (k + 1) ((out ++ [((s1 % 2 : Nat) : Int)]).map (Value.int .u8)) := by simpa using hown2
      have hol : out.length = k := by have := hown.1; simpa using this
      have hnum2 := Lib.hid (minus_law hol hnum.out HP.out HQ.out hs1 hs3)
      have hdo2 := dig_snoc hdo (s1 % 2) (by omega)
      have hb0 : 0 ≤ (p : Int) + 2 - q - cc := by omega
      have hb3 : (p : Int) + 2 - q - cc ≤ 3 := by omega
      have HS1 := Lib.hid hs1
      clear hs hs1 hown2 hgrow2 hol hown hnum
      go_wp2
      go_roundw
      case rel =>
        have hs1 := HS1.out
        exact ⟨k + 1, 1 - s1 / 2, _, by go_num, by congr 1; omega, by omega, by omega, hown3, hdo2, hnum2, hnx2⟩
      case measure => simp [intOf]; omega
    · obtain rfl : k = n := by omega
      obtain ⟨A2, c2, rfl, hc2, _⟩ := own_shape hown
      have hol : out.length = k := by have := hown.1; simpa using this
      have hend := minus_end hol hdo HL.out (by rw [HL2.out]; omega) hle hcc hnum.out
      rw [HS.out] at hend
      have hwf : ∀ x ∈ out, IntKind.u8.min ≤ x ∧ x ≤ IntKind.u8.max := fun x hx => by
        have := hdo x hx
        simp only [IntKind.min, IntKind.max, IntKind.signed, IntKind.bits]
        omega
      have hI := Ints.of_own hown hwf (by omega)
      have HE := Lib.hid hend
      clear hown hnum hend hol
      go_wp2_with fail
      refine (Cut_any _ _ _ _ _ _ _ hI hdo hc2).mono ?_
      rintro e w4 ⟨⟨m4, rfl, hm4, hI4⟩, rfl⟩
      rw [HE.out] at hI4
      go_wp2_with fail
      go_ret
      exact ⟨A2, m4, c2, rfl, by omega, hnx, hI4⟩
end Dy
end Go.Proofs.YtlbkepiflhchdaaDoor
