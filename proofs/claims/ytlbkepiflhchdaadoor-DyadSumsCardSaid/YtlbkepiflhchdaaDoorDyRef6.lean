/- The bits of limbs, by a walk. -/
import Derived.Test.YtlbkepiflhchdaaDoorDyRef5
namespace Go.Proofs.YtlbkepiflhchdaaDoor
open Go.RowKit
namespace Dy
theorem bits_law {out : List Int} {k i t : Nat} (S r : Nat) (hl : out.length = i + k) (h : num 2 out = S + 2 ^ i * (t % 2 ^ k)) (hr : t / 2 ^ k = r) :
    num 2 (out ++ [((r % 2 : Nat) : Int)]) = S + 2 ^ i * (t % 2 ^ (k + 1)) := by
  rw [num_append, hl, h, Nat.mod_pow_succ, hr]
  simp only [num, Int.toNat_natCast, Nat.mul_zero, Nat.add_zero, Nat.mul_add, Nat.pow_add]
  rw [Nat.mul_assoc, Nat.add_assoc]

set_option maxHeartbeats 1600000 in
set_option maxRecDepth 100000 in
/-- headcountref01.Digits. -/
theorem Digits_any (w : World) (lo hi : Nat) (A : Option Addr) (n c : Nat) (xs : List Int) (hX : Ints w lo hi .u32 A n xs) (hdx : Dig 4294967296 xs) (hhi : hi ≤ w.heap.size) (hn : n ≤ 10000) (v : Nat) (hv : num 4294967296 xs = v) :
    Calls Tryd.prog 102 #[.slice A n c] w fun e w' => ∃ A' n' c', e = .returned (.slice A' n' c') ∧ n' ≤ c' ∧ n' ≤ 32 * n ∧ Below w.heap.size w w' ∧ Ints w' w.heap.size w'.heap.size .u8 A' n' (canon 2 v) := by
  have HL := Lib.hid hX.len
  have HV := Lib.hid hv
  clear hv
  obtain ⟨i0, hi0, hz0, hz1, hz2⟩ := info_parts Tryd.info5
  go_enter Tryd.func102, Tryd.ntmps102
  go_wp2
  go_loopw [3, 4] (fun o i wr => ∃ j : Nat, ∃ out : List Int, i = .int .i64 j ∧ j ≤ n ∧ wr.ownsRow w.heap.size 5 1 o (32 * j) (out.map (Value.int .u8)) ∧ Dig 2 out ∧ Hid (num 2 out = num 4294967296 (xs.take j)) ∧ Below w.heap.size w wr)
    (fun _ i _ => n - (intOf i).toNat)
  case atStart => exact ⟨0, [], rfl, by omega, ⟨rfl, .inl ⟨rfl, rfl⟩⟩, fun x hx => (by simp at hx), by simp [Hid, num], Below.refl _ _⟩
  case round =>
    obtain ⟨j, out, rfl, hj, hown, hdo, hnum, hnx⟩ := hrel
    by_cases hlt : j < n
    · obtain ⟨b, off, rfl, hcell⟩ := get (hX.below hnx hhi) (by omega)
      have g1 : wr.cell? ⟨b, off + j, none⟩ = some (.int .u32 (xs[j]?.getD 0)) := hcell j hlt
      clear hcell
      have hxm : 0 ≤ xs[j]?.getD 0 ∧ xs[j]?.getD 0 < 4294967296 := by
        rw [List.getElem?_eq_getElem (by rw [HL.out]; exact hlt)]
        exact hdx _ (List.getElem_mem _)
      obtain ⟨t, ht⟩ : ∃ t : Nat, xs[j]?.getD 0 = t := ⟨(xs[j]?.getD 0).toNat, by omega⟩
      have HT := Lib.hid ht
      rw [ht] at g1 hxm
      clear ht
      obtain ⟨S, hS⟩ : ∃ S, num 4294967296 (xs.take j) = S := ⟨_, rfl⟩
      rw [hS] at hnum
      have HSS := Lib.hid hS
      clear hS
      go_wp2
      go_loopw [3, 5, 6] (fun o nn kv wr => ∃ k r : Nat, ∃ out : List Int, kv = .int .i64 k ∧ nn = .int .u32 r ∧ Hid (t / 2 ^ k = r) ∧ r ≤ 4294967295 ∧ k ≤ 32 ∧ wr.ownsRow w.heap.size 5 1 o (32 * j + k) (out.map (Value.int .u8)) ∧ Dig 2 out ∧ Hid (num 2 out = S + 2 ^ (32 * j) * (t % 2 ^ k)) ∧ Below w.heap.size w wr)
        (fun _ _ kv _ => 32 - (intOf kv).toNat)
      case atStart => exact ⟨0, t, out, rfl, rfl, by simp [Hid], by omega, by omega, hown, hdo, by rw [Hid, hnum.out]; simp [Nat.mod_one], hnx⟩
      case round =>
        clear hown hdo hnum hnx g1
        obtain ⟨k, r, out, rfl, rfl, hr, hr2, hk, hown, hdo, hnum, hnx⟩ := hrel
        by_cases hkl : k < 32
        · have hol : out.length = 32 * j + k := by have := hown.1; simpa using this
          have hnum2 := Lib.hid (bits_law S r hol hnum.out hr.out)
          have hdo2 := dig_snoc hdo (r % 2) (by omega)
          have hr3 : Hid (t / 2 ^ (k + 1) = r / 2) := by rw [Hid, Nat.pow_succ, ← Nat.div_div_eq_div_mul, hr.out]
          clear hol hnum hr
          go_wp2_with (first
            | (at_builtin; refine wpList_append_raw _ rfl (.tmp 21) (.tmp 25) 85 rfl w.heap.size 5 i0 (.int .u8 0) 1 1 Tryd.underlying85 hi0 hz0 hz1 hz2 rfl (by decide) _ _ _ rfl (hown.alloc _) _ _ _ 1 1 [.int .u8 ((r : Int) % 2)] rfl (raw_one _ _ _ _) ?c1 ?c2 ?c3 ?c4 ?_))
          case c1 => first | rfl | (intro u hu; simp at hu; subst hu; rfl)
          case c2 => unfold maxLen; omega
          case c3 => omega
          case c4 => have := hnx.size; simp; omega
          intro A2 c2 w3 hown2 hgrow2 _
          have hnx2 : Below w.heap.size w w3 := (hnx.alloc hnx.size _).grown hgrow2 (by have := hnx.size; simp; omega) (fun q hq => (hown.lt q hq).1)
          have hs : (r : Int) % 2 = ((r % 2 : Nat) : Int) := by omega
          rw [hs] at hown2
          have hown3 : w3.ownsRow w.heap.size 5 1 (.slice A2 (32 * j + k + 1) c2) (32 * j + (k + 1)) ((out ++ [((r % 2 : Nat) : Int)]).map (Value.int .u8)) := by simpa [Nat.add_assoc] using hown2
          clear hs hown2 hgrow2 hown
          go_wp2
          go_roundw
          case rel => exact ⟨k + 1, r / 2, _, by go_num, by congr 1, hr3, by omega, by omega, hown3, hdo2, hnum2, hnx2⟩
          case measure => simp [intOf]; omega
        · obtain rfl : k = 32 := by omega
          have hfin : Hid (num 2 out = num 4294967296 (xs.take (j + 1))) := by
            rw [Hid, take_num, HT.out, HSS.out, hnum.out, Nat.mod_eq_of_lt (by omega), Nat.pow_mul]
            simp
          clear hnum
          go_wp2
          go_roundw
          case rel => exact ⟨j + 1, out, by go_num, by omega, by rw [show 32 * (j + 1) = 32 * j + 32 by omega]; exact hown, hdo, hfin, hnx⟩
          case measure => simp [intOf]; omega
    · obtain rfl : j = n := by omega
      obtain ⟨A2, c2, rfl, hc2, _⟩ := own_shape hown
      have hend : num 2 out = v := by rw [hnum.out, List.take_of_length_le (by rw [HL.out]; exact Nat.le_refl _), HV.out]
      have hwf : ∀ x ∈ out, IntKind.u8.min ≤ x ∧ x ≤ IntKind.u8.max := fun x hx => by
        have := hdo x hx
        simp only [IntKind.min, IntKind.max, IntKind.signed, IntKind.bits]
        omega
      have hI := Ints.of_own hown hwf (by omega)
      have HE := Lib.hid hend
      clear hown hnum hend
      go_wp2_with fail
      refine (Cut_any _ _ _ _ _ _ _ hI hdo hc2).mono ?_
      rintro e w4 ⟨⟨m4, rfl, hm4, hI4⟩, rfl⟩
      rw [HE.out] at hI4
      go_wp2_with fail
      go_ret
      exact ⟨A2, m4, c2, rfl, by omega, hm4, hnx, hI4⟩
end Dy
end Go.Proofs.YtlbkepiflhchdaaDoor
