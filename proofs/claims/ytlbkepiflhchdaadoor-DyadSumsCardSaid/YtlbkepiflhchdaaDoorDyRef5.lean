/- Bits with 0 ahead of them; the bits of limbs, by walks. -/
import Derived.Test.YtlbkepiflhchdaaDoorDyRef4
namespace Go.Proofs.YtlbkepiflhchdaaDoor
open Go.RowKit
namespace Dy
theorem canon_shift {B n : Nat} (hB : 2 ≤ B) (k : Nat) (h : n ≠ 0) : List.replicate k 0 ++ canon B n = canon B (B ^ k * n) := by
  obtain ⟨h1, h2, h3⟩ := canon_spec B n hB
  have hne : canon B n ≠ [] := fun e => h (canon_nil hB e)
  refine canon_of hB (fun x hx => ?_) (fun hn => ?_) (by rw [num_append, num_zeros, h3]; simp)
  · rcases List.mem_append.1 hx with h' | h'
    · rw [(List.mem_replicate.1 h').2]
      omega
    · exact h1 x h'
  · rw [List.getLast_append_of_ne_nil _ hne]
    exact h2 hne

set_option maxHeartbeats 800000 in
set_option maxRecDepth 100000 in
/-- headcountref01.Times2. -/
theorem Times2_any (w : World) (lo hi : Nat) (A : Option Addr) (n c : Nat) (v : Nat) (hX : Ints w lo hi .u8 A n (canon 2 v)) (hhi : hi ≤ w.heap.size) (hn : n ≤ 1000000) (k : Nat) (kk : Int) (hkk : kk = k) (hk : k ≤ 100000) :
    Calls Tryd.prog 101 #[.slice A n c, .int .i64 kk] w fun e w' => ∃ A' n' c', e = .returned (.slice A' n' c') ∧ n' ≤ c' ∧ n' ≤ n + k ∧ Below w.heap.size w w' ∧ Ints w' w.heap.size w'.heap.size .u8 A' n' (canon 2 (2 ^ k * v)) := by
  subst hkk
  obtain ⟨i0, hi0, hz0, hz1, hz2⟩ := info_parts Tryd.info5
  have HL := Lib.hid hX.len
  by_cases h0 : v = 0
  · subst h0
    have hn0 : n = 0 := by rw [← HL.out]; rfl
    subst hn0
    go_enter Tryd.func101, Tryd.ntmps101
    go_wp2
    go_ret
    exact ⟨none, 0, 0, rfl, Nat.le_refl _, by omega, Below.refl _ _, by rw [Nat.mul_zero]; exact Ints.nil_ ..⟩
  · have hn0 : 0 < n := by
      rw [← HL.out]
      exact List.length_pos_iff.2 fun e => h0 (canon_nil (by decide) e)
    have hC := Lib.hid (canon_shift (B := 2) (by decide) k h0)
    go_enter Tryd.func101, Tryd.ntmps101
    go_wp2_with (first
      | (at_make; refine wpList_make_full _ rfl _ _ 85 rfl w.heap.size 5 i0 (.int .u8 0) 1 Tryd.underlying85 hi0 hz0 hz1 .i64 .i64 k k k rfl rfl rfl rfl (by rw [hz2]; omega) (by unfold maxLen; omega) (Nat.le_refl _) ?_))
    intro w1 hown1 hgrow1
    have hz : (madeCells #[Value.int .u8 0] k).toList = (List.replicate k (0 : Int)).map (Value.int .u8) := by
      apply List.ext_getElem
      · simp [madeCells]
      · intro j h1 h2
        simp [madeCells, Nat.mod_one]
    rw [hz] at hown1
    have hb1 : Below w.heap.size w w1 := (Below.refl _ w).grown hgrow1 (Nat.le_refl _) (fun q hq => by cases hq)
    clear hz hgrow1
    go_wp2_with (first
      | (at_builtin; refine wpList_append_raw _ rfl (.tmp 9) (.tmp 10) 85 rfl w.heap.size 5 i0 (.int .u8 0) 1 1 Tryd.underlying85 hi0 hz0 hz1 hz2 rfl (by decide) _ _ _ rfl hown1 _ _ _ n _ _ rfl (hX.below hb1 hhi).raw ?c1 ?c2 ?c3 ?c4 ?_))
    case c1 => exact ints_oneCell _ _
    case c2 => unfold maxLen; omega
    case c3 => omega
    case c4 => exact hb1.size
    intro A2 c2 w2 hown2 hgrow2 _
    have hb2 : Below w.heap.size w w2 := hb1.grown hgrow2 hb1.size (fun q hq => (hown1.lt q hq).1)
    have hcz : List.replicate k (Value.int .u8 0) ++ (canon 2 v).map (Value.int .u8) = (canon 2 (2 ^ k * v)).map (Value.int .u8) := by rw [← hC.out]; simp
    rw [hcz] at hown2
    clear hcz
    have hc2 := own_cap hown2
    have hwf : ∀ x ∈ canon 2 (2 ^ k * v), IntKind.u8.min ≤ x ∧ x ≤ IntKind.u8.max := fun x hx => by
      have := (canon_spec 2 (2 ^ k * v) (by decide)).1 x hx
      simp only [IntKind.min, IntKind.max, IntKind.signed, IntKind.bits]
      omega
    have hI := Ints.of_own hown2 hwf (by omega)
    clear hown1 hown2 hgrow2 hb1
    go_wp2
    go_ret
    exact ⟨A2, k + n, c2, rfl, hc2, by omega, hb2, hI⟩
end Dy
end Go.Proofs.YtlbkepiflhchdaaDoor
