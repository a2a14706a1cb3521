/- What DyadNames reckons. -/
import Derived.Test.YtlbkepiflhchdaaDoorDyCmp
import Derived.Test.YtlbkepiflhchdaaDoorDyHalves
namespace Go.Proofs.YtlbkepiflhchdaaDoor
open Go.RowKit
namespace Dy
open Dp
/-- The greatest number. -/
def topM : Nat := capD - 1
def topD : Dn := ⟨false, topM, 0⟩
def lastD : Dn := ⟨true, 1, 1024⟩
theorem capD_pos : 0 < capD := Nat.pow_pos (by decide)
theorem capD_even : capD % 2 = 0 := by
  obtain ⟨e, he⟩ : ∃ e, capE = e + 1 := ⟨1279, rfl⟩
  have : capD = 2 * 2 ^ e := by rw [capD_eq, he, Nat.pow_succ, Nat.mul_comm]
  omega
theorem capD_four : 4 ≤ capD := by
  obtain ⟨e, he⟩ : ∃ e, capE = e + 2 := ⟨1278, rfl⟩
  have : capD = 2 ^ e * 4 := by rw [capD_eq, he, Nat.pow_add]
  have : 0 < 2 ^ e := Nat.pow_pos (by decide)
  omega
theorem top_may : topD.May := ⟨Nat.sub_lt capD_pos (by decide), by decide, fun h => by
  have h1 : capD - 1 = 0 := h
  have := capD_even
  have := capD_pos
  omega, fun h => by simp [topD] at h⟩
theorem last_may : lastD.May := may_small _ _ _ (by decide) (by decide) (by decide) (by decide)
theorem odd_strip (k m : Nat) (h : m % 2 = 1) (hk : 0 < k) : strip k m = (m, k) := by
  obtain ⟨k, rfl⟩ : ∃ j, k = j + 1 := ⟨k - 1, by omega⟩
  simp [strip, h]
theorem nm1 : halfD lastD = (Dn.zero, 10) := by
  have h : strip 1025 1 = (1, 1025) := odd_strip 1025 1 (by decide) (by decide)
  unfold halfD formed lastD
  simp only [h]
  simp
theorem nm2 : addD topD ⟨false, 1, 0⟩ = (Dn.zero, 10) := by
  have h1 := capD_pos
  have hp : plusS topD.neg (topD.m * 2 ^ (max topD.e 0 - topD.e)) false (1 * 2 ^ (max topD.e 0 - 0)) = (false, capD) := by
    simp [plusS, topD, topM]
    omega
  unfold addD
  rw [hp]
  simp only [formed]
  rw [if_neg (by omega), if_neg]
  show ¬ ((strip (max topD.e 0) capD).1 < capD ∧ _)
  simp [topD, strip]
theorem two_pow (K : Nat) (h : 0 < K) : 2 ≤ 2 ^ K := by
  have h1 : 2 ^ 1 ≤ 2 ^ K := Nat.pow_le_pow_right (by decide) h
  exact h1
theorem pow_even (M K : Nat) (h : 0 < K) : (M * 2 ^ K) % 2 = 0 := by
  obtain ⟨e, rfl⟩ : ∃ e, K = e + 1 := ⟨K - 1, by omega⟩
  rw [Nat.pow_succ, ← Nat.mul_assoc]
  omega
theorem nm3 : addD topD lastD = (Dn.zero, 10) := by
  have h1 := capD_pos
  have h2 : 1 < capD := capD_gt (k := 1) (by decide) (by decide)
  have h3 := two_pow 1024 (by decide)
  have hge : capD < topM * 2 ^ 1024 := by
    have h4 : topM * 2 ≤ topM * 2 ^ 1024 := Nat.mul_le_mul_left _ h3
    have h5 := capD_even
    have h6 := capD_four
    unfold topM at *
    omega
  have hp : plusS false (topM * 2 ^ 1024) true 1 = (false, topM * 2 ^ 1024 - 1) := by
    unfold plusS
    rw [if_neg (by decide), if_pos (by omega)]
  have hev := pow_even topM 1024 (by decide)
  have hst : strip 1024 (topM * 2 ^ 1024 - 1) = (topM * 2 ^ 1024 - 1, 1024) := odd_strip _ _ (by omega) (by decide)
  have hd : addD topD lastD = formed false (topM * 2 ^ 1024 - 1) 1024 := by
    unfold addD
    have e1 : max topD.e lastD.e = 1024 := rfl
    have e2 : topD.neg = false := rfl
    have e3 : lastD.neg = true := rfl
    have e4 : topD.m = topM := rfl
    have e5 : lastD.m * 2 ^ (max topD.e lastD.e - lastD.e) = 1 := rfl
    rw [e5, e1, e2, e3, e4, show topD.e = 0 from rfl, Nat.sub_zero, hp]
  rw [hd]
  unfold formed
  rw [hst, if_neg (by omega), if_neg (by simp only; omega)]
theorem nm4 : subD topD topD = (Dn.zero, 0) := sub_of zero_may (K := 0) (Nat.le_refl _) (Nat.le_refl _) (Nat.le_refl _) (by rw [vl_zero]; omega)
theorem nm5 : cmpD topD lastD = 1 := by
  have h := cmp_spec topD lastD (K := 1024) (by decide) (by decide)
  have h1 : 0 ≤ vl topD 1024 := by
    show (0 : Int) ≤ ((_ : Nat) : Int)
    exact Int.natCast_nonneg _
  have h2 : vl lastD 1024 = -1 := by decide
  omega
theorem nm6 : cmpD lastD Dn.zero = -1 := by
  have h := cmp_spec lastD Dn.zero (K := 1024) (by decide) (by decide)
  have h2 : vl lastD 1024 = -1 := by decide
  rw [vl_zero] at h
  omega
def zero40 : List Int := List.replicate 40 0
/-- i limbs laid. -/
def fillL (i : Nat) : List Int := List.replicate i 4294967295 ++ List.replicate (40 - i) 0
theorem make40 : ∀ W : World, (Instr.makeSlice 22 (.int .i64 40) (.int .i64 40)).run Tryd.prog W = .ok (.slice (some ⟨W.heap.size, 0, none⟩) 40 40) (W.alloc (.cells (rowU zero40) 52)) := fun W => make_u32 40 (by decide) W
theorem fill_len {i : Nat} (h : i ≤ 40) : (fillL i).length = 40 := by simp [fillL]; omega
theorem fill_cell {w : World} {g i : Nat} {t : TypeId} (hg : w.heap[g]? = some (.cells (rowU (fillL i)) t (0, 0))) (hi : i < 40) : w.cell? ⟨g, i, none⟩ = some (.int .u32 0) := by
  rw [cell_of_row w g i _ _ _ hg, rowU_get _ (by rw [fill_len (by omega)]; exact hi)]
  have : (fillL i)[i]?.getD 0 = 0 := by
    simp [fillL, List.getElem?_append_right, List.getElem?_replicate]
    split <;> rfl
  rw [this]
theorem fill_set {i : Nat} {t : TypeId} (hi : i < 40) : some (Obj.cells ((rowU (fillL i)).setIfInBounds i (.int .u32 4294967295)) t (0, 0)) = some (Obj.cells (rowU (fillL (i + 1))) t (0, 0)) := by
  rw [rowU_set]
  congr 3
  unfold fillL
  obtain ⟨k, hk⟩ : ∃ k, 40 - i = k + 1 := ⟨39 - i, by omega⟩
  have hk2 : 40 - (i + 1) = k := by omega
  rw [hk, hk2, List.set_append_right _ _ (by simp), List.replicate_succ, List.replicate_succ']
  simp
theorem num_fill : num 4294967296 (List.replicate 40 4294967295) = topM := by
  have h : ∀ n, num 4294967296 (List.replicate n 4294967295) + 1 = 4294967296 ^ n := by
    intro n
    induction n with
    | zero => rfl
    | succ n ih =>
      rw [List.replicate_succ, num, Nat.pow_succ, ← ih]
      omega
  have := h 40
  have h2 := capD_40
  unfold topM
  omega
theorem fill_canon : fillL 40 = canon 4294967296 topM := by
  have e : fillL 40 = List.replicate 40 4294967295 := by simp [fillL]
  rw [e]
  refine canon_of (by decide) (fun x hx => ?_) (fun _ => ?_) num_fill
  · rw [List.eq_of_mem_replicate hx]
    decide
  · simp
theorem fill_ints {w : World} {g : Nat} {t : TypeId} (hg : w.heap[g]? = some (.cells (rowU (fillL 40)) t (0, 0))) (hl : g < w.heap.size) : Ints w 0 w.heap.size .u32 (some ⟨g, 0, none⟩) 40 (canon 4294967296 topD.m) := by
  have hc : canon 4294967296 topD.m = fillL 40 := fill_canon.symm
  have hd : Dig 4294967296 (fillL 40) := by rw [fill_canon]; exact (canon_spec _ _ (by decide)).1
  rw [hc]
  refine ⟨fill_len (by decide), fun x hx => ?_, by decide, fun _ => ⟨g, 0, rfl, Nat.zero_le _, hl, fun j hj => ⟨?_, frozen_of_row w g _ _ _ hg⟩⟩⟩
  · have h1 := hd x hx
    have h2 : 0 ≤ x ∧ x ≤ 4294967295 := by omega
    simpa [IntKind.min, IntKind.max, IntKind.signed, IntKind.bits] using h2
  · rw [Nat.zero_add, cell_of_row w g j _ _ _ hg]
    exact rowU_get _ (by rw [fill_len (by decide)]; exact hj)
theorem only_below {g : Nat} {w w' : World} (h : OnlyAt g w w') : Below (min g w.heap.size) w w' := ⟨h.os, h.tape, h.output, h.size, fun k hk => h.block k (by omega) (by omega)⟩
theorem one_may : Dn.May ⟨false, 1, 0⟩ := may_small _ _ _ (by decide) (by decide) (by decide) (by decide)
theorem bad1 : ¬ MayD false [2] 1 := fun h => absurd (h.2.2.2.2 (by decide) (by decide)) (by decide)
theorem bad2 : ¬ MayD true [] 0 := fun h => absurd (h.2.2.2.1 rfl).2 (by decide)
theorem bad3 : ¬ MayD false [] 1 := fun h => absurd (h.2.2.2.1 rfl).1 (by decide)
theorem bad4 : ¬ MayD false [1] 1025 := fun h => absurd h.2.2.1 (by decide)
theorem bad5 : ¬ MayD false [0] 0 := fun h => absurd h.1.2 (by simp [Cutd])
theorem bad6 : ¬ MayD false [1] (-1) := fun h => absurd h.2.1 (by decide)
theorem good1 : MayD false [2] 0 := by
  have h := dn_may (may_small false 2 0 (by decide) (by decide) (by decide) (by decide))
  have e : canon 4294967296 2 = [2] := canon_one 2 (by decide) (by decide)
  simpa [e] using h
theorem least_canon : canon 4294967296 9223372036854775808 = [0, 2147483648] := by
  refine (canon_of (by decide) (fun x hx => ?_) (fun _ => ?_) ?_).symm
  · rcases List.mem_cons.1 hx with rfl | hx
    · decide
    · rw [List.mem_singleton.1 hx]
      decide
  · simp
  · decide
theorem good2 : MayD true [0, 2147483648] 0 := by
  refine ⟨⟨by decide, ?_⟩, by decide, by decide, fun h => (by cases h), fun _ h => absurd h (by decide)⟩
  intro _
  simp
end Dy
end Go.Proofs.YtlbkepiflhchdaaDoor
