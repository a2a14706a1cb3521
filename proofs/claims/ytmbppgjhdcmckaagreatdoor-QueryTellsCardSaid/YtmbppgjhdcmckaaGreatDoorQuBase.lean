/- What is told: its value, boxes and numbers. No function in sight (printed by a program of mine). -/
import Derived.Test.YtmbppgjhdcmckaaGreatDoorPsRl
import Derived.Test.YtmbppgjhdcmckaaGreatDoorQuRootZg
import Derived.Test.YtmbppgjhdcmckaaGreatDoorStNw
namespace Go.Proofs.YtmbppgjhdcmckaaGreatDoor
open Go.RowKit
namespace Ma
open Dp Dy
def ZDv : Dv := ⟨false, none, 0, 0, 0, []⟩
def cells3D (x : Dv) : List Value := [.bool x.s, .slice x.A x.n x.c, .int .i64 x.e]
def cells6D (x y : Dv) : List Value := [.bool x.s, .slice x.A x.n x.c, .int .i64 x.e, .bool y.s, .slice y.A y.n y.c, .int .i64 y.e]
theorem cells3D_one (x : Dv) : ∀ u ∈ cells3D x, u.oneCell' = true := by
  intro u hu
  simp only [cells3D, List.mem_cons, List.not_mem_nil, or_false] at hu
  rcases hu with rfl | rfl | rfl <;> rfl
theorem cells6D_one (x y : Dv) : ∀ u ∈ cells6D x y, u.oneCell' = true := by
  intro u hu
  simp only [cells6D, List.mem_cons, List.not_mem_nil, or_false] at hu
  rcases hu with rfl | rfl | rfl | rfl | rfl | rfl <;> rfl
/-- A told one in a block. -/
def TBox (w : World) (g : Nat) (x y : Dv) : Prop := w.heap[g]? = some (.cells #[.bool x.s, .slice x.A x.n x.c, .int .i64 x.e, .bool y.s, .slice y.A y.n y.c, .int .i64 y.e] 32 (0, 0))
/-- A dyad in a block. -/
def QBox (w : World) (g : Nat) (x : Dv) : Prop := w.heap[g]? = some (.cells #[.bool x.s, .slice x.A x.n x.c, .int .i64 x.e] 24 (0, 0))
theorem TBox.cell {w : World} {g : Nat} {x y : Dv} (h : TBox w g x y) : w.cell? ⟨g, 0, none⟩ = some (.bool x.s) ∧ w.cell? ⟨g, 0 + 1, none⟩ = some (.slice x.A x.n x.c) ∧ w.cell? ⟨g, 0 + 2, none⟩ = some (.int .i64 x.e) ∧ w.cell? ⟨g, 3, none⟩ = some (.bool y.s) ∧ w.cell? ⟨g, 3 + 1, none⟩ = some (.slice y.A y.n y.c) ∧ w.cell? ⟨g, 3 + 2, none⟩ = some (.int .i64 y.e) :=
  ⟨cell_of_row w g 0 _ _ _ h, cell_of_row w g 1 _ _ _ h, cell_of_row w g 2 _ _ _ h, cell_of_row w g 3 _ _ _ h, cell_of_row w g 4 _ _ _ h, cell_of_row w g 5 _ _ _ h⟩
theorem TBox.range {w : World} {g : Nat} {x y : Dv} (h : TBox w g x y) : w.rangeAt g 0 (cells6D x y) := fun j v hj => by
  obtain ⟨k0, k1, k2, k3, k4, k5⟩ := TBox.cell h
  have hl : j < 6 := by
    rcases Nat.lt_or_ge j 6 with h' | h'
    · exact h'
    · rw [List.getElem?_eq_none (by simpa [cells3D, cells6D] using h')] at hj
      cases hj
  have hc : j = 0 ∨ j = 1 ∨ j = 2 ∨ j = 3 ∨ j = 4 ∨ j = 5 := by omega
  rcases hc with rfl | rfl | rfl | rfl | rfl | rfl <;> (simp [cells3D, cells6D] at hj; subst hj; assumption)
theorem TBox.low {w : World} {g : Nat} {x y : Dv} (h : TBox w g x y) : w.rangeAt g 0 (cells3D x) := fun j v hj => by
  obtain ⟨k0, k1, k2, k3, k4, k5⟩ := TBox.cell h
  have hl : j < 3 := by
    rcases Nat.lt_or_ge j 3 with h' | h'
    · exact h'
    · rw [List.getElem?_eq_none (by simpa [cells3D, cells6D] using h')] at hj
      cases hj
  have hc : j = 0 ∨ j = 1 ∨ j = 2 := by omega
  rcases hc with rfl | rfl | rfl <;> (simp [cells3D, cells6D] at hj; subst hj; assumption)
theorem TBox.high {w : World} {g : Nat} {x y : Dv} (h : TBox w g x y) : w.rangeAt g 3 (cells3D y) := fun j v hj => by
  obtain ⟨k0, k1, k2, k3, k4, k5⟩ := TBox.cell h
  have hl : j < 3 := by
    rcases Nat.lt_or_ge j 3 with h' | h'
    · exact h'
    · rw [List.getElem?_eq_none (by simpa [cells3D, cells6D] using h')] at hj
      cases hj
  have hc : j = 0 ∨ j = 1 ∨ j = 2 := by omega
  rcases hc with rfl | rfl | rfl <;> (simp [cells3D, cells6D] at hj; subst hj; assumption)
theorem TBox.there {w : World} {g : Nat} {x y : Dv} (h : TBox w g x y) : w.there g 0 6 := fun j hj =>
  ⟨by rw [h.range j _ (List.getElem?_eq_getElem (by simpa [cells6D] using hj))]; rfl, frozen_of_row w g _ _ _ h⟩
theorem TBox.thereL {w : World} {g : Nat} {x y : Dv} (h : TBox w g x y) : w.there g 0 3 := fun j hj => h.there j (by omega)
theorem TBox.thereH {w : World} {g : Nat} {x y : Dv} (h : TBox w g x y) : w.there g 3 3 := fun j hj =>
  ⟨by rw [h.high j _ (List.getElem?_eq_getElem (by simpa [cells3D] using hj))]; rfl, frozen_of_row w g _ _ _ h⟩
theorem QBox.range {w : World} {g : Nat} {x : Dv} (h : QBox w g x) : w.rangeAt g 0 (cells3D x) := fun j v hj => by
  rw [Nat.zero_add, cell_of_row w g j _ _ _ h]
  simpa [cells3D] using hj
theorem QBox.there {w : World} {g : Nat} {x : Dv} (h : QBox w g x) : w.there g 0 3 := fun j hj =>
  ⟨by rw [h.range j _ (List.getElem?_eq_getElem (by simpa [cells3D] using hj))]; rfl, frozen_of_row w g _ _ _ h⟩
theorem told_into {w : World} {g : Nat} {x y : Dv} (h : TBox w g x y) (x' y' : Dv) : ∃ U, w.setCells g 0 (cells6D x' y') = U ∧ TBox U g x' y' ∧ (∀ w0 B, Below B w0 w → B ≤ g → Below B w0 U) ∧ (∀ j, j ≠ g → U.heap[j]? = w.heap[j]?) ∧ U.heap.size ≤ w.heap.size ∧ w.heap.size ≤ U.heap.size := by
  refine ⟨_, rfl, ?_, fun w0 B hb hg => ?_, fun j hj => ?_, ?_, ?_⟩
  · unfold TBox at h ⊢
    simp [cells3D, cells6D, World.setCells, World.setCell, Array.getElem?_modify, h]
  · simp only [cells3D, cells6D, World.setCells]
    repeat (refine Below.setCell ?_ hg _)
    exact hb
  · have hj' : ¬ g = j := fun e => hj e.symm
    simp [cells3D, cells6D, World.setCells, World.setCell, Array.getElem?_modify, hj']
  · simp [cells3D, cells6D, World.setCells, World.setCell]
  · simp [cells3D, cells6D, World.setCells, World.setCell]
theorem low_into {w : World} {g : Nat} {x y : Dv} (h : TBox w g x y) (x' : Dv) : ∃ U, w.setCells g 0 (cells3D x') = U ∧ TBox U g x' y ∧ (∀ w0 B, Below B w0 w → B ≤ g → Below B w0 U) ∧ (∀ j, j ≠ g → U.heap[j]? = w.heap[j]?) ∧ U.heap.size ≤ w.heap.size ∧ w.heap.size ≤ U.heap.size := by
  refine ⟨_, rfl, ?_, fun w0 B hb hg => ?_, fun j hj => ?_, ?_, ?_⟩
  · unfold TBox at h ⊢
    simp [cells3D, cells6D, World.setCells, World.setCell, Array.getElem?_modify, h]
  · simp only [cells3D, cells6D, World.setCells]
    repeat (refine Below.setCell ?_ hg _)
    exact hb
  · have hj' : ¬ g = j := fun e => hj e.symm
    simp [cells3D, cells6D, World.setCells, World.setCell, Array.getElem?_modify, hj']
  · simp [cells3D, cells6D, World.setCells, World.setCell]
  · simp [cells3D, cells6D, World.setCells, World.setCell]
theorem high_into {w : World} {g : Nat} {x y : Dv} (h : TBox w g x y) (y' : Dv) : ∃ U, w.setCells g 3 (cells3D y') = U ∧ TBox U g x y' ∧ (∀ w0 B, Below B w0 w → B ≤ g → Below B w0 U) ∧ (∀ j, j ≠ g → U.heap[j]? = w.heap[j]?) ∧ U.heap.size ≤ w.heap.size ∧ w.heap.size ≤ U.heap.size := by
  refine ⟨_, rfl, ?_, fun w0 B hb hg => ?_, fun j hj => ?_, ?_, ?_⟩
  · unfold TBox at h ⊢
    simp [cells3D, cells6D, World.setCells, World.setCell, Array.getElem?_modify, h]
  · simp only [cells3D, cells6D, World.setCells]
    repeat (refine Below.setCell ?_ hg _)
    exact hb
  · have hj' : ¬ g = j := fun e => hj e.symm
    simp [cells3D, cells6D, World.setCells, World.setCell, Array.getElem?_modify, hj']
  · simp [cells3D, cells6D, World.setCells, World.setCell]
  · simp [cells3D, cells6D, World.setCells, World.setCell]
theorem alloc_t (w : World) (x y : Dv) : ∃ U, w.alloc (.cells #[.bool x.s, .slice x.A x.n x.c, .int .i64 x.e, .bool y.s, .slice y.A y.n y.c, .int .i64 y.e] 32) = U ∧ TBox U w.heap.size x y ∧ Below w.heap.size w U ∧ w.heap.size < U.heap.size :=
  ⟨_, rfl, heap_alloc_last _ _, (Below.refl _ w).alloc (Nat.le_refl _) _, by simp⟩
theorem alloc_zt (w : World) : ∃ U, w.alloc (.cells #[.bool false, .slice none 0 0, .int .i64 0, .bool false, .slice none 0 0, .int .i64 0] 32) = U ∧ TBox U w.heap.size ZDv ZDv ∧ Below w.heap.size w U ∧ w.heap.size < U.heap.size :=
  ⟨_, rfl, heap_alloc_last _ _, (Below.refl _ w).alloc (Nat.le_refl _) _, by simp⟩
theorem alloc_q (w : World) (x : Dv) : ∃ U, w.alloc (.cells #[.bool x.s, .slice x.A x.n x.c, .int .i64 x.e] 24) = U ∧ QBox U w.heap.size x ∧ Below w.heap.size w U ∧ w.heap.size < U.heap.size :=
  ⟨_, rfl, heap_alloc_last _ _, (Below.refl _ w).alloc (Nat.le_refl _) _, by simp⟩
/-- A dyad's row, told in numbers. -/
def DRow (w : World) (lo hi : Nat) (x : Dv) : Prop := Ints w lo hi .u32 x.A x.n x.xs
/-- What is told: two numbers, and an error. -/
def ToldR (w : World) (lo hi : Dn) (code : Int) (e : Ending) (w' : World) : Prop :=
  ∃ (x y : Dv) (B : Nat), e = .returned (.tuple #[.agg #[.bool x.s, .slice x.A x.n x.c, .int .i64 x.e, .bool y.s, .slice y.A y.n y.c, .int .i64 y.e], .int .i64 code]) ∧ Is lo x ∧ Is hi y ∧ Below w.heap.size w w' ∧ w.heap.size ≤ B ∧ B ≤ w'.heap.size ∧ DRow w' w.heap.size B x ∧ DRow w' B w'.heap.size y
theorem isZ : Is Dn.zero ZDv := Is.zero
theorem rowZ (w : World) (lo hi : Nat) : DRow w lo hi ZDv := Ints.nil_ ..
/-- Is a dyad above 0? -/
def aboveV (d : Dv) : Bool := !d.s && decide (0 < d.n)
end Ma
end Go.Proofs.YtmbppgjhdcmckaaGreatDoor
