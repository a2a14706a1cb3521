/- A part's value, its cells and rows. No function in sight (printed by a program of mine). -/
import Derived.Test.YtmbppgjhdcmckaaGreatDoorQuRootZg
namespace Go.Proofs.YtmbppgjhdcmckaaGreatDoor
open Go.RowKit
namespace Ma
open Dp Dy
/-- A part's value, and what its rows hold. -/
structure Pv where
  M : Mv
  h : Bool
  mn : Int
  mx : Int
  A : Option Addr
  n : Nat
  c : Nat
  xs : List Int
structure PRows (w : World) (lo hi : Nat) (p : Pv) : Prop where
  M : MRows w lo hi p.M
  L : Ints w lo hi .u32 p.A p.n p.xs
theorem PRows.below {w w' : World} {lo hi B : Nat} {p : Pv} (h : PRows w lo hi p) (hb : Below B w w') (hB : hi ≤ B) : PRows w' lo hi p := ⟨h.M.below hb hB, h.L.below hb hB⟩
theorem PRows.more {w : World} {lo hi lo' hi' : Nat} {p : Pv} (h : PRows w lo hi p) (hl : lo' ≤ lo) (hh : hi ≤ hi') : PRows w lo' hi' p := ⟨h.M.more hl hh, h.L.more hl hh⟩
theorem PRows.on {w w' : World} {p : Pv} (h : PRows w 0 w.heap.size p) (hb : Below w.heap.size w w') : PRows w' 0 w'.heap.size p := (h.below hb (Nat.le_refl _)).more (Nat.le_refl _) hb.size
theorem PRows.rng {w w' : World} {lo hi : Nat} {p : Pv} (h : PRows w lo hi p) (hk : ∀ b, lo ≤ b → b < hi → w'.heap[b]? = w.heap[b]?) : PRows w' lo hi p := ⟨rows_rng h.M hk, intsR h.L hk⟩
/-- A part in a block. -/
def PBox (w : World) (g : Nat) (p : Pv) : Prop := w.heap[g]? = some (.cells #[.bool p.M.S.s, .slice p.M.S.A p.M.S.n p.M.S.c, .int .i64 p.M.S.e, .bool p.M.W.s, .slice p.M.W.A p.M.W.n p.M.W.c, .int .i64 p.M.W.e, .bool p.M.C.s, .slice p.M.C.A p.M.C.n p.M.C.c, .int .i64 p.M.C.e, .bool p.M.A.s, .slice p.M.A.A p.M.A.n p.M.A.c, .int .i64 p.M.A.e, .bool p.h, .int .i64 p.mn, .int .i64 p.mx, .slice p.A p.n p.c] 30 (0, 0))
/-- Its cells. -/
def PCells (w : World) (b o : Nat) (p : Pv) : Prop := w.cell? ⟨b, o, none⟩ = some (.bool p.M.S.s) ∧ w.cell? ⟨b, o + 1, none⟩ = some (.slice p.M.S.A p.M.S.n p.M.S.c) ∧ w.cell? ⟨b, o + 2, none⟩ = some (.int .i64 p.M.S.e) ∧ w.cell? ⟨b, o + 3, none⟩ = some (.bool p.M.W.s) ∧ w.cell? ⟨b, o + 4, none⟩ = some (.slice p.M.W.A p.M.W.n p.M.W.c) ∧ w.cell? ⟨b, o + 5, none⟩ = some (.int .i64 p.M.W.e) ∧ w.cell? ⟨b, o + 6, none⟩ = some (.bool p.M.C.s) ∧ w.cell? ⟨b, o + 7, none⟩ = some (.slice p.M.C.A p.M.C.n p.M.C.c) ∧ w.cell? ⟨b, o + 8, none⟩ = some (.int .i64 p.M.C.e) ∧ w.cell? ⟨b, o + 9, none⟩ = some (.bool p.M.A.s) ∧ w.cell? ⟨b, o + 10, none⟩ = some (.slice p.M.A.A p.M.A.n p.M.A.c) ∧ w.cell? ⟨b, o + 11, none⟩ = some (.int .i64 p.M.A.e) ∧ w.cell? ⟨b, o + 12, none⟩ = some (.bool p.h) ∧ w.cell? ⟨b, o + 13, none⟩ = some (.int .i64 p.mn) ∧ w.cell? ⟨b, o + 14, none⟩ = some (.int .i64 p.mx) ∧ w.cell? ⟨b, o + 15, none⟩ = some (.slice p.A p.n p.c)
theorem PCells.blk {w w' : World} {b o : Nat} {p : Pv} (h : PCells w b o p) (hk : w'.heap[b]? = w.heap[b]?) : PCells w' b o p := by
  obtain ⟨k0, k1, k2, k3, k4, k5, k6, k7, k8, k9, k10, k11, k12, k13, k14, k15⟩ := h
  exact ⟨by rw [World.cell?_of_block hk]; exact k0, by rw [World.cell?_of_block hk]; exact k1, by rw [World.cell?_of_block hk]; exact k2, by rw [World.cell?_of_block hk]; exact k3, by rw [World.cell?_of_block hk]; exact k4, by rw [World.cell?_of_block hk]; exact k5, by rw [World.cell?_of_block hk]; exact k6, by rw [World.cell?_of_block hk]; exact k7, by rw [World.cell?_of_block hk]; exact k8, by rw [World.cell?_of_block hk]; exact k9, by rw [World.cell?_of_block hk]; exact k10, by rw [World.cell?_of_block hk]; exact k11, by rw [World.cell?_of_block hk]; exact k12, by rw [World.cell?_of_block hk]; exact k13, by rw [World.cell?_of_block hk]; exact k14, by rw [World.cell?_of_block hk]; exact k15⟩
theorem PBox.cells {w : World} {g : Nat} {p : Pv} (h : PBox w g p) : PCells w g 0 p ∧ ∀ k, w.frozen? ⟨g, k, none⟩ = false := by
  have hf : ∀ k, w.frozen? ⟨g, k, none⟩ = false := fun k => frozen_of_row w g k _ _ h
  have hc : ∀ k v, (#[.bool p.M.S.s, .slice p.M.S.A p.M.S.n p.M.S.c, .int .i64 p.M.S.e, .bool p.M.W.s, .slice p.M.W.A p.M.W.n p.M.W.c, .int .i64 p.M.W.e, .bool p.M.C.s, .slice p.M.C.A p.M.C.n p.M.C.c, .int .i64 p.M.C.e, .bool p.M.A.s, .slice p.M.A.A p.M.A.n p.M.A.c, .int .i64 p.M.A.e, .bool p.h, .int .i64 p.mn, .int .i64 p.mx, .slice p.A p.n p.c] : Array Value)[k]? = some v → w.cell? ⟨g, k, none⟩ = some v := fun k v hk => by
    unfold PBox at h
    simp [World.cell?, h]
    simpa using hk
  exact ⟨⟨hc 0 _ rfl, hc 1 _ rfl, hc 2 _ rfl, hc 3 _ rfl, hc 4 _ rfl, hc 5 _ rfl, hc 6 _ rfl, hc 7 _ rfl, hc 8 _ rfl, hc 9 _ rfl, hc 10 _ rfl, hc 11 _ rfl, hc 12 _ rfl, hc 13 _ rfl, hc 14 _ rfl, hc 15 _ rfl⟩, hf⟩
/-- The same, its offsets as numbers. -/
theorem PBox.cell {w : World} {g : Nat} {p : Pv} (h : PBox w g p) : (w.cell? ⟨g, 0, none⟩ = some (.bool p.M.S.s) ∧ w.cell? ⟨g, 1, none⟩ = some (.slice p.M.S.A p.M.S.n p.M.S.c) ∧ w.cell? ⟨g, 2, none⟩ = some (.int .i64 p.M.S.e) ∧ w.cell? ⟨g, 3, none⟩ = some (.bool p.M.W.s) ∧ w.cell? ⟨g, 4, none⟩ = some (.slice p.M.W.A p.M.W.n p.M.W.c) ∧ w.cell? ⟨g, 5, none⟩ = some (.int .i64 p.M.W.e) ∧ w.cell? ⟨g, 6, none⟩ = some (.bool p.M.C.s) ∧ w.cell? ⟨g, 7, none⟩ = some (.slice p.M.C.A p.M.C.n p.M.C.c) ∧ w.cell? ⟨g, 8, none⟩ = some (.int .i64 p.M.C.e) ∧ w.cell? ⟨g, 9, none⟩ = some (.bool p.M.A.s) ∧ w.cell? ⟨g, 10, none⟩ = some (.slice p.M.A.A p.M.A.n p.M.A.c) ∧ w.cell? ⟨g, 11, none⟩ = some (.int .i64 p.M.A.e) ∧ w.cell? ⟨g, 12, none⟩ = some (.bool p.h) ∧ w.cell? ⟨g, 13, none⟩ = some (.int .i64 p.mn) ∧ w.cell? ⟨g, 14, none⟩ = some (.int .i64 p.mx) ∧ w.cell? ⟨g, 15, none⟩ = some (.slice p.A p.n p.c)) ∧ ∀ k, w.frozen? ⟨g, k, none⟩ = false := by
  have hf : ∀ k, w.frozen? ⟨g, k, none⟩ = false := fun k => frozen_of_row w g k _ _ h
  have hc : ∀ k v, (#[.bool p.M.S.s, .slice p.M.S.A p.M.S.n p.M.S.c, .int .i64 p.M.S.e, .bool p.M.W.s, .slice p.M.W.A p.M.W.n p.M.W.c, .int .i64 p.M.W.e, .bool p.M.C.s, .slice p.M.C.A p.M.C.n p.M.C.c, .int .i64 p.M.C.e, .bool p.M.A.s, .slice p.M.A.A p.M.A.n p.M.A.c, .int .i64 p.M.A.e, .bool p.h, .int .i64 p.mn, .int .i64 p.mx, .slice p.A p.n p.c] : Array Value)[k]? = some v → w.cell? ⟨g, k, none⟩ = some v := fun k v hk => by
    unfold PBox at h
    simp [World.cell?, h]
    simpa using hk
  exact ⟨⟨hc 0 _ rfl, hc 1 _ rfl, hc 2 _ rfl, hc 3 _ rfl, hc 4 _ rfl, hc 5 _ rfl, hc 6 _ rfl, hc 7 _ rfl, hc 8 _ rfl, hc 9 _ rfl, hc 10 _ rfl, hc 11 _ rfl, hc 12 _ rfl, hc 13 _ rfl, hc 14 _ rfl, hc 15 _ rfl⟩, hf⟩
theorem alloc_p (w : World) (p : Pv) : ∃ U, w.alloc (.cells #[.bool p.M.S.s, .slice p.M.S.A p.M.S.n p.M.S.c, .int .i64 p.M.S.e, .bool p.M.W.s, .slice p.M.W.A p.M.W.n p.M.W.c, .int .i64 p.M.W.e, .bool p.M.C.s, .slice p.M.C.A p.M.C.n p.M.C.c, .int .i64 p.M.C.e, .bool p.M.A.s, .slice p.M.A.A p.M.A.n p.M.A.c, .int .i64 p.M.A.e, .bool p.h, .int .i64 p.mn, .int .i64 p.mx, .slice p.A p.n p.c] 30) = U ∧ PBox U w.heap.size p ∧ Below w.heap.size w U ∧ w.heap.size < U.heap.size :=
  ⟨_, rfl, heap_alloc_last _ _, (Below.refl _ w).alloc (Nat.le_refl _) _, by simp⟩
def ZPv : Pv := ⟨ZM, false, 0, 0, none, 0, 0, []⟩
theorem alloc_zp (w : World) : ∃ U, w.alloc (.cells #[.bool false, .slice none 0 0, .int .i64 0, .bool false, .slice none 0 0, .int .i64 0, .bool false, .slice none 0 0, .int .i64 0, .bool false, .slice none 0 0, .int .i64 0, .bool false, .int .i64 0, .int .i64 0, .slice none 0 0] 30) = U ∧ PBox U w.heap.size ZPv ∧ Below w.heap.size w U ∧ w.heap.size < U.heap.size :=
  ⟨_, rfl, heap_alloc_last _ _, (Below.refl _ w).alloc (Nat.le_refl _) _, by simp⟩
/-- A whole part is laid. -/
theorem part_to {w : World} {g : Nat} {p0 : Pv} (h : PBox w g p0) (p : Pv) : ∃ U, ((((((((((((((((w.setCell ⟨g, 0, none⟩ (.bool p.M.S.s)).setCell ⟨g, 1, none⟩ (.slice p.M.S.A p.M.S.n p.M.S.c)).setCell ⟨g, 2, none⟩ (.int .i64 p.M.S.e)).setCell ⟨g, 3, none⟩ (.bool p.M.W.s)).setCell ⟨g, 4, none⟩ (.slice p.M.W.A p.M.W.n p.M.W.c)).setCell ⟨g, 5, none⟩ (.int .i64 p.M.W.e)).setCell ⟨g, 6, none⟩ (.bool p.M.C.s)).setCell ⟨g, 7, none⟩ (.slice p.M.C.A p.M.C.n p.M.C.c)).setCell ⟨g, 8, none⟩ (.int .i64 p.M.C.e)).setCell ⟨g, 9, none⟩ (.bool p.M.A.s)).setCell ⟨g, 10, none⟩ (.slice p.M.A.A p.M.A.n p.M.A.c)).setCell ⟨g, 11, none⟩ (.int .i64 p.M.A.e)).setCell ⟨g, 12, none⟩ (.bool p.h)).setCell ⟨g, 13, none⟩ (.int .i64 p.mn)).setCell ⟨g, 14, none⟩ (.int .i64 p.mx)).setCell ⟨g, 15, none⟩ (.slice p.A p.n p.c)) = U ∧ PBox U g p ∧ (∀ w0 B, Below B w0 w → B ≤ g → Below B w0 U) ∧ (∀ j, j ≠ g → U.heap[j]? = w.heap[j]?) ∧ U.heap.size ≤ w.heap.size ∧ w.heap.size ≤ U.heap.size := by
  refine ⟨_, rfl, ?_, fun w0 B hb hg => ?_, fun j hj => ?_, ?_, ?_⟩
  · unfold PBox at h ⊢
    simp [World.setCell, Array.getElem?_modify, h]
  · repeat (refine Below.setCell ?_ hg _)
    exact hb
  · have hj' : ¬ g = j := fun e => hj e.symm
    simp [World.setCell, Array.getElem?_modify, hj']
  · simp [World.setCell]
  · simp [World.setCell]
/-- Its mass, or its tags, are laid. -/
theorem part_mass {w : World} {g : Nat} {p : Pv} (h : PBox w g p) (m : Mv) : ∃ U, ((((((((((((w.setCell ⟨g, 0, none⟩ (.bool m.S.s)).setCell ⟨g, 1, none⟩ (.slice m.S.A m.S.n m.S.c)).setCell ⟨g, 2, none⟩ (.int .i64 m.S.e)).setCell ⟨g, 3, none⟩ (.bool m.W.s)).setCell ⟨g, 4, none⟩ (.slice m.W.A m.W.n m.W.c)).setCell ⟨g, 5, none⟩ (.int .i64 m.W.e)).setCell ⟨g, 6, none⟩ (.bool m.C.s)).setCell ⟨g, 7, none⟩ (.slice m.C.A m.C.n m.C.c)).setCell ⟨g, 8, none⟩ (.int .i64 m.C.e)).setCell ⟨g, 9, none⟩ (.bool m.A.s)).setCell ⟨g, 10, none⟩ (.slice m.A.A m.A.n m.A.c)).setCell ⟨g, 11, none⟩ (.int .i64 m.A.e)) = U ∧ PBox U g { p with M := m } ∧ (∀ w0 B, Below B w0 w → B ≤ g → Below B w0 U) ∧ (∀ j, j ≠ g → U.heap[j]? = w.heap[j]?) ∧ U.heap.size ≤ w.heap.size ∧ w.heap.size ≤ U.heap.size := by
  refine ⟨_, rfl, ?_, fun w0 B hb hg => ?_, fun j hj => ?_, ?_, ?_⟩
  · unfold PBox at h ⊢
    simp [World.setCell, Array.getElem?_modify, h]
  · repeat (refine Below.setCell ?_ hg _)
    exact hb
  · have hj' : ¬ g = j := fun e => hj e.symm
    simp [World.setCell, Array.getElem?_modify, hj']
  · simp [World.setCell]
  · simp [World.setCell]
theorem part_tags {w : World} {g : Nat} {p : Pv} (h : PBox w g p) (A : Option Addr) (n c : Nat) (xs : List Int) : ∃ U, (w.setCell ⟨g, 15, none⟩ (.slice A n c)) = U ∧ PBox U g { p with A := A, n := n, c := c, xs := xs } ∧ (∀ w0 B, Below B w0 w → B ≤ g → Below B w0 U) ∧ (∀ j, j ≠ g → U.heap[j]? = w.heap[j]?) ∧ U.heap.size ≤ w.heap.size ∧ w.heap.size ≤ U.heap.size := by
  refine ⟨_, rfl, ?_, fun w0 B hb hg => hb.setCell hg _, fun j hj => ?_, ?_, ?_⟩
  · unfold PBox at h ⊢
    simp [World.setCell, Array.getElem?_modify, h]
  · have hj' : ¬ g = j := fun e => hj e.symm
    simp [World.setCell, Array.getElem?_modify, hj']
  · simp [World.setCell]
  · simp [World.setCell]
/-- Two parts are the same. -/
def sameE (a b : Pv) : Bool := decide (a.h = b.h) && decide (a.mn = b.mn) && decide (a.mx = b.mx)
def sameP (a b : Pv) : Bool := sameM a.M b.M && sameE a b && Pa.Sm a.xs b.xs
def greatP (p : Pv) : Bool := greatM p.M || decide (70 < p.n)
/-- A copy. -/
def TwinP (p q : Pv) : Prop := (∀ x, x < 4 → TwinV (p.M.get x) (q.M.get x)) ∧ q.h = p.h ∧ q.mn = p.mn ∧ q.mx = p.mx ∧ q.n = p.n ∧ q.xs = p.xs
end Ma
end Go.Proofs.YtmbppgjhdcmckaaGreatDoor
