/- A part's value, its cells and rows. No function in sight (printed by a program of mine). -/
/- Lists of frozen parts. No function in sight (printed by a program of mine). -/
/- Plain laws of lists that rise, and of how they are joined: no program in sight. -/
/- Frozen parts that may be; what is frozen, got, and there before: plain laws, no program in sight. -/
/- A frozen part in a block. No function in sight (printed by a program of mine). -/
/- Own lists of frozen parts: appended to. No function in sight (printed by a program of mine). -/
/- Tags of the reference: whether two lists are the same: a walk. -/
/- mass.Same in a seat whose set lacks it: a walk (printed by a program of mine). -/
import Derived.Laws.StructEq
import Derived.Test.YtbbnbgllgomolaaBy09
import Derived.Test.YtbbnbgllgomolaaBy03
import Derived.Test.YtbbnbgllgomolaaBy05
import Derived.Test.YtbbnbgllgomolaaBy04
import Derived.Test.YtbbnbgllgomolaaBy07
import Derived.Test.YtbbnbgllgomolaaBy01
import Derived.Test.YtbbnbgllgomolaaBy08
import Derived.Deep.MidRow
import Derived.Deep.WholeRow
namespace Go.Proofs.Ytbbnbgllgomolaa
open Go.RowKit
namespace Ma
open Dp Dy
/-- A part's value, and what its rows hold. -/
structure Pv where
 M : Mv
 h : Bool
 mn : Int
 mx : Int
 A : Option Addr
 n : Nat
 c : Nat
 xs : List Int
structure PRows (w : World) (lo hi : Nat) (p : Pv) : Prop where
 M : MRows w lo hi p.M
 L : Ints w lo hi .u32 p.A p.n p.xs
theorem PRows.below {w w' : World} {lo hi B : Nat} {p : Pv} (h : PRows w lo hi p) (hb : Below B w w') (hB : hi ≤ B) : PRows w' lo hi p := ⟨h.M.below hb hB, h.L.below hb hB⟩
theorem PRows.more {w : World} {lo hi lo' hi' : Nat} {p : Pv} (h : PRows w lo hi p) (hl : lo' ≤ lo) (hh : hi ≤ hi') : PRows w lo' hi' p := ⟨h.M.more hl hh, h.L.more hl hh⟩
theorem PRows.on {w w' : World} {p : Pv} (h : PRows w 0 w.heap.size p) (hb : Below w.heap.size w w') : PRows w' 0 w'.heap.size p := (h.below hb (Nat.le_refl _)).more (Nat.le_refl _) hb.size
theorem PRows.rng {w w' : World} {lo hi : Nat} {p : Pv} (h : PRows w lo hi p) (hk : ∀ b, lo ≤ b → b < hi → w'.heap[b]? = w.heap[b]?) : PRows w' lo hi p := ⟨rows_rng h.M hk, intsR h.L hk⟩
/-- A part in a block. -/
def PBox (w : World) (g : Nat) (p : Pv) : Prop := w.heap[g]? = some (.cells #[.bool p.M.S.s, .slice p.M.S.A p.M.S.n p.M.S.c, .int .i64 p.M.S.e, .bool p.M.W.s, .slice p.M.W.A p.M.W.n p.M.W.c, .int .i64 p.M.W.e, .bool p.M.C.s, .slice p.M.C.A p.M.C.n p.M.C.c, .int .i64 p.M.C.e, .bool p.M.A.s, .slice p.M.A.A p.M.A.n p.M.A.c, .int .i64 p.M.A.e, .bool p.h, .int .i64 p.mn, .int .i64 p.mx, .slice p.A p.n p.c] 31 (0, 0))
/-- Its cells. -/
def PCells (w : World) (b o : Nat) (p : Pv) : Prop := w.cell? ⟨b, o, none⟩ = some (.bool p.M.S.s) ∧ w.cell? ⟨b, o + 1, none⟩ = some (.slice p.M.S.A p.M.S.n p.M.S.c) ∧ w.cell? ⟨b, o + 2, none⟩ = some (.int .i64 p.M.S.e) ∧ w.cell? ⟨b, o + 3, none⟩ = some (.bool p.M.W.s) ∧ w.cell? ⟨b, o + 4, none⟩ = some (.slice p.M.W.A p.M.W.n p.M.W.c) ∧ w.cell? ⟨b, o + 5, none⟩ = some (.int .i64 p.M.W.e) ∧ w.cell? ⟨b, o + 6, none⟩ = some (.bool p.M.C.s) ∧ w.cell? ⟨b, o + 7, none⟩ = some (.slice p.M.C.A p.M.C.n p.M.C.c) ∧ w.cell? ⟨b, o + 8, none⟩ = some (.int .i64 p.M.C.e) ∧ w.cell? ⟨b, o + 9, none⟩ = some (.bool p.M.A.s) ∧ w.cell? ⟨b, o + 10, none⟩ = some (.slice p.M.A.A p.M.A.n p.M.A.c) ∧ w.cell? ⟨b, o + 11, none⟩ = some (.int .i64 p.M.A.e) ∧ w.cell? ⟨b, o + 12, none⟩ = some (.bool p.h) ∧ w.cell? ⟨b, o + 13, none⟩ = some (.int .i64 p.mn) ∧ w.cell? ⟨b, o + 14, none⟩ = some (.int .i64 p.mx) ∧ w.cell? ⟨b, o + 15, none⟩ = some (.slice p.A p.n p.c)
theorem PCells.blk {w w' : World} {b o : Nat} {p : Pv} (h : PCells w b o p) (hk : w'.heap[b]? = w.heap[b]?) : PCells w' b o p := by
 obtain ⟨k0, k1, k2, k3, k4, k5, k6, k7, k8, k9, k10, k11, k12, k13, k14, k15⟩ := h
 exact ⟨by rw [World.cell?_of_block hk]; exact k0, by rw [World.cell?_of_block hk]; exact k1, by rw [World.cell?_of_block hk]; exact k2, by rw [World.cell?_of_block hk]; exact k3, by rw [World.cell?_of_block hk]; exact k4, by rw [World.cell?_of_block hk]; exact k5, by rw [World.cell?_of_block hk]; exact k6, by rw [World.cell?_of_block hk]; exact k7, by rw [World.cell?_of_block hk]; exact k8, by rw [World.cell?_of_block hk]; exact k9, by rw [World.cell?_of_block hk]; exact k10, by rw [World.cell?_of_block hk]; exact k11, by rw [World.cell?_of_block hk]; exact k12, by rw [World.cell?_of_block hk]; exact k13, by rw [World.cell?_of_block hk]; exact k14, by rw [World.cell?_of_block hk]; exact k15⟩
theorem PBox.cells {w : World} {g : Nat} {p : Pv} (h : PBox w g p) : PCells w g 0 p ∧ ∀ k, w.frozen? ⟨g, k, none⟩ = false := by
 have hf : ∀ k, w.frozen? ⟨g, k, none⟩ = false := fun k => frozen_of_row w g k _ _ h
 have hc : ∀ k v, (#[.bool p.M.S.s, .slice p.M.S.A p.M.S.n p.M.S.c, .int .i64 p.M.S.e, .bool p.M.W.s, .slice p.M.W.A p.M.W.n p.M.W.c, .int .i64 p.M.W.e, .bool p.M.C.s, .slice p.M.C.A p.M.C.n p.M.C.c, .int .i64 p.M.C.e, .bool p.M.A.s, .slice p.M.A.A p.M.A.n p.M.A.c, .int .i64 p.M.A.e, .bool p.h, .int .i64 p.mn, .int .i64 p.mx, .slice p.A p.n p.c] : Array Value)[k]? = some v → w.cell? ⟨g, k, none⟩ = some v := fun k v hk => by
  unfold PBox at h
  simp [World.cell?, h]
  simpa using hk
 exact ⟨⟨hc 0 _ rfl, hc 1 _ rfl, hc 2 _ rfl, hc 3 _ rfl, hc 4 _ rfl, hc 5 _ rfl, hc 6 _ rfl, hc 7 _ rfl, hc 8 _ rfl, hc 9 _ rfl, hc 10 _ rfl, hc 11 _ rfl, hc 12 _ rfl, hc 13 _ rfl, hc 14 _ rfl, hc 15 _ rfl⟩, hf⟩
/-- The same, its offsets as numbers. -/
theorem PBox.cell {w : World} {g : Nat} {p : Pv} (h : PBox w g p) : (w.cell? ⟨g, 0, none⟩ = some (.bool p.M.S.s) ∧ w.cell? ⟨g, 1, none⟩ = some (.slice p.M.S.A p.M.S.n p.M.S.c) ∧ w.cell? ⟨g, 2, none⟩ = some (.int .i64 p.M.S.e) ∧ w.cell? ⟨g, 3, none⟩ = some (.bool p.M.W.s) ∧ w.cell? ⟨g, 4, none⟩ = some (.slice p.M.W.A p.M.W.n p.M.W.c) ∧ w.cell? ⟨g, 5, none⟩ = some (.int .i64 p.M.W.e) ∧ w.cell? ⟨g, 6, none⟩ = some (.bool p.M.C.s) ∧ w.cell? ⟨g, 7, none⟩ = some (.slice p.M.C.A p.M.C.n p.M.C.c) ∧ w.cell? ⟨g, 8, none⟩ = some (.int .i64 p.M.C.e) ∧ w.cell? ⟨g, 9, none⟩ = some (.bool p.M.A.s) ∧ w.cell? ⟨g, 10, none⟩ = some (.slice p.M.A.A p.M.A.n p.M.A.c) ∧ w.cell? ⟨g, 11, none⟩ = some (.int .i64 p.M.A.e) ∧ w.cell? ⟨g, 12, none⟩ = some (.bool p.h) ∧ w.cell? ⟨g, 13, none⟩ = some (.int .i64 p.mn) ∧ w.cell? ⟨g, 14, none⟩ = some (.int .i64 p.mx) ∧ w.cell? ⟨g, 15, none⟩ = some (.slice p.A p.n p.c)) ∧ ∀ k, w.frozen? ⟨g, k, none⟩ = false := by
 have hf : ∀ k, w.frozen? ⟨g, k, none⟩ = false := fun k => frozen_of_row w g k _ _ h
 have hc : ∀ k v, (#[.bool p.M.S.s, .slice p.M.S.A p.M.S.n p.M.S.c, .int .i64 p.M.S.e, .bool p.M.W.s, .slice p.M.W.A p.M.W.n p.M.W.c, .int .i64 p.M.W.e, .bool p.M.C.s, .slice p.M.C.A p.M.C.n p.M.C.c, .int .i64 p.M.C.e, .bool p.M.A.s, .slice p.M.A.A p.M.A.n p.M.A.c, .int .i64 p.M.A.e, .bool p.h, .int .i64 p.mn, .int .i64 p.mx, .slice p.A p.n p.c] : Array Value)[k]? = some v → w.cell? ⟨g, k, none⟩ = some v := fun k v hk => by
  unfold PBox at h
  simp [World.cell?, h]
  simpa using hk
 exact ⟨⟨hc 0 _ rfl, hc 1 _ rfl, hc 2 _ rfl, hc 3 _ rfl, hc 4 _ rfl, hc 5 _ rfl, hc 6 _ rfl, hc 7 _ rfl, hc 8 _ rfl, hc 9 _ rfl, hc 10 _ rfl, hc 11 _ rfl, hc 12 _ rfl, hc 13 _ rfl, hc 14 _ rfl, hc 15 _ rfl⟩, hf⟩
theorem alloc_p (w : World) (p : Pv) : ∃ U, w.alloc (.cells #[.bool p.M.S.s, .slice p.M.S.A p.M.S.n p.M.S.c, .int .i64 p.M.S.e, .bool p.M.W.s, .slice p.M.W.A p.M.W.n p.M.W.c, .int .i64 p.M.W.e, .bool p.M.C.s, .slice p.M.C.A p.M.C.n p.M.C.c, .int .i64 p.M.C.e, .bool p.M.A.s, .slice p.M.A.A p.M.A.n p.M.A.c, .int .i64 p.M.A.e, .bool p.h, .int .i64 p.mn, .int .i64 p.mx, .slice p.A p.n p.c] 31) = U ∧ PBox U w.heap.size p ∧ Below w.heap.size w U ∧ w.heap.size < U.heap.size :=
 ⟨_, rfl, heap_alloc_last _ _, (Below.refl _ w).alloc (Nat.le_refl _) _, by simp⟩
def ZPv : Pv := ⟨ZM, false, 0, 0, none, 0, 0, []⟩
theorem alloc_zp (w : World) : ∃ U, w.alloc (.cells #[.bool false, .slice none 0 0, .int .i64 0, .bool false, .slice none 0 0, .int .i64 0, .bool false, .slice none 0 0, .int .i64 0, .bool false, .slice none 0 0, .int .i64 0, .bool false, .int .i64 0, .int .i64 0, .slice none 0 0] 31) = U ∧ PBox U w.heap.size ZPv ∧ Below w.heap.size w U ∧ w.heap.size < U.heap.size :=
 ⟨_, rfl, heap_alloc_last _ _, (Below.refl _ w).alloc (Nat.le_refl _) _, by simp⟩
/-- A whole part is laid. -/
theorem part_to {w : World} {g : Nat} {p0 : Pv} (h : PBox w g p0) (p : Pv) : ∃ U, ((((((((((((((((w.setCell ⟨g, 0, none⟩ (.bool p.M.S.s)).setCell ⟨g, 1, none⟩ (.slice p.M.S.A p.M.S.n p.M.S.c)).setCell ⟨g, 2, none⟩ (.int .i64 p.M.S.e)).setCell ⟨g, 3, none⟩ (.bool p.M.W.s)).setCell ⟨g, 4, none⟩ (.slice p.M.W.A p.M.W.n p.M.W.c)).setCell ⟨g, 5, none⟩ (.int .i64 p.M.W.e)).setCell ⟨g, 6, none⟩ (.bool p.M.C.s)).setCell ⟨g, 7, none⟩ (.slice p.M.C.A p.M.C.n p.M.C.c)).setCell ⟨g, 8, none⟩ (.int .i64 p.M.C.e)).setCell ⟨g, 9, none⟩ (.bool p.M.A.s)).setCell ⟨g, 10, none⟩ (.slice p.M.A.A p.M.A.n p.M.A.c)).setCell ⟨g, 11, none⟩ (.int .i64 p.M.A.e)).setCell ⟨g, 12, none⟩ (.bool p.h)).setCell ⟨g, 13, none⟩ (.int .i64 p.mn)).setCell ⟨g, 14, none⟩ (.int .i64 p.mx)).setCell ⟨g, 15, none⟩ (.slice p.A p.n p.c)) = U ∧ PBox U g p ∧ (∀ w0 B, Below B w0 w → B ≤ g → Below B w0 U) ∧ (∀ j, j ≠ g → U.heap[j]? = w.heap[j]?) ∧ U.heap.size ≤ w.heap.size ∧ w.heap.size ≤ U.heap.size := by
 refine ⟨_, rfl, ?_, fun w0 B hb hg => ?_, fun j hj => ?_, ?_, ?_⟩
 · unfold PBox at h ⊢
   simp [World.setCell, Array.getElem?_modify, h]
 · repeat (refine Below.setCell ?_ hg _)
   exact hb
 · have hj' : ¬ g = j := fun e => hj e.symm
   simp [World.setCell, Array.getElem?_modify, hj']
 · simp [World.setCell]
 · simp [World.setCell]
/-- Its mass, or its tags, are laid. -/
theorem part_mass {w : World} {g : Nat} {p : Pv} (h : PBox w g p) (m : Mv) : ∃ U, ((((((((((((w.setCell ⟨g, 0, none⟩ (.bool m.S.s)).setCell ⟨g, 1, none⟩ (.slice m.S.A m.S.n m.S.c)).setCell ⟨g, 2, none⟩ (.int .i64 m.S.e)).setCell ⟨g, 3, none⟩ (.bool m.W.s)).setCell ⟨g, 4, none⟩ (.slice m.W.A m.W.n m.W.c)).setCell ⟨g, 5, none⟩ (.int .i64 m.W.e)).setCell ⟨g, 6, none⟩ (.bool m.C.s)).setCell ⟨g, 7, none⟩ (.slice m.C.A m.C.n m.C.c)).setCell ⟨g, 8, none⟩ (.int .i64 m.C.e)).setCell ⟨g, 9, none⟩ (.bool m.A.s)).setCell ⟨g, 10, none⟩ (.slice m.A.A m.A.n m.A.c)).setCell ⟨g, 11, none⟩ (.int .i64 m.A.e)) = U ∧ PBox U g { p with M := m } ∧ (∀ w0 B, Below B w0 w → B ≤ g → Below B w0 U) ∧ (∀ j, j ≠ g → U.heap[j]? = w.heap[j]?) ∧ U.heap.size ≤ w.heap.size ∧ w.heap.size ≤ U.heap.size := by
 refine ⟨_, rfl, ?_, fun w0 B hb hg => ?_, fun j hj => ?_, ?_, ?_⟩
 · unfold PBox at h ⊢
   simp [World.setCell, Array.getElem?_modify, h]
 · repeat (refine Below.setCell ?_ hg _)
   exact hb
 · have hj' : ¬ g = j := fun e => hj e.symm
   simp [World.setCell, Array.getElem?_modify, hj']
 · simp [World.setCell]
 · simp [World.setCell]
theorem part_tags {w : World} {g : Nat} {p : Pv} (h : PBox w g p) (A : Option Addr) (n c : Nat) (xs : List Int) : ∃ U, (w.setCell ⟨g, 15, none⟩ (.slice A n c)) = U ∧ PBox U g { p with A := A, n := n, c := c, xs := xs } ∧ (∀ w0 B, Below B w0 w → B ≤ g → Below B w0 U) ∧ (∀ j, j ≠ g → U.heap[j]? = w.heap[j]?) ∧ U.heap.size ≤ w.heap.size ∧ w.heap.size ≤ U.heap.size := by
 refine ⟨_, rfl, ?_, fun w0 B hb hg => hb.setCell hg _, fun j hj => ?_, ?_, ?_⟩
 · unfold PBox at h ⊢
   simp [World.setCell, Array.getElem?_modify, h]
 · have hj' : ¬ g = j := fun e => hj e.symm
   simp [World.setCell, Array.getElem?_modify, hj']
 · simp [World.setCell]
 · simp [World.setCell]
/-- Two parts are the same. -/
def sameE (a b : Pv) : Bool := decide (a.h = b.h) && decide (a.mn = b.mn) && decide (a.mx = b.mx)
def sameP (a b : Pv) : Bool := sameM a.M b.M && sameE a b && Pa.Sm a.xs b.xs
def greatP (p : Pv) : Bool := greatM p.M || decide (70 < p.n)
/-- A copy. -/
def TwinP (p q : Pv) : Prop := (∀ x, x < 4 → TwinV (p.M.get x) (q.M.get x)) ∧ q.h = p.h ∧ q.mn = p.mn ∧ q.mx = p.mx ∧ q.n = p.n ∧ q.xs = p.xs
end Ma
end Go.Proofs.Ytbbnbgllgomolaa
namespace Go.Proofs.Ytbbnbgllgomolaa
open Go.RowKit
namespace Ma
open Dp Dy
structure Fv where
 e : Int
 P : Pv
def FCells (w : World) (b o : Nat) (f : Fv) : Prop := w.cell? ⟨b, o, none⟩ = some (.int .i64 f.e) ∧ PCells w b (o + 1) f.P
theorem FCells.blk {w w' : World} {b o : Nat} {f : Fv} (h : FCells w b o f) (hk : w'.heap[b]? = w.heap[b]?) : FCells w' b o f := ⟨by rw [World.cell?_of_block hk]; exact h.1, h.2.blk hk⟩
/-- Frozen parts in a row. -/
structure LFs (w : World) (lo hi : Nat) (A : Option Addr) (n : Nat) (fs : List Fv) : Prop where
 len : fs.length = n
 big : n ≤ 9223372036854775807
 row : 0 < n → ∃ b off, A = some ⟨b, off, none⟩ ∧ lo ≤ b ∧ b < hi ∧ ∀ j (h : j < fs.length), FCells w b (off + j * 17) fs[j]
 rows : ∀ j (h : j < fs.length), PRows w lo hi fs[j].P
theorem LFs.below {w w' : World} {lo hi B : Nat} {A : Option Addr} {n : Nat} {fs : List Fv} (h : LFs w lo hi A n fs) (hb : Below B w w') (hB : hi ≤ B) : LFs w' lo hi A n fs :=
 ⟨h.len, h.big, fun h0 => by
  obtain ⟨b, off, e, h1, h2, hc⟩ := h.row h0
  exact ⟨b, off, e, h1, h2, fun j hj => (hc j hj).blk (hb.block b (by omega))⟩, fun j hj => (h.rows j hj).below hb hB⟩
theorem LFs.more {w : World} {lo hi lo' hi' : Nat} {A : Option Addr} {n : Nat} {fs : List Fv} (h : LFs w lo hi A n fs) (hl : lo' ≤ lo) (hh : hi ≤ hi') : LFs w lo' hi' A n fs :=
 ⟨h.len, h.big, fun h0 => by
  obtain ⟨b, off, e, h1, h2, hc⟩ := h.row h0
  exact ⟨b, off, e, by omega, by omega, hc⟩, fun j hj => (h.rows j hj).more hl hh⟩
theorem LFs.rng {w w' : World} {lo hi : Nat} {A : Option Addr} {n : Nat} {fs : List Fv} (h : LFs w lo hi A n fs) (hk : ∀ b, lo ≤ b → b < hi → w'.heap[b]? = w.heap[b]?) : LFs w' lo hi A n fs :=
 ⟨h.len, h.big, fun h0 => by
  obtain ⟨b, off, e, h1, h2, hc⟩ := h.row h0
  exact ⟨b, off, e, h1, h2, fun j hj => (hc j hj).blk (hk b h1 h2)⟩, fun j hj => (h.rows j hj).rng hk⟩
theorem LFs.on {w w' : World} {A : Option Addr} {n : Nat} {fs : List Fv} (h : LFs w 0 w.heap.size A n fs) (hb : Below w.heap.size w w') : LFs w' 0 w'.heap.size A n fs := (h.below hb (Nat.le_refl _)).more (Nat.le_refl _) hb.size
/-- The rows of a part, in all. -/
def bigP (p : Pv) : Int := (p.M.S.n : Int) + p.M.W.n + p.M.C.n + p.M.A.n + p.n
/-- More than statements go through. -/
def greatF (n : Nat) (fs : List Fv) : Bool := (decide (40 < n) && decide (n < 1024)) || decide (1028 < n) || fs.any fun f => greatP f.P || (decide (40 < n) && decide (4 < bigP f.P))
/-- Two lists are the same. -/
def sameF (fs gs : List Fv) : Bool := decide (fs.length = gs.length) && (fs.zip gs).all fun x => decide (x.1.e = x.2.e) && sameP x.1.P x.2.P
theorem any_at {f : Fv → Bool} : ∀ {l : List Fv} {i : Nat} (h : i < l.length), f l[i] = true → l.any f = true
 | a :: l, 0, _, h => by simp at h; simp [h]
 | a :: l, i + 1, h, k => by
  have := any_at (f := f) (l := l) (i := i) (by simpa using h) (by simpa using k)
  simp [this]
theorem any_none {f : Fv → Bool} {l : List Fv} (h : ∀ i (hi : i < l.length), f l[i] = false) : l.any f = false := by
 cases hx : l.any f
 · rfl
 · obtain ⟨a, ha, k⟩ := List.any_eq_true.1 hx
   obtain ⟨i, hi, rfl⟩ := List.mem_iff_getElem.1 ha
   rw [h i hi] at k
   cases k
end Ma
end Go.Proofs.Ytbbnbgllgomolaa
namespace Go.Proofs.Ytbbnbgllgomolaa
namespace Least
def risesTo (xs : List Int) : Nat → Bool
 | 0 => true
 | k + 1 => risesTo xs k && (k == 0 || decide (xs[k-1]?.getD 0 < xs[k]?.getD 0))
def rises (xs : List Int) : Bool := risesTo xs xs.length
def checkCode (xs : List Int) : Int := if 8 < xs.length then 4 else if rises xs then 0 else 8
theorem risesTo_iff (xs : List Int) (k : Nat) : risesTo xs k = true ↔ ∀ j, 1 ≤ j → j < k → xs[j-1]?.getD 0 < xs[j]?.getD 0 := by
 induction k with
 | zero => simp [risesTo]
 | succ k ih =>
  simp only [risesTo, Bool.and_eq_true, Bool.or_eq_true, beq_iff_eq, decide_eq_true_eq, ih]
  constructor
  · rintro ⟨h1, h2⟩ j hj hk
    by_cases e : j = k
    · subst e; exact h2.resolve_left (by omega)
    · exact h1 j hj (by omega)
  · intro h
    refine ⟨fun j h1 h2 => h j h1 (by omega), ?_⟩
    by_cases e : k = 0
    · exact .inl e
    · exact .inr (h k (by omega) (by omega))
theorem risesTo_false {xs : List Int} {k n : Nat} (h : risesTo xs k = false) (hn : k ≤ n) : risesTo xs n = false := by
 rw [Bool.eq_false_iff] at h ⊢
 intro h2
 exact h ((risesTo_iff xs k).2 fun j h1 h3 => (risesTo_iff xs n).1 h2 j h1 (by omega))
end Least
end Go.Proofs.Ytbbnbgllgomolaa
namespace Go.Proofs.Ytbbnbgllgomolaa
open Go.RowKit
namespace Ma
open Dp Dy
/-- May an edge be? -/
def mayE (h : Bool) (mn mx : Int) : Bool := if h then decide (-2147483647 ≤ mn ∧ mn ≤ 2147483647 ∧ -2147483647 ≤ mx ∧ mx ≤ 2147483647 ∧ mn ≤ mx) else decide (mn = 0 ∧ mx = 0)
/-- May a part be? -/
noncomputable def mayP (p : Pv) : Bool := !badS [p.M] && (mayE p.h p.mn p.mx && decide (Least.checkCode p.xs = 0))
/-- May frozen parts be, all behind an epoch? -/
noncomputable def mayF : Int → List Fv → Bool
 | _, [] => true
 | a, f :: l => decide (a < f.e ∧ f.e ≤ 65535) && (mayP f.P && mayF f.e l)
noncomputable def checkF (n : Nat) (fs : List Fv) : Int := if 1024 < n then 4 else if mayF (-1) fs then 0 else 8
noncomputable def askF (n : Nat) (fs : List Fv) (z : Int) : Int := if checkF n fs ≠ 0 then checkF n fs else if z < 0 ∨ 65535 < z then 2 else 0
/-- How many are of earlier epochs. -/
def aheadF : List Fv → Int → Nat
 | [], _ => 0
 | f :: l, z => if f.e < z then aheadF l z + 1 else 0
theorem aheadF_le : ∀ (fs : List Fv) (z : Int), aheadF fs z ≤ fs.length
 | [], _ => Nat.le_refl _
 | f :: l, z => by
  have := aheadF_le l z
  unfold aheadF
  split
  · simp; omega
  · exact Nat.zero_le _
theorem mayF_at : ∀ {fs : List Fv} {a : Int}, mayF a fs = true → ∀ j (h : j < fs.length), a < fs[j].e ∧ fs[j].e ≤ 65535 ∧ mayP fs[j].P = true
 | [], _, _, j, h => absurd h (Nat.not_lt_zero _)
 | f :: l, a, hm, j, h => by
  simp only [mayF, Bool.and_eq_true, decide_eq_true_eq] at hm
  obtain ⟨⟨h1, h2⟩, h3, h4⟩ := hm
  match j, h with
  | 0, _ => exact ⟨h1, h2, h3⟩
  | j + 1, h =>
   obtain ⟨k1, k2, k3⟩ := mayF_at h4 j (by simpa using h)
   exact ⟨by simp; omega, by simpa using k2, by simpa using k3⟩
theorem aheadF_lt : ∀ {fs : List Fv} {z : Int} (j : Nat) (h : j < fs.length), j < aheadF fs z → fs[j].e < z
 | f :: l, z, 0, _, hj => by
  unfold aheadF at hj
  split at hj
  · assumption
  · exact absurd hj (Nat.lt_irrefl 0)
 | f :: l, z, j + 1, h, hj => by
  unfold aheadF at hj
  split at hj
  · exact aheadF_lt (fs := l) j (by simpa using h) (by omega)
  · exact absurd hj (Nat.not_lt_zero _)
theorem aheadF_ge : ∀ {fs : List Fv} {a z : Int}, mayF a fs = true → ∀ j (h : j < fs.length), aheadF fs z ≤ j → z ≤ fs[j].e
 | f :: l, a, z, hm, j, h, hj => by
  have hm' := hm
  simp only [mayF, Bool.and_eq_true, decide_eq_true_eq] at hm
  obtain ⟨_, _, h4⟩ := hm
  unfold aheadF at hj
  split at hj
  · match j, h with
    | 0, _ => omega
    | j + 1, h => exact aheadF_ge h4 j (by simpa using h) (by omega)
  · match j, h with
    | 0, _ => simp; omega
    | j + 1, h =>
     have := (mayF_at h4 j (by simpa using h)).1
     simp
     omega
/-- A walk from the left: what stands behind place i may be. -/
theorem mayF_drop {fs : List Fv} {i : Nat} (h : i < fs.length) (a : Int) : mayF a (fs.drop i) = (decide (a < fs[i].e ∧ fs[i].e ≤ 65535) && (mayP fs[i].P && mayF fs[i].e (fs.drop (i + 1)))) := by
 rw [List.drop_eq_getElem_cons h]
 rfl
theorem mayF_end {fs : List Fv} {i : Nat} (h : fs.length ≤ i) (a : Int) : mayF a (fs.drop i) = true := by
 rw [List.drop_eq_nil_of_le h]
 rfl
theorem checkF_zero {n : Nat} {fs : List Fv} (h : checkF n fs = 0) : n ≤ 1024 ∧ mayF (-1) fs = true := by
 unfold checkF at h
 split at h
 · omega
 · split at h
   · exact ⟨by omega, by assumption⟩
   · omega
theorem askF_zero {n : Nat} {fs : List Fv} {z : Int} (h : askF n fs z = 0) : n ≤ 1024 ∧ mayF (-1) fs = true ∧ 0 ≤ z ∧ z ≤ 65535 := by
 unfold askF at h
 split at h
 · exact absurd h (by assumption)
 · split at h
   · omega
   · have h0 : checkF n fs = 0 := by
       rename_i k _
       exact Classical.byContradiction fun e => k e
     obtain ⟨a, b⟩ := checkF_zero h0
     exact ⟨a, b, by omega, by omega⟩
/-- The code of freezing. -/
noncomputable def freezeF (n : Nat) (fs : List Fv) (z : Int) (p : Pv) : Int := if askF n fs z ≠ 0 then askF n fs z else if mayP p = false then 8 else if aheadF fs z < n then 12 else if n = 1024 then 9 else 0
/-- The code of getting. -/
noncomputable def getF (n : Nat) (fs : List Fv) (z : Int) : Int := if askF n fs z ≠ 0 then askF n fs z else match fs[aheadF fs z]? with
 | some f => if f.e = z then 0 else 6
 | none => 6
end Ma
end Go.Proofs.Ytbbnbgllgomolaa
namespace Go.Proofs.Ytbbnbgllgomolaa
open Go.RowKit
namespace Ma
open Dp Dy
/-- A whole row is laid into the block that was made last: one step of a walk. -/
theorem wpList_store_new {P : Program} {ops : Array Oper} {rest : List Oper} {op : Oper} {a : Act} {w : World} {Q : Exit → Act → World → Prop} (hgd : op.guard = none) (ty : TypeId) (x y : Operand) (ho : op.op = .store ty x y) (c c' : Array Value)
  (hx : a.eval x = .pointer (some ⟨w.heap.size, 0, none⟩)) (hy : a.eval y = .agg c') (hi : (P.info? ty).map (·.size) = some c'.size) (hs : c.size = c'.size) (h1 : c'.all (·.oneCell') = true)
  (h : wpList P ops Q rest (a.put op.dst undef) (w.alloc (.cells c' ty))) : wpList P ops Q (op :: rest) a (w.alloc (.cells c ty)) :=
 wpList_plain hgd fun _ hK => by
  unfold Oper.wp execOp
  simp only [ho, hx, hy, Instr.storeAt, Instr.sureAddr, Sem.run_bind, Sem.run_pure, Result.andThen_ok, run_storeVar_new w ty c c' hi hs h1]
  exact hK _ _ h
def FBox (w : World) (g : Nat) (f : Fv) : Prop := w.heap[g]? = some (.cells #[.int .i64 f.e, .bool f.P.M.S.s, .slice f.P.M.S.A f.P.M.S.n f.P.M.S.c, .int .i64 f.P.M.S.e, .bool f.P.M.W.s, .slice f.P.M.W.A f.P.M.W.n f.P.M.W.c, .int .i64 f.P.M.W.e, .bool f.P.M.C.s, .slice f.P.M.C.A f.P.M.C.n f.P.M.C.c, .int .i64 f.P.M.C.e, .bool f.P.M.A.s, .slice f.P.M.A.A f.P.M.A.n f.P.M.A.c, .int .i64 f.P.M.A.e, .bool f.P.h, .int .i64 f.P.mn, .int .i64 f.P.mx, .slice f.P.A f.P.n f.P.c] 68 (0, 0))
theorem FBox.cell {w : World} {g : Nat} {f : Fv} (h : FBox w g f) : (w.cell? ⟨g, 0, none⟩ = some (.int .i64 f.e) ∧ w.cell? ⟨g, 1, none⟩ = some (.bool f.P.M.S.s) ∧ w.cell? ⟨g, 2, none⟩ = some (.slice f.P.M.S.A f.P.M.S.n f.P.M.S.c) ∧ w.cell? ⟨g, 3, none⟩ = some (.int .i64 f.P.M.S.e) ∧ w.cell? ⟨g, 4, none⟩ = some (.bool f.P.M.W.s) ∧ w.cell? ⟨g, 5, none⟩ = some (.slice f.P.M.W.A f.P.M.W.n f.P.M.W.c) ∧ w.cell? ⟨g, 6, none⟩ = some (.int .i64 f.P.M.W.e) ∧ w.cell? ⟨g, 7, none⟩ = some (.bool f.P.M.C.s) ∧ w.cell? ⟨g, 8, none⟩ = some (.slice f.P.M.C.A f.P.M.C.n f.P.M.C.c) ∧ w.cell? ⟨g, 9, none⟩ = some (.int .i64 f.P.M.C.e) ∧ w.cell? ⟨g, 10, none⟩ = some (.bool f.P.M.A.s) ∧ w.cell? ⟨g, 11, none⟩ = some (.slice f.P.M.A.A f.P.M.A.n f.P.M.A.c) ∧ w.cell? ⟨g, 12, none⟩ = some (.int .i64 f.P.M.A.e) ∧ w.cell? ⟨g, 13, none⟩ = some (.bool f.P.h) ∧ w.cell? ⟨g, 14, none⟩ = some (.int .i64 f.P.mn) ∧ w.cell? ⟨g, 15, none⟩ = some (.int .i64 f.P.mx) ∧ w.cell? ⟨g, 16, none⟩ = some (.slice f.P.A f.P.n f.P.c)) ∧ ∀ k, w.frozen? ⟨g, k, none⟩ = false := by
 have hf : ∀ k, w.frozen? ⟨g, k, none⟩ = false := fun k => frozen_of_row w g k _ _ h
 have hc : ∀ k v, (#[.int .i64 f.e, .bool f.P.M.S.s, .slice f.P.M.S.A f.P.M.S.n f.P.M.S.c, .int .i64 f.P.M.S.e, .bool f.P.M.W.s, .slice f.P.M.W.A f.P.M.W.n f.P.M.W.c, .int .i64 f.P.M.W.e, .bool f.P.M.C.s, .slice f.P.M.C.A f.P.M.C.n f.P.M.C.c, .int .i64 f.P.M.C.e, .bool f.P.M.A.s, .slice f.P.M.A.A f.P.M.A.n f.P.M.A.c, .int .i64 f.P.M.A.e, .bool f.P.h, .int .i64 f.P.mn, .int .i64 f.P.mx, .slice f.P.A f.P.n f.P.c] : Array Value)[k]? = some v → w.cell? ⟨g, k, none⟩ = some v := fun k v hk => by
  unfold FBox at h
  simp [World.cell?, h]
  simpa using hk
 exact ⟨⟨hc 0 _ rfl, hc 1 _ rfl, hc 2 _ rfl, hc 3 _ rfl, hc 4 _ rfl, hc 5 _ rfl, hc 6 _ rfl, hc 7 _ rfl, hc 8 _ rfl, hc 9 _ rfl, hc 10 _ rfl, hc 11 _ rfl, hc 12 _ rfl, hc 13 _ rfl, hc 14 _ rfl, hc 15 _ rfl, hc 16 _ rfl⟩, hf⟩
theorem alloc_f (w : World) (f : Fv) : ∃ U, w.alloc (.cells #[.int .i64 f.e, .bool f.P.M.S.s, .slice f.P.M.S.A f.P.M.S.n f.P.M.S.c, .int .i64 f.P.M.S.e, .bool f.P.M.W.s, .slice f.P.M.W.A f.P.M.W.n f.P.M.W.c, .int .i64 f.P.M.W.e, .bool f.P.M.C.s, .slice f.P.M.C.A f.P.M.C.n f.P.M.C.c, .int .i64 f.P.M.C.e, .bool f.P.M.A.s, .slice f.P.M.A.A f.P.M.A.n f.P.M.A.c, .int .i64 f.P.M.A.e, .bool f.P.h, .int .i64 f.P.mn, .int .i64 f.P.mx, .slice f.P.A f.P.n f.P.c] 68) = U ∧ FBox U w.heap.size f ∧ Below w.heap.size w U ∧ w.heap.size < U.heap.size :=
 ⟨_, rfl, heap_alloc_last _ _, (Below.refl _ w).alloc (Nat.le_refl _) _, by simp⟩
theorem FBox.range {w : World} {g : Nat} {f : Fv} (h : FBox w g f) : w.rangeAt g 0 [.int .i64 f.e, .bool f.P.M.S.s, .slice f.P.M.S.A f.P.M.S.n f.P.M.S.c, .int .i64 f.P.M.S.e, .bool f.P.M.W.s, .slice f.P.M.W.A f.P.M.W.n f.P.M.W.c, .int .i64 f.P.M.W.e, .bool f.P.M.C.s, .slice f.P.M.C.A f.P.M.C.n f.P.M.C.c, .int .i64 f.P.M.C.e, .bool f.P.M.A.s, .slice f.P.M.A.A f.P.M.A.n f.P.M.A.c, .int .i64 f.P.M.A.e, .bool f.P.h, .int .i64 f.P.mn, .int .i64 f.P.mx, .slice f.P.A f.P.n f.P.c] := fun j v hj => by
 rw [Nat.zero_add]
 unfold FBox at h
 simp [World.cell?, h]
 simpa using hj
/-- Its cells amid a row, counted from the row's own beginning. -/
theorem FCells.flat {w : World} {b o : Nat} {f : Fv} (h : FCells w b o f) : w.cell? ⟨b, o, none⟩ = some (.int .i64 f.e) ∧ w.cell? ⟨b, o + 1, none⟩ = some (.bool f.P.M.S.s) ∧ w.cell? ⟨b, o + 2, none⟩ = some (.slice f.P.M.S.A f.P.M.S.n f.P.M.S.c) ∧ w.cell? ⟨b, o + 3, none⟩ = some (.int .i64 f.P.M.S.e) ∧ w.cell? ⟨b, o + 4, none⟩ = some (.bool f.P.M.W.s) ∧ w.cell? ⟨b, o + 5, none⟩ = some (.slice f.P.M.W.A f.P.M.W.n f.P.M.W.c) ∧ w.cell? ⟨b, o + 6, none⟩ = some (.int .i64 f.P.M.W.e) ∧ w.cell? ⟨b, o + 7, none⟩ = some (.bool f.P.M.C.s) ∧ w.cell? ⟨b, o + 8, none⟩ = some (.slice f.P.M.C.A f.P.M.C.n f.P.M.C.c) ∧ w.cell? ⟨b, o + 9, none⟩ = some (.int .i64 f.P.M.C.e) ∧ w.cell? ⟨b, o + 10, none⟩ = some (.bool f.P.M.A.s) ∧ w.cell? ⟨b, o + 11, none⟩ = some (.slice f.P.M.A.A f.P.M.A.n f.P.M.A.c) ∧ w.cell? ⟨b, o + 12, none⟩ = some (.int .i64 f.P.M.A.e) ∧ w.cell? ⟨b, o + 13, none⟩ = some (.bool f.P.h) ∧ w.cell? ⟨b, o + 14, none⟩ = some (.int .i64 f.P.mn) ∧ w.cell? ⟨b, o + 15, none⟩ = some (.int .i64 f.P.mx) ∧ w.cell? ⟨b, o + 16, none⟩ = some (.slice f.P.A f.P.n f.P.c) := by
 obtain ⟨k_, k0, k1, k2, k3, k4, k5, k6, k7, k8, k9, k10, k11, k12, k13, k14, k15⟩ := h
 exact ⟨k_, k0, k1, k2, k3, k4, k5, k6, k7, k8, k9, k10, k11, k12, k13, k14, k15⟩
theorem FCells.range {w : World} {b o : Nat} {f : Fv} (h : FCells w b o f) : w.rangeAt b o [.int .i64 f.e, .bool f.P.M.S.s, .slice f.P.M.S.A f.P.M.S.n f.P.M.S.c, .int .i64 f.P.M.S.e, .bool f.P.M.W.s, .slice f.P.M.W.A f.P.M.W.n f.P.M.W.c, .int .i64 f.P.M.W.e, .bool f.P.M.C.s, .slice f.P.M.C.A f.P.M.C.n f.P.M.C.c, .int .i64 f.P.M.C.e, .bool f.P.M.A.s, .slice f.P.M.A.A f.P.M.A.n f.P.M.A.c, .int .i64 f.P.M.A.e, .bool f.P.h, .int .i64 f.P.mn, .int .i64 f.P.mx, .slice f.P.A f.P.n f.P.c] := fun j v hj => by
 obtain ⟨k0, k1, k2, k3, k4, k5, k6, k7, k8, k9, k10, k11, k12, k13, k14, k15, k16⟩ := h.flat
 have hl : j < 17 := by
  rcases Nat.lt_or_ge j 17 with h' | h'
  · exact h'
  · rw [List.getElem?_eq_none (by simpa using h')] at hj
    cases hj
 have hc : j = 0 ∨ j = 1 ∨ j = 2 ∨ j = 3 ∨ j = 4 ∨ j = 5 ∨ j = 6 ∨ j = 7 ∨ j = 8 ∨ j = 9 ∨ j = 10 ∨ j = 11 ∨ j = 12 ∨ j = 13 ∨ j = 14 ∨ j = 15 ∨ j = 16 := by omega
 rcases hc with rfl | rfl | rfl | rfl | rfl | rfl | rfl | rfl | rfl | rfl | rfl | rfl | rfl | rfl | rfl | rfl | rfl <;> (simp at hj; subst hj; assumption)
end Ma
end Go.Proofs.Ytbbnbgllgomolaa
namespace Go.Proofs.Ytbbnbgllgomolaa
open Go.RowKit
namespace Ma
open Dp Dy
def cells17 (f : Fv) : List Value := [.int .i64 f.e, .bool f.P.M.S.s, .slice f.P.M.S.A f.P.M.S.n f.P.M.S.c, .int .i64 f.P.M.S.e, .bool f.P.M.W.s, .slice f.P.M.W.A f.P.M.W.n f.P.M.W.c, .int .i64 f.P.M.W.e, .bool f.P.M.C.s, .slice f.P.M.C.A f.P.M.C.n f.P.M.C.c, .int .i64 f.P.M.C.e, .bool f.P.M.A.s, .slice f.P.M.A.A f.P.M.A.n f.P.M.A.c, .int .i64 f.P.M.A.e, .bool f.P.h, .int .i64 f.P.mn, .int .i64 f.P.mx, .slice f.P.A f.P.n f.P.c]
def flatF : List Fv → List Value
 | [] => []
 | f :: l => cells17 f ++ flatF l
theorem flatF_len : ∀ l, (flatF l).length = l.length * 17
 | [] => rfl
 | f :: l => by simp [flatF, cells17, flatF_len l]; omega
theorem flatF_append : ∀ l k, flatF (l ++ k) = flatF l ++ flatF k
 | [], _ => rfl
 | f :: l, k => by simp [flatF, flatF_append l k]
theorem flatF_one (f : Fv) : flatF [f] = cells17 f := by simp [flatF]
theorem cells17_one (f : Fv) : ∀ u ∈ cells17 f, u.oneCell' = true := by
 intro u hu
 simp only [cells17, List.mem_cons, List.not_mem_nil, or_false] at hu
 rcases hu with rfl | rfl | rfl | rfl | rfl | rfl | rfl | rfl | rfl | rfl | rfl | rfl | rfl | rfl | rfl | rfl | rfl <;> rfl
theorem flatF_get : ∀ (l : List Fv) (j k : Nat) (h : j < l.length), k < 17 → (flatF l)[j * 17 + k]? = (cells17 l[j])[k]?
 | [], j, k, h, _ => absurd h (Nat.not_lt_zero _)
 | f :: l, 0, k, _, hk => by
  simp only [flatF, Nat.zero_mul, Nat.zero_add, List.getElem_cons_zero]
  rw [List.getElem?_append_left (by simp [cells17]; omega)]
 | f :: l, j + 1, k, h, hk => by
  have e : (j + 1) * 17 + k = (cells17 f).length + (j * 17 + k) := by simp [cells17]; omega
  simp only [flatF, List.getElem_cons_succ]
  rw [e, List.getElem?_append_right (by omega), Nat.add_sub_cancel_left]
  exact flatF_get l j k (by simpa using h) hk
theorem fcells_of {w : World} {b o : Nat} {f : Fv} (h : ∀ k, k < 17 → w.cell? ⟨b, o + k, none⟩ = (cells17 f)[k]?) : FCells w b o f :=
 ⟨h 0 (by decide), h 1 (by decide), h 2 (by decide), h 3 (by decide), h 4 (by decide), h 5 (by decide), h 6 (by decide), h 7 (by decide), h 8 (by decide), h 9 (by decide), h 10 (by decide), h 11 (by decide), h 12 (by decide), h 13 (by decide), h 14 (by decide), h 15 (by decide), h 16 (by decide)⟩
/-- What its rows lie in is another block. -/
def Fv.off (f : Fv) (g : Option Nat) : Prop := f.P.M.off g ∧ ∀ a, f.P.A = some a → 0 < f.P.n → g ≠ some a.block
theorem prows_grown {w w' : World} {row : Option Nat} {f : Fv} (h : PRows w 0 w.heap.size f.P) (hg : w.grownBy w' row) (hr : f.off row) : PRows w' 0 w'.heap.size f.P := ⟨rows_grown h.M hg hr.1, ints_grown h.L hg hr.2⟩
theorem prows_off {w : World} {lo hi : Nat} {f : Fv} (h : PRows w lo hi f.P) {g : Option Nat} (hg : ∀ k, g = some k → k < lo ∨ hi ≤ k) : f.off g := ⟨rows_off h.M hg, fun a e h0 hk => by
 obtain ⟨b, off, e', h1, h2, _⟩ := h.L.row h0
 rw [e'] at e
 injection e with e
 subst e
 have := hg _ hk
 simp only at this
 omega⟩
/-- A list of frozen parts that the call owns. -/
structure OwnF (w : World) (base : Nat) (v : Value) (n : Nat) (fs : List Fv) : Prop where
 own : w.ownsRow base 68 17 v n (flatF fs)
 len : fs.length = n
 rows : ∀ f ∈ fs, PRows w 0 w.heap.size f.P
 off : ∀ f ∈ fs, f.off v.ownBlock
theorem OwnF.nil_ (w : World) (base : Nat) : OwnF w base (.slice none 0 0) 0 [] := ⟨World.ownsRow_nil .., rfl, fun _ h => absurd h (by simp), fun _ h => absurd h (by simp)⟩
theorem OwnF.on {w w' : World} {base : Nat} {v : Value} {n : Nat} {fs : List Fv} (h : OwnF w base v n fs) (hb : Below w.heap.size w w') : OwnF w' base v n fs :=
 ⟨h.own.kept (grown_of_below hb none) (by cases v.ownBlock <;> simp), h.len, fun f hf => (h.rows f hf).on hb, h.off⟩
theorem OwnF.push {w w' : World} {base : Nat} {v v' : Value} {n : Nat} {fs : List Fv} (h : OwnF w base v n fs) {d : Fv} (hd : PRows w 0 w.heap.size d.P) (ho : d.off v.ownBlock)
  (hown : w'.ownsRow base 68 17 v' (n + 1) (flatF fs ++ cells17 d)) (hg : w.grownBy w' v.ownBlock) (hob : v'.ownBlock = v.ownBlock ∨ v'.ownBlock = some w.heap.size) : OwnF w' base v' (n + 1) (fs ++ [d]) := by
 have hrow : ∀ f ∈ fs ++ [d], PRows w 0 w.heap.size f.P ∧ f.off v.ownBlock := fun f hf => by
  rcases List.mem_append.1 hf with hf | hf
  · exact ⟨h.rows f hf, h.off f hf⟩
  · obtain rfl : f = d := by simpa using hf
    exact ⟨hd, ho⟩
 refine ⟨by rw [flatF_append, flatF_one]; exact hown, by simp [h.len], fun f hf => prows_grown (hrow f hf).1 hg (hrow f hf).2, fun f hf => ?_⟩
 rcases hob with e | e
 · rw [e]
   exact (hrow f hf).2
 · rw [e]
   exact prows_off (hrow f hf).1 fun k hk => by
    injection hk with hk
    omega
theorem OwnF.shape {w : World} {base : Nat} {v : Value} {n : Nat} {fs : List Fv} (h : OwnF w base v n fs) : ∃ A c, v = .slice A n c ∧ n ≤ c ∧ c ≤ maxLen := own_shape h.own
/-- It reads as a list. -/
theorem OwnF.lfs {w : World} {base c : Nat} {A : Option Addr} {n : Nat} {fs : List Fv} (h : OwnF w base (.slice A n c) n fs) : LFs w 0 w.heap.size A n fs := by
 have hcap : n ≤ 9223372036854775807 := by
  obtain ⟨A', c', e, h1, h2⟩ := own_shape h.own
  unfold maxLen at h2
  omega
 refine ⟨h.len, hcap, fun h0 => ?_, fun j hj => h.rows _ (List.getElem_mem hj)⟩
 rcases h.own.2 with ⟨e, e0⟩ | ⟨g, cap, cur, e, hb, hg, _⟩
 · omega
 · have hown := h.own
   rw [e] at hown
   injection e with e1 e2 e3
   refine ⟨g, 0, e1, Nat.zero_le _, (Array.getElem?_eq_some_iff.1 hg).1, fun j hj => ?_⟩
   rw [Nat.zero_add]
   refine fcells_of fun k hk => ?_
   have hlt : j * 17 + k < n * 17 := by have := h.len; omega
   rw [hown.cellAt (j * 17 + k) hlt]
   exact flatF_get fs j k hj hk
/-- One in a block of its own, to be appended. -/
theorem raw_oneF (w : World) (f : Fv) {W : World} (hW : w.alloc (.cells #[.int .i64 f.e, .bool f.P.M.S.s, .slice f.P.M.S.A f.P.M.S.n f.P.M.S.c, .int .i64 f.P.M.S.e, .bool f.P.M.W.s, .slice f.P.M.W.A f.P.M.W.n f.P.M.W.c, .int .i64 f.P.M.W.e, .bool f.P.M.C.s, .slice f.P.M.C.A f.P.M.C.n f.P.M.C.c, .int .i64 f.P.M.C.e, .bool f.P.M.A.s, .slice f.P.M.A.A f.P.M.A.n f.P.M.A.c, .int .i64 f.P.M.A.e, .bool f.P.h, .int .i64 f.P.mn, .int .i64 f.P.mx, .slice f.P.A f.P.n f.P.c] 68) = W) : Raw W 0 (w.heap.size + 1) (some ⟨w.heap.size, 0, none⟩) (1 * 17) (cells17 f) := by
 subst hW
 have hX := heap_alloc_last w (.cells #[.int .i64 f.e, .bool f.P.M.S.s, .slice f.P.M.S.A f.P.M.S.n f.P.M.S.c, .int .i64 f.P.M.S.e, .bool f.P.M.W.s, .slice f.P.M.W.A f.P.M.W.n f.P.M.W.c, .int .i64 f.P.M.W.e, .bool f.P.M.C.s, .slice f.P.M.C.A f.P.M.C.n f.P.M.C.c, .int .i64 f.P.M.C.e, .bool f.P.M.A.s, .slice f.P.M.A.A f.P.M.A.n f.P.M.A.c, .int .i64 f.P.M.A.e, .bool f.P.h, .int .i64 f.P.mn, .int .i64 f.P.mx, .slice f.P.A f.P.n f.P.c] 68)
 refine ⟨rfl, fun _ => ⟨w.heap.size, 0, rfl, Nat.zero_le _, by omega, fun j hj => ⟨?_, frozen_of_row _ _ _ _ _ hX⟩⟩⟩
 rw [cell_of_row _ _ _ _ _ _ hX]
 simp [cells17]
end Ma
end Go.Proofs.Ytbbnbgllgomolaa
namespace Go.Proofs.Ytbbnbgllgomolaa
open Go.RowKit
namespace Pa
set_option maxHeartbeats 800000 in
/-- headcountref10.SameTags. -/
theorem tagsSame_any (w : World) (lo hi lo' hi' : Nat) (A A' : Option Addr) (n c n' c' : Nat) (xs ys : List Int) (hX : Ints w lo hi .u32 A n xs) (hY : Ints w lo' hi' .u32 A' n' ys) (r : Bool) (hr : Sm xs ys = r) :
  Calls Try.prog 58 #[.slice A n c, .slice A' n' c'] w fun e w' => e = .returned (.bool r) ∧ ∃ m, w' = w.drewN m := by
 have HR := Lib.hid hr
 have HX := Lib.hid hX.len
 have HY := Lib.hid hY.len
 have hbx := hX.big
 have hby := hY.big
 clear hr
 by_cases hnn : n = n'
 · subst hnn
   go_enter Try.func58, Try.ntmps58
   go_wp2
   go_loopw [5] (fun iv wr => ∃ k : Nat, iv = .int .i64 k ∧ k ≤ n ∧ Hid (xs.take k = ys.take k) ∧ ∃ m, wr = w.drewN m) (fun iv _ => n - (intOf iv).toNat)
   case atStart => exact ⟨0, rfl, Nat.zero_le _, rfl, 0, rfl⟩
   case round =>
    obtain ⟨k, rfl, hk, htk, m, rfl⟩ := hrel
    by_cases hlt : k < n
    · obtain ⟨b, off, rfl, _, _, hc⟩ := hX.row (by omega)
      obtain ⟨b', off', rfl, _, _, hc'⟩ := hY.row (by omega)
      have g1 := (hc k hlt).1
      have g2 := (hc' k hlt).1
      have hk0 : (0 : Int) ≤ k := by omega
      have hkn : (k : Int) < n := by omega
      have hnx : Hid (xs[k]?.getD 0 = ys[k]?.getD 0 → xs.take (k + 1) = ys.take (k + 1)) := fun he => take_next (by rw [HX.out]; exact hlt) (by rw [HY.out]; exact hlt) htk.out he
      have hno : Hid (xs[k]?.getD 0 ≠ ys[k]?.getD 0 → Sm xs ys = false) := fun he => Sm_at he
      clear hc hc'
      generalize xs[k]?.getD 0 = x at g1 hnx hno
      generalize ys[k]?.getD 0 = y at g2 hnx hno
      by_cases he : x = y
      · subst he
        have hn2 := Lib.hid (hnx.out rfl)
        have hne : (x != x) = false := by simp
        go_wp2
        go_quiet (fail)
        go_wp2
        go_roundw
        case rel => exact ⟨k + 1, by go_num, by omega, hn2, _, rfl⟩
        case measure => simp [intOf]; omega
      · have e2 : r = false := by rw [← HR.out]; exact hno.out he
        subst e2
        have hne : (x != y) = true := by simpa using he
        go_wp2
        go_quiet (fail)
        go_wp2
        go_ret
        exact ⟨rfl, _, drewN_add ..⟩
    · obtain rfl : k = n := by omega
      have e2 : r = true := by
       rw [← HR.out]
       have := htk.out
       rw [List.take_of_length_le (by rw [HX.out]; exact Nat.le_refl _), List.take_of_length_le (by rw [HY.out]; exact Nat.le_refl _)] at this
       rw [this]
       exact Sm_refl _
      subst e2
      go_wp2
      go_ret
      exact ⟨rfl, m, rfl⟩
 · have e2 : r = false := by rw [← HR.out]; exact Sm_len (by rw [HX.out, HY.out]; exact hnn)
   subst e2
   have hne : ((n : Int) != n') = true := by simpa using (show ¬ (n : Int) = n' by omega)
   have hne2 : (n != n') = true := by simpa using hnn
   go_enter Try.func58, Try.ntmps58
   go_wp2
   go_ret
   exact ⟨rfl, 0, rfl⟩
end Pa
end Go.Proofs.Ytbbnbgllgomolaa
namespace Go.Proofs.Ytbbnbgllgomolaa
open Go.RowKit
namespace Ma
open Dp Dy
attribute [local go_sem] Oper.semAt_some
set_option maxHeartbeats 25600000 in
set_option maxRecDepth 100000 in
theorem MSame_anyP (w : World) (a b : Mv) (hA : MRows w 0 w.heap.size a) (hBb : MRows w 0 w.heap.size b) (k : Bool) (hk : sameM a b = k) :
  Calls Try.prog 61 #[.agg #[.bool a.S.s, .slice a.S.A a.S.n a.S.c, .int .i64 a.S.e, .bool a.W.s, .slice a.W.A a.W.n a.W.c, .int .i64 a.W.e, .bool a.C.s, .slice a.C.A a.C.n a.C.c, .int .i64 a.C.e, .bool a.A.s, .slice a.A.A a.A.n a.A.c, .int .i64 a.A.e], .agg #[.bool b.S.s, .slice b.S.A b.S.n b.S.c, .int .i64 b.S.e, .bool b.W.s, .slice b.W.A b.W.n b.W.c, .int .i64 b.W.e, .bool b.C.s, .slice b.C.A b.C.n b.C.c, .int .i64 b.C.e, .bool b.A.s, .slice b.A.A b.A.n b.A.c, .int .i64 b.A.e]] w fun e w' => e = .returned (.bool k) ∧ Below w.heap.size w w' := by
 have HK := Lib.hid hk
 clear hk
 have hmx : Try.prog.follows .mixedOrders = true := by kernel_rfl
 refine (callsIn_wide (n := 5)).1 ?_
 refine callsIn_of_wp_marks Try.func61 rfl trivial ?_ rfl
 simp only [Try.ntmps61, List.size_toArray, List.length_cons, List.length_nil, Nat.reduceAdd, Nat.reduceSub, Array.replicate_succ, Array.replicate_zero, List.push_toArray, List.append_toArray, List.nil_append, List.cons_append]
 gi_wp2_with fail
 refine ⟨trivial, (callsIn_wide.2 (parts_any _ _ _)).mono ?_⟩
 rintro e w2 ⟨rfl, rfl⟩
 gi_wp2_with fail
 obtain ⟨W0, hW0⟩ : ∃ W0, ((((w.alloc (.cells #[.bool a.S.s, .slice a.S.A a.S.n a.S.c, .int .i64 a.S.e, .bool a.W.s, .slice a.W.A a.W.n a.W.c, .int .i64 a.W.e, .bool a.C.s, .slice a.C.A a.C.n a.C.c, .int .i64 a.C.e, .bool a.A.s, .slice a.A.A a.A.n a.A.c, .int .i64 a.A.e] 27)).alloc (.cells #[.bool b.S.s, .slice b.S.A b.S.n b.S.c, .int .i64 b.S.e, .bool b.W.s, .slice b.W.A b.W.n b.W.c, .int .i64 b.W.e, .bool b.C.s, .slice b.C.A b.C.n b.C.c, .int .i64 b.C.e, .bool b.A.s, .slice b.A.A b.A.n b.A.c, .int .i64 b.A.e] 27)).alloc (.cells #[.bool false] 4)).alloc (.cells #[.pointer (some ⟨w.heap.size, 0, none⟩)] 134)).alloc (.cells #[.pointer (some ⟨w.heap.size + 1, 0, none⟩)] 134) = W0 := ⟨_, rfl⟩
 obtain ⟨⟨hM0, hN0, hE0, hS1, hS2⟩, hB0, hlo, hhi⟩ := boxes5 w _ _ _ _ _ hW0
 rw [hW0]
 clear hW0
 refine wpIn_rangeFunc_sep2 (F := Fence.wide) rfl (by decide) (gf := 125) (lb := #[.pointer (some ⟨w.heap.size + 1 + 1 + 1, 0, none⟩), .pointer (some ⟨w.heap.size + 1 + 1 + 1 + 1, 0, none⟩)]) rfl trivial (enters_of Try.func125 (by kernel_rfl) rfl)
  (parts_seq _ _ _ w.heap.size (w.heap.size + 1) W0 ⟨hS1, hS2⟩) (by omega) (fun _ => rfl)
  (fun pre O W => O (w.heap.size + 1 + 1) ∧ (∀ x, x ∈ pre → x < 4 → sameV (a.get x) (b.get x) = true) ∧ MBox W w.heap.size a ∧ MBox W (w.heap.size + 1) b ∧ W.heap[w.heap.size + 1 + 1]? = some (.cells #[.bool false] 4 (0, 0)) ∧ Below w.heap.size w W)
  (fun j pre O W => j = .ret ∧ sameM a b = false ∧ W.heap[w.heap.size + 1 + 1]? = some (.cells #[.bool false] 4 (0, 0)) ∧ Below w.heap.size w W)
  (fun O s A B row hs hg hr => ⟨hs.1, hs.2.1, heap_own hs.2.2.1 hg (fun r e => (hr r e).2), heap_own hs.2.2.2.1 hg (fun r e => (hr r e).2), heap_own hs.2.2.2.2.1 hg (fun r e => (hr r e).2), hs.2.2.2.2.2.grown hg hs.2.2.2.2.2.size (fun k e => by have := (hr k e).1; omega)⟩)
  (fun j O s A B row hs hg hr => ⟨hs.1, hs.2.1, heap_own hs.2.2.1 hg (fun r e => (hr r e).2), hs.2.2.2.grown hg hs.2.2.2.size (fun k e => by have := (hr k e).1; omega)⟩)
  (fun s O A B row hs hg hr => ⟨hs.1, hs.2.1, heap_loose hs.2.2.1 hg hr (by omega), heap_loose hs.2.2.2.1 hg hr (by omega), heap_loose hs.2.2.2.2.1 hg hr (by omega), below_loose hs.2.2.2.2.2 (Nat.le_refl _) hg hr (by omega)⟩)
  (fun j s O A B row hs hg hr => ⟨hs.1, hs.2.1, heap_loose hs.2.2.1 hg hr (by omega), below_loose hs.2.2.2 (Nat.le_refl _) hg hr (by omega)⟩)
  (fun k => k = w.heap.size + 1 + 1) (fun k hk e => by omega) (fun k e => by omega) ⟨rfl, (fun x hx => absurd hx (List.not_mem_nil)), hM0, hN0, hE0, hB0⟩
  (fun x a' W => a' = { tmps := #[.agg #[.bool a.S.s, .slice a.S.A a.S.n a.S.c, .int .i64 a.S.e, .bool a.W.s, .slice a.W.A a.W.n a.W.c, .int .i64 a.W.e, .bool a.C.s, .slice a.C.A a.C.n a.C.c, .int .i64 a.C.e, .bool a.A.s, .slice a.A.A a.A.n a.A.c, .int .i64 a.A.e], .agg #[.bool b.S.s, .slice b.S.A b.S.n b.S.c, .int .i64 b.S.e, .bool b.W.s, .slice b.W.A b.W.n b.W.c, .int .i64 b.W.e, .bool b.C.s, .slice b.C.A b.C.n b.C.c, .int .i64 b.C.e, .bool b.A.s, .slice b.A.A b.A.n b.A.c, .int .i64 b.A.e], .pointer (some ⟨w.heap.size, 0, none⟩), .pointer (some ⟨w.heap.size + 1, 0, none⟩), .pointer (some ⟨w.heap.size + 1 + 1, 0, none⟩), .pointer (some ⟨w.heap.size, 3 * x, none⟩), .pointer (some ⟨w.heap.size + 1, 3 * x, none⟩),
   .func (.func 125) #[] #[.pointer (some ⟨w.heap.size + 1 + 1 + 1, 0, none⟩), .pointer (some ⟨w.heap.size + 1 + 1 + 1 + 1, 0, none⟩)], .pointer (some ⟨w.heap.size, 3 * x, none⟩), .pointer (some ⟨w.heap.size + 1, 3 * x, none⟩), undef, undef, undef, undef, undef, undef, undef, undef], defers := [] })
  (fun x a' _ _ _ _ h _ _ => h) ?assign ?body ?done ?stop
 case assign =>
  intro l pre x O W K hgx hsW hi hK
  unfold encM
  gi_wp2
  exact hK _ _ (KeepsFrom.refl _ _) (Gain.refl _ _) hi rfl
 case body =>
  rintro l pre x O a' W ⟨hx4, hpre⟩ hsW ⟨hO, hall, hM, hN, hE, hb⟩ rfl _
  have hrow : Ints W 0 W.heap.size .u32 (a.get x).A (a.get x).n (a.get x).xs := ((hA.get x).below hb (Nat.le_refl _)).more (Nat.le_refl _) hb.size
  have hrow2 : Ints W 0 W.heap.size .u32 (b.get x).A (b.get x).n (b.get x).xs := ((hBb.get x).below hb (Nat.le_refl _)).more (Nat.le_refl _) hb.size
  have hcm := MBox.at_ hM hx4
  have hcn := MBox.at_ hN hx4
  generalize hd : a.get x = d at hcm hrow
  generalize hd' : b.get x = d' at hcn hrow2
  have HD := Lib.hid hd
  have HD' := Lib.hid hd'
  clear hd hd'
  obtain ⟨r, hr⟩ : ∃ r, sameV d d' = r := ⟨_, rfl⟩
  have HR := Lib.hid hr
  clear hr
  gi_wp2
  refine roundRegion_E (Keeps W) [] (m := 8) (L := #[zF,zF,zF,zF,zF,zF,zF,zF]) hmx (by kernel_rfl) (fun _ _ h => h) (by rfl) (by rfl) ?_
  have kD : Keeps W W.drew := fun _ _ => rfl
  refine zE 0 #[zT,zF,zF,zF,zF,zF,zF,zF] ?_ rfl ?hy1 ?rest1
  case hy1 => intro w; go_simp; (try with_reducible rfl)
  try simp only [Act.put, zp]
  refine zE 1 #[zT,zT,zF,zF,zF,zF,zF,zF] ?_ rfl ?hy2 ?rest2
  case hy2 => intro w; go_simp; (try with_reducible rfl)
  try simp only [Act.put, zp]
  refine readE (i := 2) (L := #[zT,zT,zT,zF,zF,zF,zF,zF]) (v := .agg #[.bool d.s, .slice d.A d.n d.c, .int .i64 d.e]) rfl (by rfl) (by kernel_rfl) (by kernel_rfl) (by kernel_rfl) (fun _ _ _ h => h) (by assumption) (by rfl) ?ry2 ?rr2
  case ry2 =>
   intro w' h1
   obtain ⟨⟨k1, k2, k3⟩, _⟩ := MBox.at_ ((h1 _ (by omega)).trans hM) hx4
   rw [HD.out] at k1 k2 k3
   go_simp
  try simp only [Act.put, zp]
  refine zE 3 #[zT,zT,zT,zT,zF,zF,zF,zF] ?_ rfl ?hy4 ?rest4
  case hy4 => intro w; go_simp; (try with_reducible rfl)
  try simp only [Act.put, zp]
  refine zE 4 #[zT,zT,zT,zT,zT,zF,zF,zF] ?_ rfl ?hy5 ?rest5
  case hy5 => intro w; go_simp; (try with_reducible rfl)
  try simp only [Act.put, zp]
  refine readE (i := 5) (L := #[zT,zT,zT,zT,zT,zT,zF,zF]) (v := .agg #[.bool d'.s, .slice d'.A d'.n d'.c, .int .i64 d'.e]) rfl (by rfl) (by kernel_rfl) (by kernel_rfl) (by kernel_rfl) (fun _ _ _ h => h) (by assumption) (by rfl) ?ry5 ?rr5
  case ry5 =>
   intro w' h1
   obtain ⟨⟨k1, k2, k3⟩, _⟩ := MBox.at_ ((h1 _ (by omega)).trans hN) hx4
   rw [HD'.out] at k1 k2 k3
   go_simp
  try simp only [Act.put, zp]
  refine stepK (i := 6) (L := #[zT,zT,zT,zT,zT,zT,zT,zF]) rfl (by rfl) (by kernel_rfl) (by rfl) (fun K hK => ?_)
  go_simp
  go_at_call 86
  refine (Pa.dyadSame_any W.drew _ _ _ _ _ _ _ _ _ _ _ _ (hrow.drewN 1) (hrow2.drewN 1) r HR.out).mono ?_
  rintro e W2 ⟨rfl, hB'⟩
  have hB : Below W.heap.size W W2 := (Below.refl _ W).drew.trans hB'
  clear hB'
  refine hK _ _ ⟨fun _ _ p hp => hB.block p hp, ?_⟩
  clear hK K
  try simp only [Act.put, zp]
  refine zE 7 #[zT,zT,zT,zT,zT,zT,zT,zT] ?_ rfl ?hy8 ?rest8
  case hy8 => intro w; go_simp; (try with_reducible rfl)
  try simp only [Act.put, zp]
  refine doneE (by kernel_rfl) ?_ _
  have hE2 := box_on hE hB (by omega)
  obtain ⟨e3, e4⟩ := cells1 hE2
  cases r
  · gi_wp2
    refine ⟨(keeps_below hB).trans ((KeepsOthers.setCell _ _ _).from _), O, (gain_below hB).trans (gain_set hO _), rfl, ?_, set1 hE2 _, (hb.trans (hB.mono hb.size)).setCell (by simp <;> omega) _⟩
    refine Bool.eq_false_iff.2 fun h => ?_
    have := (sameM_iff a b).1 h x hx4
    rw [HD.out, HD'.out, HR.out] at this
    cases this
  · gi_wp2
    refine ⟨keeps_below hB, O, gain_below hB, hO, fun y hy hy4 => ?_, box_on hM hB (by omega), box_on hN hB (by omega), hE2, hb.trans (hB.mono hb.size)⟩
    rcases List.mem_append.1 hy with h | h
    · exact hall y h hy4
    · rw [List.mem_singleton.1 h, HD.out, HD'.out]
      exact HR.out
 case done =>
  rintro D ys O W hD hS ⟨hO, hall, hM, hN, hE, hb⟩ hK
  obtain ⟨e1, e2⟩ := cells1 hE
  have hk := HK.out
  rw [show sameM a b = true from (sameM_iff a b).2 fun x hx => hall x (by rw [hS]; simp; omega) hx] at hk
  subst hk
  clear hS hall
  gi_wp2
  have hK' := (KeepsOthers.setCell W ⟨w.heap.size + 1 + 1, 0, none⟩ (.bool true)).same D _ hK rfl
  have c1 := cells1 ((World.putObj_heap_other (o := .deferred none) (by omega : w.heap.size + 1 + 1 ≠ D)).trans (set1 hE (.bool true)))
  refine ⟨by simp, .inl ⟨_, _, rfl, run_takeDeferred hK', ?_⟩⟩
  refine ⟨.bool true, ?_, rfl, ?_⟩
  · simp [results, Try.f61, go_sem, c1.1]
  · exact (hb.setCell (by simp <;> omega) _).trans (belowK_b (w := w) (Nat.le_refl _) _ D _ _ (by omega) hK' rfl rfl)
 case stop =>
  rintro D j pre O W hD hSp ⟨rfl, hm, hE, hb⟩ hK
  have hk := HK.out
  rw [hm] at hk
  subst hk
  gi_wp2
  have c1 := cells1 ((World.putObj_heap_other (o := .deferred none) (by omega : w.heap.size + 1 + 1 ≠ D)).trans hE)
  refine ⟨by simp, .inl ⟨_, _, rfl, run_takeDeferred hK, ?_⟩⟩
  refine ⟨.bool false, ?_, rfl, ?_⟩
  · simp [results, Try.f61, go_sem, c1.1]
  · exact hb.trans (belowK_b (w := w) (Nat.le_refl _) _ D _ _ (by omega) hK rfl rfl)
end Ma
end Go.Proofs.Ytbbnbgllgomolaa