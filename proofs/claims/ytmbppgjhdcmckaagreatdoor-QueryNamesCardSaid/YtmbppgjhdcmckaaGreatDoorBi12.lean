/- Shares with known numbers: what is kept, sent, taken, told. No program in sight. -/
/- A part's value, its cells and rows. No function in sight (printed by a program of mine). -/
/- Whole loads and stores of parts, as one step each. No function in sight. -/
/- A whole row is laid into the block that was made last: one step of a walk. -/
/- What is told: its value, boxes and numbers. No function in sight (printed by a program of mine). -/
/- Clocks, values, timers that may be: walks (printed by a program of mine). -/
/- Numbers heard: walks (printed by a program of mine). -/
/- Descriptors, their order, and the best of each node: plain laws, no program in sight. -/
import Derived.Test.YtmbppgjhdcmckaaGreatDoorBi11
import Derived.Lib.MinMax
import Derived.Test.YtmbppgjhdcmckaaGreatDoorBi02
import Derived.Test.YtmbppgjhdcmckaaGreatDoorBi06
import Derived.Test.YtmbppgjhdcmckaaGreatDoorBi08
import Derived.Test.YtmbppgjhdcmckaaGreatDoorBi07
import Derived.Test.YtmbppgjhdcmckaaGreatDoorBi09
import Derived.Test.YtmbppgjhdcmckaaGreatDoorBi05
import Derived.Test.YtmbppgjhdcmckaaGreatDoorBi10
import Derived.Test.YtmbppgjhdcmckaaGreatDoorBi01
import Derived.Test.YtmbppgjhdcmckaaGreatDoorBi03
import Derived.Deep.MidRow
import Derived.Deep.WholeRow
import Derived.BigQuiet
namespace Go.Proofs.YtmbppgjhdcmckaaGreatDoor
open Go.RowKit
namespace Ma
open Dp Dy
theorem can_nil {r : Dn} (h : canon 4294967296 r.m = []) : r.m = 0 := by
 have e : (Dy.dn r.neg (canon 4294967296 r.m) r.e).m = r.m := by rw [dn_of]
 rw [h] at e
 exact e.symm
theorem Is.len {w : World} {lo hi : Nat} {r : Dn} {d : Dv} (h : Is r d) (hI : Ints w lo hi .u32 d.A d.n d.xs) : d.n = 0 ↔ r.m = 0 := by
 rw [xs_nil hI, h.2.2]
 exact ⟨can_nil, fun h0 => by rw [h0]; rfl⟩
theorem share_is {w : World} {lo hi : Nat} {m : Mv} {R : Nat → Dn} (hR : MRows w lo hi m) (h : IsM R m) (hr : MayR R) : m.share ↔ ((R 1).neg = false ∧ ((R 1).m = 0 → (R 0).m = 0)) := by
 have l1 : m.W.n = 0 ↔ (R 1).m = 0 := Is.len (h 1 (by decide)) hR.W
 have l0 : m.S.n = 0 ↔ (R 0).m = 0 := Is.len (h 0 (by decide)) hR.S
 have s1 : m.W.s = (R 1).neg := (h 1 (by decide)).1
 unfold Mv.share
 rw [l1, l0, s1]
 exact ⟨fun k => k.2, fun k => ⟨h.may hr, k⟩⟩
theorem sm (m e : Nat) (h0 : m ≠ 0) (h1 : m < 16) (h2 : e ≤ 1024) (h3 : 0 < e → m % 2 = 1) : Dn.May ⟨false, m, e⟩ := may_small _ _ _ h0 h1 h2 h3
end Ma
end Go.Proofs.YtmbppgjhdcmckaaGreatDoor
namespace Go.Proofs.YtmbppgjhdcmckaaGreatDoor
open Go.RowKit
namespace Ma
open Dp Dy
/-- A part's value, and what its rows hold. -/
structure Pv where
 M : Mv
 h : Bool
 mn : Int
 mx : Int
 A : Option Addr
 n : Nat
 c : Nat
 xs : List Int
structure PRows (w : World) (lo hi : Nat) (p : Pv) : Prop where
 M : MRows w lo hi p.M
 L : Ints w lo hi .u32 p.A p.n p.xs
theorem PRows.below {w w' : World} {lo hi B : Nat} {p : Pv} (h : PRows w lo hi p) (hb : Below B w w') (hB : hi ≤ B) : PRows w' lo hi p := ⟨h.M.below hb hB, h.L.below hb hB⟩
theorem PRows.more {w : World} {lo hi lo' hi' : Nat} {p : Pv} (h : PRows w lo hi p) (hl : lo' ≤ lo) (hh : hi ≤ hi') : PRows w lo' hi' p := ⟨h.M.more hl hh, h.L.more hl hh⟩
theorem PRows.on {w w' : World} {p : Pv} (h : PRows w 0 w.heap.size p) (hb : Below w.heap.size w w') : PRows w' 0 w'.heap.size p := (h.below hb (Nat.le_refl _)).more (Nat.le_refl _) hb.size
theorem PRows.rng {w w' : World} {lo hi : Nat} {p : Pv} (h : PRows w lo hi p) (hk : ∀ b, lo ≤ b → b < hi → w'.heap[b]? = w.heap[b]?) : PRows w' lo hi p := ⟨rows_rng h.M hk, intsR h.L hk⟩
/-- A part in a block. -/
def PBox (w : World) (g : Nat) (p : Pv) : Prop := w.heap[g]? = some (.cells #[.bool p.M.S.s, .slice p.M.S.A p.M.S.n p.M.S.c, .int .i64 p.M.S.e, .bool p.M.W.s, .slice p.M.W.A p.M.W.n p.M.W.c, .int .i64 p.M.W.e, .bool p.M.C.s, .slice p.M.C.A p.M.C.n p.M.C.c, .int .i64 p.M.C.e, .bool p.M.A.s, .slice p.M.A.A p.M.A.n p.M.A.c, .int .i64 p.M.A.e, .bool p.h, .int .i64 p.mn, .int .i64 p.mx, .slice p.A p.n p.c] 30 (0, 0))
/-- Its cells. -/
def PCells (w : World) (b o : Nat) (p : Pv) : Prop := w.cell? ⟨b, o, none⟩ = some (.bool p.M.S.s) ∧ w.cell? ⟨b, o + 1, none⟩ = some (.slice p.M.S.A p.M.S.n p.M.S.c) ∧ w.cell? ⟨b, o + 2, none⟩ = some (.int .i64 p.M.S.e) ∧ w.cell? ⟨b, o + 3, none⟩ = some (.bool p.M.W.s) ∧ w.cell? ⟨b, o + 4, none⟩ = some (.slice p.M.W.A p.M.W.n p.M.W.c) ∧ w.cell? ⟨b, o + 5, none⟩ = some (.int .i64 p.M.W.e) ∧ w.cell? ⟨b, o + 6, none⟩ = some (.bool p.M.C.s) ∧ w.cell? ⟨b, o + 7, none⟩ = some (.slice p.M.C.A p.M.C.n p.M.C.c) ∧ w.cell? ⟨b, o + 8, none⟩ = some (.int .i64 p.M.C.e) ∧ w.cell? ⟨b, o + 9, none⟩ = some (.bool p.M.A.s) ∧ w.cell? ⟨b, o + 10, none⟩ = some (.slice p.M.A.A p.M.A.n p.M.A.c) ∧ w.cell? ⟨b, o + 11, none⟩ = some (.int .i64 p.M.A.e) ∧ w.cell? ⟨b, o + 12, none⟩ = some (.bool p.h) ∧ w.cell? ⟨b, o + 13, none⟩ = some (.int .i64 p.mn) ∧ w.cell? ⟨b, o + 14, none⟩ = some (.int .i64 p.mx) ∧ w.cell? ⟨b, o + 15, none⟩ = some (.slice p.A p.n p.c)
theorem PCells.blk {w w' : World} {b o : Nat} {p : Pv} (h : PCells w b o p) (hk : w'.heap[b]? = w.heap[b]?) : PCells w' b o p := by
 obtain ⟨k0, k1, k2, k3, k4, k5, k6, k7, k8, k9, k10, k11, k12, k13, k14, k15⟩ := h
 exact ⟨by rw [World.cell?_of_block hk]; exact k0, by rw [World.cell?_of_block hk]; exact k1, by rw [World.cell?_of_block hk]; exact k2, by rw [World.cell?_of_block hk]; exact k3, by rw [World.cell?_of_block hk]; exact k4, by rw [World.cell?_of_block hk]; exact k5, by rw [World.cell?_of_block hk]; exact k6, by rw [World.cell?_of_block hk]; exact k7, by rw [World.cell?_of_block hk]; exact k8, by rw [World.cell?_of_block hk]; exact k9, by rw [World.cell?_of_block hk]; exact k10, by rw [World.cell?_of_block hk]; exact k11, by rw [World.cell?_of_block hk]; exact k12, by rw [World.cell?_of_block hk]; exact k13, by rw [World.cell?_of_block hk]; exact k14, by rw [World.cell?_of_block hk]; exact k15⟩
/-- The same, its offsets as numbers. -/
theorem PBox.cell {w : World} {g : Nat} {p : Pv} (h : PBox w g p) : (w.cell? ⟨g, 0, none⟩ = some (.bool p.M.S.s) ∧ w.cell? ⟨g, 1, none⟩ = some (.slice p.M.S.A p.M.S.n p.M.S.c) ∧ w.cell? ⟨g, 2, none⟩ = some (.int .i64 p.M.S.e) ∧ w.cell? ⟨g, 3, none⟩ = some (.bool p.M.W.s) ∧ w.cell? ⟨g, 4, none⟩ = some (.slice p.M.W.A p.M.W.n p.M.W.c) ∧ w.cell? ⟨g, 5, none⟩ = some (.int .i64 p.M.W.e) ∧ w.cell? ⟨g, 6, none⟩ = some (.bool p.M.C.s) ∧ w.cell? ⟨g, 7, none⟩ = some (.slice p.M.C.A p.M.C.n p.M.C.c) ∧ w.cell? ⟨g, 8, none⟩ = some (.int .i64 p.M.C.e) ∧ w.cell? ⟨g, 9, none⟩ = some (.bool p.M.A.s) ∧ w.cell? ⟨g, 10, none⟩ = some (.slice p.M.A.A p.M.A.n p.M.A.c) ∧ w.cell? ⟨g, 11, none⟩ = some (.int .i64 p.M.A.e) ∧ w.cell? ⟨g, 12, none⟩ = some (.bool p.h) ∧ w.cell? ⟨g, 13, none⟩ = some (.int .i64 p.mn) ∧ w.cell? ⟨g, 14, none⟩ = some (.int .i64 p.mx) ∧ w.cell? ⟨g, 15, none⟩ = some (.slice p.A p.n p.c)) ∧ ∀ k, w.frozen? ⟨g, k, none⟩ = false := by
 have hf : ∀ k, w.frozen? ⟨g, k, none⟩ = false := fun k => frozen_of_row w g k _ _ h
 have hc : ∀ k v, (#[.bool p.M.S.s, .slice p.M.S.A p.M.S.n p.M.S.c, .int .i64 p.M.S.e, .bool p.M.W.s, .slice p.M.W.A p.M.W.n p.M.W.c, .int .i64 p.M.W.e, .bool p.M.C.s, .slice p.M.C.A p.M.C.n p.M.C.c, .int .i64 p.M.C.e, .bool p.M.A.s, .slice p.M.A.A p.M.A.n p.M.A.c, .int .i64 p.M.A.e, .bool p.h, .int .i64 p.mn, .int .i64 p.mx, .slice p.A p.n p.c] : Array Value)[k]? = some v → w.cell? ⟨g, k, none⟩ = some v := fun k v hk => by
  unfold PBox at h
  simp [World.cell?, h]
  simpa using hk
 exact ⟨⟨hc 0 _ rfl, hc 1 _ rfl, hc 2 _ rfl, hc 3 _ rfl, hc 4 _ rfl, hc 5 _ rfl, hc 6 _ rfl, hc 7 _ rfl, hc 8 _ rfl, hc 9 _ rfl, hc 10 _ rfl, hc 11 _ rfl, hc 12 _ rfl, hc 13 _ rfl, hc 14 _ rfl, hc 15 _ rfl⟩, hf⟩
theorem alloc_p (w : World) (p : Pv) : ∃ U, w.alloc (.cells #[.bool p.M.S.s, .slice p.M.S.A p.M.S.n p.M.S.c, .int .i64 p.M.S.e, .bool p.M.W.s, .slice p.M.W.A p.M.W.n p.M.W.c, .int .i64 p.M.W.e, .bool p.M.C.s, .slice p.M.C.A p.M.C.n p.M.C.c, .int .i64 p.M.C.e, .bool p.M.A.s, .slice p.M.A.A p.M.A.n p.M.A.c, .int .i64 p.M.A.e, .bool p.h, .int .i64 p.mn, .int .i64 p.mx, .slice p.A p.n p.c] 30) = U ∧ PBox U w.heap.size p ∧ Below w.heap.size w U ∧ w.heap.size < U.heap.size :=
 ⟨_, rfl, heap_alloc_last _ _, (Below.refl _ w).alloc (Nat.le_refl _) _, by simp⟩
def ZPv : Pv := ⟨ZM, false, 0, 0, none, 0, 0, []⟩
theorem alloc_zp (w : World) : ∃ U, w.alloc (.cells #[.bool false, .slice none 0 0, .int .i64 0, .bool false, .slice none 0 0, .int .i64 0, .bool false, .slice none 0 0, .int .i64 0, .bool false, .slice none 0 0, .int .i64 0, .bool false, .int .i64 0, .int .i64 0, .slice none 0 0] 30) = U ∧ PBox U w.heap.size ZPv ∧ Below w.heap.size w U ∧ w.heap.size < U.heap.size :=
 ⟨_, rfl, heap_alloc_last _ _, (Below.refl _ w).alloc (Nat.le_refl _) _, by simp⟩
/-- A whole part is laid. -/
theorem part_to {w : World} {g : Nat} {p0 : Pv} (h : PBox w g p0) (p : Pv) : ∃ U, ((((((((((((((((w.setCell ⟨g, 0, none⟩ (.bool p.M.S.s)).setCell ⟨g, 1, none⟩ (.slice p.M.S.A p.M.S.n p.M.S.c)).setCell ⟨g, 2, none⟩ (.int .i64 p.M.S.e)).setCell ⟨g, 3, none⟩ (.bool p.M.W.s)).setCell ⟨g, 4, none⟩ (.slice p.M.W.A p.M.W.n p.M.W.c)).setCell ⟨g, 5, none⟩ (.int .i64 p.M.W.e)).setCell ⟨g, 6, none⟩ (.bool p.M.C.s)).setCell ⟨g, 7, none⟩ (.slice p.M.C.A p.M.C.n p.M.C.c)).setCell ⟨g, 8, none⟩ (.int .i64 p.M.C.e)).setCell ⟨g, 9, none⟩ (.bool p.M.A.s)).setCell ⟨g, 10, none⟩ (.slice p.M.A.A p.M.A.n p.M.A.c)).setCell ⟨g, 11, none⟩ (.int .i64 p.M.A.e)).setCell ⟨g, 12, none⟩ (.bool p.h)).setCell ⟨g, 13, none⟩ (.int .i64 p.mn)).setCell ⟨g, 14, none⟩ (.int .i64 p.mx)).setCell ⟨g, 15, none⟩ (.slice p.A p.n p.c)) = U ∧ PBox U g p ∧ (∀ w0 B, Below B w0 w → B ≤ g → Below B w0 U) ∧ (∀ j, j ≠ g → U.heap[j]? = w.heap[j]?) ∧ U.heap.size ≤ w.heap.size ∧ w.heap.size ≤ U.heap.size := by
 refine ⟨_, rfl, ?_, fun w0 B hb hg => ?_, fun j hj => ?_, ?_, ?_⟩
 · unfold PBox at h ⊢
   simp [World.setCell, Array.getElem?_modify, h]
 · repeat (refine Below.setCell ?_ hg _)
   exact hb
 · have hj' : ¬ g = j := fun e => hj e.symm
   simp [World.setCell, Array.getElem?_modify, hj']
 · simp [World.setCell]
 · simp [World.setCell]
/-- Its mass, or its tags, are laid. -/
theorem part_mass {w : World} {g : Nat} {p : Pv} (h : PBox w g p) (m : Mv) : ∃ U, ((((((((((((w.setCell ⟨g, 0, none⟩ (.bool m.S.s)).setCell ⟨g, 1, none⟩ (.slice m.S.A m.S.n m.S.c)).setCell ⟨g, 2, none⟩ (.int .i64 m.S.e)).setCell ⟨g, 3, none⟩ (.bool m.W.s)).setCell ⟨g, 4, none⟩ (.slice m.W.A m.W.n m.W.c)).setCell ⟨g, 5, none⟩ (.int .i64 m.W.e)).setCell ⟨g, 6, none⟩ (.bool m.C.s)).setCell ⟨g, 7, none⟩ (.slice m.C.A m.C.n m.C.c)).setCell ⟨g, 8, none⟩ (.int .i64 m.C.e)).setCell ⟨g, 9, none⟩ (.bool m.A.s)).setCell ⟨g, 10, none⟩ (.slice m.A.A m.A.n m.A.c)).setCell ⟨g, 11, none⟩ (.int .i64 m.A.e)) = U ∧ PBox U g { p with M := m } ∧ (∀ w0 B, Below B w0 w → B ≤ g → Below B w0 U) ∧ (∀ j, j ≠ g → U.heap[j]? = w.heap[j]?) ∧ U.heap.size ≤ w.heap.size ∧ w.heap.size ≤ U.heap.size := by
 refine ⟨_, rfl, ?_, fun w0 B hb hg => ?_, fun j hj => ?_, ?_, ?_⟩
 · unfold PBox at h ⊢
   simp [World.setCell, Array.getElem?_modify, h]
 · repeat (refine Below.setCell ?_ hg _)
   exact hb
 · have hj' : ¬ g = j := fun e => hj e.symm
   simp [World.setCell, Array.getElem?_modify, hj']
 · simp [World.setCell]
 · simp [World.setCell]
theorem part_tags {w : World} {g : Nat} {p : Pv} (h : PBox w g p) (A : Option Addr) (n c : Nat) (xs : List Int) : ∃ U, (w.setCell ⟨g, 15, none⟩ (.slice A n c)) = U ∧ PBox U g { p with A := A, n := n, c := c, xs := xs } ∧ (∀ w0 B, Below B w0 w → B ≤ g → Below B w0 U) ∧ (∀ j, j ≠ g → U.heap[j]? = w.heap[j]?) ∧ U.heap.size ≤ w.heap.size ∧ w.heap.size ≤ U.heap.size := by
 refine ⟨_, rfl, ?_, fun w0 B hb hg => hb.setCell hg _, fun j hj => ?_, ?_, ?_⟩
 · unfold PBox at h ⊢
   simp [World.setCell, Array.getElem?_modify, h]
 · have hj' : ¬ g = j := fun e => hj e.symm
   simp [World.setCell, Array.getElem?_modify, hj']
 · simp [World.setCell]
 · simp [World.setCell]
/-- Two parts are the same. -/
def sameE (a b : Pv) : Bool := decide (a.h = b.h) && decide (a.mn = b.mn) && decide (a.mx = b.mx)
def sameP (a b : Pv) : Bool := sameM a.M b.M && sameE a b && Pa.Sm a.xs b.xs
def greatP (p : Pv) : Bool := greatM p.M || decide (70 < p.n)
/-- A copy. -/
def TwinP (p q : Pv) : Prop := (∀ x, x < 4 → TwinV (p.M.get x) (q.M.get x)) ∧ q.h = p.h ∧ q.mn = p.mn ∧ q.mx = p.mx ∧ q.n = p.n ∧ q.xs = p.xs
end Ma
end Go.Proofs.YtmbppgjhdcmckaaGreatDoor
namespace Go.Proofs.YtmbppgjhdcmckaaGreatDoor
open Go.RowKit
namespace Ma
open Dp Dy
def cells16 (p : Pv) : List Value := [.bool p.M.S.s, .slice p.M.S.A p.M.S.n p.M.S.c, .int .i64 p.M.S.e, .bool p.M.W.s, .slice p.M.W.A p.M.W.n p.M.W.c, .int .i64 p.M.W.e, .bool p.M.C.s, .slice p.M.C.A p.M.C.n p.M.C.c, .int .i64 p.M.C.e, .bool p.M.A.s, .slice p.M.A.A p.M.A.n p.M.A.c, .int .i64 p.M.A.e, .bool p.h, .int .i64 p.mn, .int .i64 p.mx, .slice p.A p.n p.c]
def cells12P (m : Mv) : List Value := [.bool m.S.s, .slice m.S.A m.S.n m.S.c, .int .i64 m.S.e, .bool m.W.s, .slice m.W.A m.W.n m.W.c, .int .i64 m.W.e, .bool m.C.s, .slice m.C.A m.C.n m.C.c, .int .i64 m.C.e, .bool m.A.s, .slice m.A.A m.A.n m.A.c, .int .i64 m.A.e]
theorem cells16_one (p : Pv) : ∀ u ∈ cells16 p, u.oneCell' = true := by
 intro u hu
 simp only [cells16, List.mem_cons, List.not_mem_nil, or_false] at hu
 rcases hu with rfl | rfl | rfl | rfl | rfl | rfl | rfl | rfl | rfl | rfl | rfl | rfl | rfl | rfl | rfl | rfl <;> rfl
theorem cells12P_one (m : Mv) : ∀ u ∈ cells12P m, u.oneCell' = true := by
 intro u hu
 simp only [cells12P, List.mem_cons, List.not_mem_nil, or_false] at hu
 rcases hu with rfl | rfl | rfl | rfl | rfl | rfl | rfl | rfl | rfl | rfl | rfl | rfl <;> rfl
theorem run_load_op {P : Program} {op : Oper} {e : Operand → Value} {w : World} (ty : TypeId) (x : Operand) (ho : op.op = .load ty x) (b o : Nat) (hx : e x = .pointer (some ⟨b, o, none⟩)) (cs : List Value) (d : TypeDesc) (hc : w.rangeAt b o cs)
  (hu : P.underlying ty = some d) (hd : d.isRow = true) (hi : (P.info? ty).map (·.size) = some cs.length) : (execOp e op).run P w = .ok (.value (.agg cs.toArray)) w := by
 unfold execOp
 simp only [ho, hx, Instr.loadAt, Instr.sureAddr, Sem.run_bind, Sem.run_pure, Result.andThen_ok, run_loadVar_mid w b o ty cs d hc hu hd hi]
/-- A whole load, guarded: one step of a walk. -/
theorem wpList_load_midG {P : Program} {ops : Array Oper} {rest : List Oper} {op : Oper} {a : Act} {w : World} {Q : Exit → Act → World → Prop} (hw : Region.wanted op (yielded ops a.tmps) = true) (ty : TypeId) (x : Operand) (ho : op.op = .load ty x)
  (b o : Nat) (hx : a.eval x = .pointer (some ⟨b, o, none⟩)) (cs : List Value) (d : TypeDesc) (hc : w.rangeAt b o cs)
  (hu : P.underlying ty = some d) (hd : d.isRow = true) (hi : (P.info? ty).map (·.size) = some cs.length)
  (h : wpList P ops Q rest (a.put op.dst (.agg cs.toArray)) w) : wpList P ops Q (op :: rest) a w := by
 unfold wpList
 rw [if_pos hw]
 exact .inl (wp_load_mid ty x ho b o hx cs d hc hu hd hi h)
theorem PBox.range {w : World} {g : Nat} {p : Pv} (h : PBox w g p) : w.rangeAt g 0 (cells16 p) := fun j v hj => by
 rw [Nat.zero_add]
 unfold PBox at h
 simp only [World.cell?, h]
 simpa [cells16] using hj
theorem PBox.mass {w : World} {g : Nat} {p : Pv} (h : PBox w g p) : w.rangeAt g 0 (cells12P p.M) := fun j v hj => by
 have hl : j < 12 := by
  rcases Nat.lt_or_ge j 12 with h' | h'
  · exact h'
  · rw [List.getElem?_eq_none (by simpa [cells12P] using h')] at hj
    cases hj
 refine h.range j v (Eq.trans ?_ hj)
 show (cells12P p.M ++ _)[j]? = (cells12P p.M)[j]?
 rw [List.getElem?_append_left (by simpa [cells12P] using hl)]
theorem PBox.there {w : World} {g : Nat} {p : Pv} (h : PBox w g p) : w.there g 0 16 := fun j hj =>
 ⟨by rw [h.range j _ (List.getElem?_eq_getElem (by simpa [cells16] using hj))]; rfl, (PBox.cell h).2 _⟩
theorem part_into {w : World} {g : Nat} {p0 : Pv} (h : PBox w g p0) (p : Pv) : ∃ U, w.setCells g 0 (cells16 p) = U ∧ PBox U g p ∧ (∀ w0 B, Below B w0 w → B ≤ g → Below B w0 U) ∧ (∀ j, j ≠ g → U.heap[j]? = w.heap[j]?) ∧ U.heap.size ≤ w.heap.size ∧ w.heap.size ≤ U.heap.size := part_to h p
theorem mass_into {w : World} {g : Nat} {p : Pv} (h : PBox w g p) (m : Mv) : ∃ U, w.setCells g 0 (cells12P m) = U ∧ PBox U g { p with M := m } ∧ (∀ w0 B, Below B w0 w → B ≤ g → Below B w0 U) ∧ (∀ j, j ≠ g → U.heap[j]? = w.heap[j]?) ∧ U.heap.size ≤ w.heap.size ∧ w.heap.size ≤ U.heap.size := part_mass h m
end Ma
end Go.Proofs.YtmbppgjhdcmckaaGreatDoor
namespace Go.Proofs.YtmbppgjhdcmckaaGreatDoor
open Go.RowKit
namespace Ma
theorem wpList_store_nw {P : Program} {ops : Array Oper} {rest : List Oper} {op : Oper} {a : Act} {w : World} {Q : Exit → Act → World → Prop} (hgd : op.guard = none) (ty : TypeId) (x y : Operand) (ho : op.op = .store ty x y) (c c' : Array Value)
  (hx : a.eval x = .pointer (some ⟨w.heap.size, 0, none⟩)) (hy : a.eval y = .agg c') (hi : (P.info? ty).map (·.size) = some c'.size) (hs : c.size = c'.size) (h1 : c'.all (·.oneCell') = true)
  (h : wpList P ops Q rest (a.put op.dst undef) (w.alloc (.cells c' ty))) : wpList P ops Q (op :: rest) a (w.alloc (.cells c ty)) :=
 wpList_plain hgd fun _ hK => by
  unfold Oper.wp execOp
  simp only [ho, hx, hy, Instr.storeAt, Instr.sureAddr, Sem.run_bind, Sem.run_pure, Result.andThen_ok, run_storeVar_new w ty c c' hi hs h1]
  exact hK _ _ h
end Ma
end Go.Proofs.YtmbppgjhdcmckaaGreatDoor
namespace Go.Proofs.YtmbppgjhdcmckaaGreatDoor
open Go.RowKit
namespace Ma
open Dp Dy
def ZDv : Dv := ⟨false, none, 0, 0, 0, []⟩
def cells3D (x : Dv) : List Value := [.bool x.s, .slice x.A x.n x.c, .int .i64 x.e]
def cells6D (x y : Dv) : List Value := [.bool x.s, .slice x.A x.n x.c, .int .i64 x.e, .bool y.s, .slice y.A y.n y.c, .int .i64 y.e]
theorem cells3D_one (x : Dv) : ∀ u ∈ cells3D x, u.oneCell' = true := by
 intro u hu
 simp only [cells3D, List.mem_cons, List.not_mem_nil, or_false] at hu
 rcases hu with rfl | rfl | rfl <;> rfl
theorem cells6D_one (x y : Dv) : ∀ u ∈ cells6D x y, u.oneCell' = true := by
 intro u hu
 simp only [cells6D, List.mem_cons, List.not_mem_nil, or_false] at hu
 rcases hu with rfl | rfl | rfl | rfl | rfl | rfl <;> rfl
/-- A told one in a block. -/
def TBox (w : World) (g : Nat) (x y : Dv) : Prop := w.heap[g]? = some (.cells #[.bool x.s, .slice x.A x.n x.c, .int .i64 x.e, .bool y.s, .slice y.A y.n y.c, .int .i64 y.e] 32 (0, 0))
/-- A dyad in a block. -/
def QBox (w : World) (g : Nat) (x : Dv) : Prop := w.heap[g]? = some (.cells #[.bool x.s, .slice x.A x.n x.c, .int .i64 x.e] 24 (0, 0))
theorem TBox.cell {w : World} {g : Nat} {x y : Dv} (h : TBox w g x y) : w.cell? ⟨g, 0, none⟩ = some (.bool x.s) ∧ w.cell? ⟨g, 0 + 1, none⟩ = some (.slice x.A x.n x.c) ∧ w.cell? ⟨g, 0 + 2, none⟩ = some (.int .i64 x.e) ∧ w.cell? ⟨g, 3, none⟩ = some (.bool y.s) ∧ w.cell? ⟨g, 3 + 1, none⟩ = some (.slice y.A y.n y.c) ∧ w.cell? ⟨g, 3 + 2, none⟩ = some (.int .i64 y.e) :=
 ⟨cell_of_row w g 0 _ _ _ h, cell_of_row w g 1 _ _ _ h, cell_of_row w g 2 _ _ _ h, cell_of_row w g 3 _ _ _ h, cell_of_row w g 4 _ _ _ h, cell_of_row w g 5 _ _ _ h⟩
theorem TBox.range {w : World} {g : Nat} {x y : Dv} (h : TBox w g x y) : w.rangeAt g 0 (cells6D x y) := fun j v hj => by
 obtain ⟨k0, k1, k2, k3, k4, k5⟩ := TBox.cell h
 have hl : j < 6 := by
  rcases Nat.lt_or_ge j 6 with h' | h'
  · exact h'
  · rw [List.getElem?_eq_none (by simpa [cells3D, cells6D] using h')] at hj
    cases hj
 have hc : j = 0 ∨ j = 1 ∨ j = 2 ∨ j = 3 ∨ j = 4 ∨ j = 5 := by omega
 rcases hc with rfl | rfl | rfl | rfl | rfl | rfl <;> (simp [cells6D] at hj; subst hj; assumption)
theorem TBox.low {w : World} {g : Nat} {x y : Dv} (h : TBox w g x y) : w.rangeAt g 0 (cells3D x) := fun j v hj => by
 obtain ⟨k0, k1, k2, k3, k4, k5⟩ := TBox.cell h
 have hl : j < 3 := by
  rcases Nat.lt_or_ge j 3 with h' | h'
  · exact h'
  · rw [List.getElem?_eq_none (by simpa [cells3D, cells6D] using h')] at hj
    cases hj
 have hc : j = 0 ∨ j = 1 ∨ j = 2 := by omega
 rcases hc with rfl | rfl | rfl <;> (simp [cells3D] at hj; subst hj; assumption)
theorem TBox.high {w : World} {g : Nat} {x y : Dv} (h : TBox w g x y) : w.rangeAt g 3 (cells3D y) := fun j v hj => by
 obtain ⟨k0, k1, k2, k3, k4, k5⟩ := TBox.cell h
 have hl : j < 3 := by
  rcases Nat.lt_or_ge j 3 with h' | h'
  · exact h'
  · rw [List.getElem?_eq_none (by simpa [cells3D, cells6D] using h')] at hj
    cases hj
 have hc : j = 0 ∨ j = 1 ∨ j = 2 := by omega
 rcases hc with rfl | rfl | rfl <;> (simp [cells3D] at hj; subst hj; assumption)
theorem TBox.there {w : World} {g : Nat} {x y : Dv} (h : TBox w g x y) : w.there g 0 6 := fun j hj =>
 ⟨by rw [h.range j _ (List.getElem?_eq_getElem (by simpa [cells6D] using hj))]; rfl, frozen_of_row w g _ _ _ h⟩
theorem TBox.thereL {w : World} {g : Nat} {x y : Dv} (h : TBox w g x y) : w.there g 0 3 := fun j hj => h.there j (by omega)
theorem TBox.thereH {w : World} {g : Nat} {x y : Dv} (h : TBox w g x y) : w.there g 3 3 := fun j hj =>
 ⟨by rw [h.high j _ (List.getElem?_eq_getElem (by simpa [cells3D] using hj))]; rfl, frozen_of_row w g _ _ _ h⟩
theorem QBox.range {w : World} {g : Nat} {x : Dv} (h : QBox w g x) : w.rangeAt g 0 (cells3D x) := fun j v hj => by
 rw [Nat.zero_add, cell_of_row w g j _ _ _ h]
 simpa [cells3D] using hj
theorem QBox.there {w : World} {g : Nat} {x : Dv} (h : QBox w g x) : w.there g 0 3 := fun j hj =>
 ⟨by rw [h.range j _ (List.getElem?_eq_getElem (by simpa [cells3D] using hj))]; rfl, frozen_of_row w g _ _ _ h⟩
theorem told_into {w : World} {g : Nat} {x y : Dv} (h : TBox w g x y) (x' y' : Dv) : ∃ U, w.setCells g 0 (cells6D x' y') = U ∧ TBox U g x' y' ∧ (∀ w0 B, Below B w0 w → B ≤ g → Below B w0 U) ∧ (∀ j, j ≠ g → U.heap[j]? = w.heap[j]?) ∧ U.heap.size ≤ w.heap.size ∧ w.heap.size ≤ U.heap.size := by
 refine ⟨_, rfl, ?_, fun w0 B hb hg => ?_, fun j hj => ?_, ?_, ?_⟩
 · unfold TBox at h ⊢
   simp [cells6D, World.setCells, World.setCell, Array.getElem?_modify, h]
 · simp only [cells6D, World.setCells]
   repeat (refine Below.setCell ?_ hg _)
   exact hb
 · have hj' : ¬ g = j := fun e => hj e.symm
   simp [cells6D, World.setCells, World.setCell, Array.getElem?_modify, hj']
 · simp [cells6D, World.setCells, World.setCell]
 · simp [cells6D, World.setCells, World.setCell]
theorem low_into {w : World} {g : Nat} {x y : Dv} (h : TBox w g x y) (x' : Dv) : ∃ U, w.setCells g 0 (cells3D x') = U ∧ TBox U g x' y ∧ (∀ w0 B, Below B w0 w → B ≤ g → Below B w0 U) ∧ (∀ j, j ≠ g → U.heap[j]? = w.heap[j]?) ∧ U.heap.size ≤ w.heap.size ∧ w.heap.size ≤ U.heap.size := by
 refine ⟨_, rfl, ?_, fun w0 B hb hg => ?_, fun j hj => ?_, ?_, ?_⟩
 · unfold TBox at h ⊢
   simp [cells3D, World.setCells, World.setCell, Array.getElem?_modify, h]
 · simp only [cells3D, World.setCells]
   repeat (refine Below.setCell ?_ hg _)
   exact hb
 · have hj' : ¬ g = j := fun e => hj e.symm
   simp [cells3D, World.setCells, World.setCell, Array.getElem?_modify, hj']
 · simp [cells3D, World.setCells, World.setCell]
 · simp [cells3D, World.setCells, World.setCell]
theorem high_into {w : World} {g : Nat} {x y : Dv} (h : TBox w g x y) (y' : Dv) : ∃ U, w.setCells g 3 (cells3D y') = U ∧ TBox U g x y' ∧ (∀ w0 B, Below B w0 w → B ≤ g → Below B w0 U) ∧ (∀ j, j ≠ g → U.heap[j]? = w.heap[j]?) ∧ U.heap.size ≤ w.heap.size ∧ w.heap.size ≤ U.heap.size := by
 refine ⟨_, rfl, ?_, fun w0 B hb hg => ?_, fun j hj => ?_, ?_, ?_⟩
 · unfold TBox at h ⊢
   simp [cells3D, World.setCells, World.setCell, Array.getElem?_modify, h]
 · simp only [cells3D, World.setCells]
   repeat (refine Below.setCell ?_ hg _)
   exact hb
 · have hj' : ¬ g = j := fun e => hj e.symm
   simp [cells3D, World.setCells, World.setCell, Array.getElem?_modify, hj']
 · simp [cells3D, World.setCells, World.setCell]
 · simp [cells3D, World.setCells, World.setCell]
theorem alloc_t (w : World) (x y : Dv) : ∃ U, w.alloc (.cells #[.bool x.s, .slice x.A x.n x.c, .int .i64 x.e, .bool y.s, .slice y.A y.n y.c, .int .i64 y.e] 32) = U ∧ TBox U w.heap.size x y ∧ Below w.heap.size w U ∧ w.heap.size < U.heap.size :=
 ⟨_, rfl, heap_alloc_last _ _, (Below.refl _ w).alloc (Nat.le_refl _) _, by simp⟩
theorem alloc_zt (w : World) : ∃ U, w.alloc (.cells #[.bool false, .slice none 0 0, .int .i64 0, .bool false, .slice none 0 0, .int .i64 0] 32) = U ∧ TBox U w.heap.size ZDv ZDv ∧ Below w.heap.size w U ∧ w.heap.size < U.heap.size :=
 ⟨_, rfl, heap_alloc_last _ _, (Below.refl _ w).alloc (Nat.le_refl _) _, by simp⟩
theorem alloc_q (w : World) (x : Dv) : ∃ U, w.alloc (.cells #[.bool x.s, .slice x.A x.n x.c, .int .i64 x.e] 24) = U ∧ QBox U w.heap.size x ∧ Below w.heap.size w U ∧ w.heap.size < U.heap.size :=
 ⟨_, rfl, heap_alloc_last _ _, (Below.refl _ w).alloc (Nat.le_refl _) _, by simp⟩
/-- A dyad's row, told in numbers. -/
def DRow (w : World) (lo hi : Nat) (x : Dv) : Prop := Ints w lo hi .u32 x.A x.n x.xs
/-- What is told: two numbers, and an error. -/
def ToldR (w : World) (lo hi : Dn) (code : Int) (e : Ending) (w' : World) : Prop :=
 ∃ (x y : Dv) (B : Nat), e = .returned (.tuple #[.agg #[.bool x.s, .slice x.A x.n x.c, .int .i64 x.e, .bool y.s, .slice y.A y.n y.c, .int .i64 y.e], .int .i64 code]) ∧ Is lo x ∧ Is hi y ∧ Below w.heap.size w w' ∧ w.heap.size ≤ B ∧ B ≤ w'.heap.size ∧ DRow w' w.heap.size B x ∧ DRow w' B w'.heap.size y
theorem isZ : Is Dn.zero ZDv := Is.zero
theorem rowZ (w : World) (lo hi : Nat) : DRow w lo hi ZDv := Ints.nil_ ..
/-- Is a dyad above 0? -/
def aboveV (d : Dv) : Bool := !d.s && decide (0 < d.n)
end Ma
end Go.Proofs.YtmbppgjhdcmckaaGreatDoor
namespace Go.Proofs.YtmbppgjhdcmckaaGreatDoor
open Go.RowKit
namespace Ma
open Dp Dy
/-- May a clock be? -/
def mayCl (l t s e f : Int) : Bool := decide (((1 ≤ l ∧ l ≤ 64) ∧ (0 ≤ s ∧ s ≤ t ∧ t ≤ 2147483647)) ∧ ((0 ≤ e ∧ e ≤ 65535) ∧ (0 ≤ f ∧ f ≤ 65536)) ∧ (t - s < l ∨ e = 65535))
/-- Is a number a value? -/
def valV (x : Int) : Bool := decide (-2147483647 ≤ x ∧ x ≤ 2147483647)
/-- May a timer be? -/
def mayT (a b : Int) : Bool := decide ((0 ≤ a ∧ a ≤ 2147483647) ∧ (0 ≤ b ∧ b ≤ 1048575))
/-- Is a timer ahead of another one? -/
def aheadT (a b c d : Int) : Bool := decide (a < c ∨ (a = c ∧ b < d))
def heardN (x : Int) : Bool := decide (0 ≤ x ∧ x ≤ 1048575)
theorem alloc_cl (w : World) (l t s e f : Int) : ∃ U, w.alloc (.cells #[.int .i64 l, .int .i64 t, .int .i64 s, .int .i64 e, .int .i64 f] 53) = U ∧ U.heap[w.heap.size]? = some (.cells #[.int .i64 l, .int .i64 t, .int .i64 s, .int .i64 e, .int .i64 f] 53 (0, 0)) ∧ Below w.heap.size w U :=
 ⟨_, rfl, heap_alloc_last _ _, (Below.refl _ w).alloc (Nat.le_refl _) _⟩
theorem alloc_ti (w : World) (a b : Int) : ∃ U, w.alloc (.cells #[.int .i64 a, .int .i64 b] 146) = U ∧ U.heap[w.heap.size]? = some (.cells #[.int .i64 a, .int .i64 b] 146 (0, 0)) ∧ Below w.heap.size w U ∧ w.heap.size < U.heap.size :=
 ⟨_, rfl, heap_alloc_last _ _, (Below.refl _ w).alloc (Nat.le_refl _) _, by simp⟩
set_option maxHeartbeats 6400000 in
set_option maxRecDepth 100000 in
/-- epoch.Check. -/
theorem epochCheck_any (w : World) (l t s e f : Int) (k : Bool) (hk : mayCl l t s e f = k) :
  Calls Tryz.prog 51 #[.agg #[.int .i64 l, .int .i64 t, .int .i64 s, .int .i64 e, .int .i64 f]] w fun e' w' => e' = .returned (.int .i64 (if k then 0 else 8)) ∧ Below w.heap.size w w' := by
 obtain ⟨w1, hw, bC, j1⟩ := alloc_cl w l t s e f
 have c0 : w1.cell? ⟨w.heap.size, 0, none⟩ = some (.int .i64 l) := cell_of_row w1 w.heap.size 0 _ _ _ bC
 have c1 : w1.cell? ⟨w.heap.size, 1, none⟩ = some (.int .i64 t) := cell_of_row w1 w.heap.size 1 _ _ _ bC
 have c2 : w1.cell? ⟨w.heap.size, 2, none⟩ = some (.int .i64 s) := cell_of_row w1 w.heap.size 2 _ _ _ bC
 have c3 : w1.cell? ⟨w.heap.size, 3, none⟩ = some (.int .i64 e) := cell_of_row w1 w.heap.size 3 _ _ _ bC
 have c4 : w1.cell? ⟨w.heap.size, 4, none⟩ = some (.int .i64 f) := cell_of_row w1 w.heap.size 4 _ _ _ bC
 clear bC
 have HK := Lib.hid hk
 clear hk
 go_enter Tryz.func51, Tryz.ntmps51
 by_cases q0 : l < 1
 case pos =>
  obtain rfl : k = false := by (try have hq_ := heq.out); rw [← HK.out]; exact decide_eq_false (by omega)
  go_wp2
  go_ret
  exact ⟨rfl, j1⟩
 by_cases q1 : 64 < l
 case pos =>
  obtain rfl : k = false := by (try have hq_ := heq.out); rw [← HK.out]; exact decide_eq_false (by omega)
  go_wp2
  go_ret
  exact ⟨rfl, j1⟩
 by_cases q2 : s < 0
 case pos =>
  obtain rfl : k = false := by (try have hq_ := heq.out); rw [← HK.out]; exact decide_eq_false (by omega)
  go_wp2
  go_ret
  exact ⟨rfl, j1⟩
 by_cases q3 : t < s
 case pos =>
  obtain rfl : k = false := by (try have hq_ := heq.out); rw [← HK.out]; exact decide_eq_false (by omega)
  go_wp2
  go_ret
  exact ⟨rfl, j1⟩
 by_cases q4 : 2147483647 < t
 case pos =>
  obtain rfl : k = false := by (try have hq_ := heq.out); rw [← HK.out]; exact decide_eq_false (by omega)
  go_wp2
  go_ret
  exact ⟨rfl, j1⟩
 by_cases q5 : e < 0
 case pos =>
  obtain rfl : k = false := by (try have hq_ := heq.out); rw [← HK.out]; exact decide_eq_false (by omega)
  go_wp2
  go_ret
  exact ⟨rfl, j1⟩
 by_cases q6 : 65535 < e
 case pos =>
  obtain rfl : k = false := by (try have hq_ := heq.out); rw [← HK.out]; exact decide_eq_false (by omega)
  go_wp2
  go_ret
  exact ⟨rfl, j1⟩
 by_cases q7 : f < 0
 case pos =>
  obtain rfl : k = false := by (try have hq_ := heq.out); rw [← HK.out]; exact decide_eq_false (by omega)
  go_wp2
  go_ret
  exact ⟨rfl, j1⟩
 by_cases q8 : 65536 < f
 case pos =>
  obtain rfl : k = false := by (try have hq_ := heq.out); rw [← HK.out]; exact decide_eq_false (by omega)
  go_wp2
  go_ret
  exact ⟨rfl, j1⟩
 have hwr : IntKind.i64.wrap (t - s) = t - s := by rw [IntKind.wrap_i64]; omega
 by_cases q9 : l ≤ t - s
 case neg =>
  obtain rfl : k = true := by (try have hq_ := heq.out); rw [← HK.out]; exact decide_eq_true (by omega)
  go_wp2
  go_ret
  exact ⟨rfl, j1⟩
 obtain ⟨bq, hbq⟩ : ∃ b, (e == 65535) = b := ⟨_, rfl⟩
 cases bq
 case false =>
  have hne := Lib.hid (ne_of_beq_false hbq)
  obtain rfl : k = false := by have := hne.out; rw [← HK.out]; exact decide_eq_false (by omega)
  go_wp2
  go_ret
  exact ⟨rfl, j1⟩
 have heq := Lib.hid (eq_of_beq hbq)
 obtain rfl : k = true := by (try have hq_ := heq.out); rw [← HK.out]; exact decide_eq_true (by omega)
 go_wp2
 go_ret
 exact ⟨rfl, j1⟩
set_option maxHeartbeats 6400000 in
set_option maxRecDepth 100000 in
/-- node.value. -/
theorem nvalue_any (w : World) (x : Int) (k : Bool) (hk : valV x = k) :
  Calls Tryz.prog 50 #[.int .i64 x] w fun e' w' => e' = .returned (.bool k) ∧ Below w.heap.size w w' := by
 have j1 := Below.refl w.heap.size w
 have HK := Lib.hid hk
 clear hk
 go_enter Tryz.func50, Tryz.ntmps50
 by_cases q21 : -2147483647 ≤ x
 case neg =>
  obtain rfl : k = false := by (try have hq_ := heq.out); rw [← HK.out]; exact decide_eq_false (by omega)
  go_wp2
  go_ret
  exact ⟨rfl, j1⟩
 by_cases q22 : x ≤ 2147483647
 case neg =>
  obtain rfl : k = false := by (try have hq_ := heq.out); rw [← HK.out]; exact decide_eq_false (by omega)
  go_wp2
  go_ret
  exact ⟨rfl, j1⟩
 obtain rfl : k = true := by (try have hq_ := heq.out); rw [← HK.out]; exact decide_eq_true (by omega)
 go_wp2
 go_ret
 exact ⟨rfl, j1⟩
set_option maxHeartbeats 6400000 in
set_option maxRecDepth 100000 in
/-- timer.may. -/
theorem timerMay_any (w : World) (a b : Int) (k : Bool) (hk : mayT a b = k) :
  Calls Tryz.prog 167 #[.agg #[.int .i64 a, .int .i64 b]] w fun e' w' => e' = .returned (.bool k) ∧ Below w.heap.size w w' := by
 obtain ⟨w1, hw, bC, j1, S1⟩ := alloc_ti w a b
 have c0 : w1.cell? ⟨w.heap.size, 0, none⟩ = some (.int .i64 a) := cell_of_row w1 w.heap.size 0 _ _ _ bC
 have c1 : w1.cell? ⟨w.heap.size, 1, none⟩ = some (.int .i64 b) := cell_of_row w1 w.heap.size 1 _ _ _ bC
 clear bC S1
 have HK := Lib.hid hk
 clear hk
 go_enter Tryz.func167, Tryz.ntmps167
 by_cases q27 : 0 ≤ a
 case neg =>
  obtain rfl : k = false := by (try have hq_ := heq.out); rw [← HK.out]; exact decide_eq_false (by omega)
  go_wp2
  go_ret
  exact ⟨rfl, j1⟩
 by_cases q28 : a ≤ 2147483647
 case neg =>
  obtain rfl : k = false := by (try have hq_ := heq.out); rw [← HK.out]; exact decide_eq_false (by omega)
  go_wp2
  go_ret
  exact ⟨rfl, j1⟩
 by_cases q29 : 0 ≤ b
 case neg =>
  obtain rfl : k = false := by (try have hq_ := heq.out); rw [← HK.out]; exact decide_eq_false (by omega)
  go_wp2
  go_ret
  exact ⟨rfl, j1⟩
 by_cases q30 : b ≤ 1048575
 case neg =>
  obtain rfl : k = false := by (try have hq_ := heq.out); rw [← HK.out]; exact decide_eq_false (by omega)
  go_wp2
  go_ret
  exact ⟨rfl, j1⟩
 obtain rfl : k = true := by (try have hq_ := heq.out); rw [← HK.out]; exact decide_eq_true (by omega)
 go_wp2
 go_ret
 exact ⟨rfl, j1⟩
set_option maxHeartbeats 6400000 in
set_option maxRecDepth 100000 in
/-- timer.ahead. -/
theorem timerAhead_any (w : World) (a b c d : Int) (k : Bool) (hk : aheadT a b c d = k) :
  Calls Tryz.prog 168 #[.agg #[.int .i64 a, .int .i64 b], .agg #[.int .i64 c, .int .i64 d]] w fun e' w' => e' = .returned (.bool k) ∧ Below w.heap.size w w' := by
 obtain ⟨w1, hw1, bX, ja, S1⟩ := alloc_ti w a b
 obtain ⟨w2, hw2, bY, jb, S2⟩ := alloc_ti w1 c d
 have z1 : w1.heap.size = w.heap.size + 1 := by rw [← hw1]; simp
 have j1 : Below w.heap.size w w2 := later ja jb
 replace bX := box_later bX jb S1
 have c0 : w2.cell? ⟨w.heap.size, 0, none⟩ = some (.int .i64 a) := cell_of_row w2 w.heap.size 0 _ _ _ bX
 have c1 : w2.cell? ⟨w.heap.size, 1, none⟩ = some (.int .i64 b) := cell_of_row w2 w.heap.size 1 _ _ _ bX
 rw [z1] at bY
 have d0 : w2.cell? ⟨w.heap.size + 1, 0, none⟩ = some (.int .i64 c) := cell_of_row w2 (w.heap.size + 1) 0 _ _ _ bY
 have d1 : w2.cell? ⟨w.heap.size + 1, 1, none⟩ = some (.int .i64 d) := cell_of_row w2 (w.heap.size + 1) 1 _ _ _ bY
 clear bX bY S1 S2 z1 ja jb
 subst hw1
 have HK := Lib.hid hk
 clear hk
 go_enter Tryz.func168, Tryz.ntmps168
 by_cases q35 : a < c
 case pos =>
  obtain rfl : k = true := by (try have hq_ := heq.out); rw [← HK.out]; exact decide_eq_true (by omega)
  go_wp2
  go_ret
  exact ⟨rfl, j1⟩
 obtain ⟨bq, hbq⟩ : ∃ b, (a == c) = b := ⟨_, rfl⟩
 cases bq
 case false =>
  have hne := Lib.hid (ne_of_beq_false hbq)
  obtain rfl : k = false := by have := hne.out; rw [← HK.out]; exact decide_eq_false (by omega)
  go_wp2
  go_ret
  exact ⟨rfl, j1⟩
 have heq := Lib.hid (eq_of_beq hbq)
 by_cases q36 : b < d
 case neg =>
  obtain rfl : k = false := by (try have hq_ := heq.out); rw [← HK.out]; exact decide_eq_false (by omega)
  go_wp2
  go_ret
  exact ⟨rfl, j1⟩
 obtain rfl : k = true := by (try have hq_ := heq.out); rw [← HK.out]; exact decide_eq_true (by omega)
 go_wp2
 go_ret
 exact ⟨rfl, j1⟩
end Ma
end Go.Proofs.YtmbppgjhdcmckaaGreatDoor
namespace Go.Proofs.YtmbppgjhdcmckaaGreatDoor
open Go.RowKit
namespace No
open Pa (Sm)
theorem drewN_add (w : World) (a b : Nat) : (w.drewN a).drewN b = w.drewN (a + b) := by simp [World.drewN, Nat.add_assoc]
theorem Sm_refl (a : List Int) : Sm a a = true := beq_self_eq_true _
theorem Sm_len {a b : List Int} (h : a.length ≠ b.length) : Sm a b = false := by
 unfold Sm
 rw [beq_eq_false_iff_ne]
 exact fun e => h (by rw [e])
theorem Sm_at {a b : List Int} {k : Nat} (h : a[k]?.getD 0 ≠ b[k]?.getD 0) : Sm a b = false := by
 unfold Sm
 rw [beq_eq_false_iff_ne]
 exact fun e => h (by rw [e])
theorem take_next {a b : List Int} {k : Nat} (h1 : k < a.length) (h2 : k < b.length) (h : a.take k = b.take k) (he : a[k]?.getD 0 = b[k]?.getD 0) : a.take (k + 1) = b.take (k + 1) := by
 rw [List.take_succ_eq_append_getElem h1, List.take_succ_eq_append_getElem h2, h]
 rw [List.getElem?_eq_getElem h1, List.getElem?_eq_getElem h2] at he
 simp only [Option.getD_some] at he
 rw [he]
/-- May the first numbers be? -/
def hOk (xs : List Int) : Nat → Bool
 | 0 => true
 | k + 1 => hOk xs k && (Ma.heardN (xs[k]?.getD 0) && (decide (k = 0) || decide (xs[k - 1]?.getD 0 < xs[k]?.getD 0)))
def heardC (xs : List Int) : Int := if 4096 < xs.length then 4 else if hOk xs xs.length = true then 0 else 8
theorem hOk_stop {xs : List Int} {k : Nat} (h : hOk xs k = false) : ∀ n, k ≤ n → hOk xs n = false
 | 0, hn => by
  have : k = 0 := by omega
  rw [this] at h
  exact h
 | n + 1, hn => by
  by_cases e : k = n + 1
  · rw [← e]; exact h
  · unfold hOk
    rw [hOk_stop h n (by omega)]
    rfl
def lastH (xs : List Int) (k : Nat) : Int := if k = 0 then -1 else xs[k - 1]?.getD 0
theorem hOk_last {xs : List Int} : ∀ {k : Nat}, hOk xs k = true → -1 ≤ lastH xs k
 | 0, _ => by unfold lastH; rw [if_pos rfl]; omega
 | k + 1, h => by
  unfold hOk at h
  simp only [Bool.and_eq_true, Ma.heardN, decide_eq_true_eq] at h
  unfold lastH
  rw [if_neg (by omega), Nat.add_sub_cancel]
  omega
theorem hOk_next {xs : List Int} {k : Nat} (h : hOk xs k = true) (h1 : lastH xs k < xs[k]?.getD 0) (h2 : xs[k]?.getD 0 ≤ 1048575) : hOk xs (k + 1) = true := by
 have hl := hOk_last h
 unfold hOk
 rw [h]
 unfold lastH at h1 hl
 simp only [Bool.true_and, Bool.and_eq_true, Ma.heardN, decide_eq_true_eq, Bool.or_eq_true]
 by_cases e : k = 0
 · rw [if_pos e] at h1
   exact ⟨by omega, .inl e⟩
 · rw [if_neg e] at h1 hl
   exact ⟨by omega, .inr h1⟩
theorem hOk_bad {xs : List Int} {k : Nat} (h : xs[k]?.getD 0 ≤ lastH xs k ∨ 1048575 < xs[k]?.getD 0) : hOk xs (k + 1) = false := by
 unfold hOk lastH at *
 cases e : hOk xs k
 · rfl
 · simp only [Bool.true_and, Bool.and_eq_false_iff, Ma.heardN, decide_eq_false_iff_not, Bool.or_eq_false_iff]
   by_cases e0 : k = 0
   · rw [if_pos e0] at h
     exact .inl (by omega)
   · rw [if_neg e0] at h
     rcases h with h | h
     · exact .inr ⟨e0, by omega⟩
     · exact .inl (by omega)
theorem heard_bad {xs : List Int} {k : Nat} (hk : k < xs.length) (h : xs[k]?.getD 0 ≤ lastH xs k ∨ 1048575 < xs[k]?.getD 0) (hn : ¬ 4096 < xs.length) : heardC xs = 8 := by
 unfold heardC
 rw [if_neg hn, hOk_stop (hOk_bad h) xs.length (by omega)]
 rfl
set_option maxHeartbeats 800000 in
/-- slices.Equal. -/
theorem EqualI_any (w : World) (lo hi lo' hi' : Nat) (A A' : Option Addr) (n c n' c' : Nat) (xs ys : List Int) (hX : Ints w lo hi .i64 A n xs) (hY : Ints w lo' hi' .i64 A' n' ys) (r : Bool) (hr : Sm xs ys = r) :
  Calls Tryz.prog 110 #[.slice A n c, .slice A' n' c'] w fun e w' => e = .returned (.bool r) ∧ ∃ m, w' = w.drewN m := by
 have HR := Lib.hid hr
 have HX := Lib.hid hX.len
 have HY := Lib.hid hY.len
 have hbx := hX.big
 have hby := hY.big
 clear hr
 by_cases hnn : n = n'
 · subst hnn
   go_enter Tryz.func110, Tryz.ntmps110
   go_wp2
   go_loopw [13] (fun iv wr => ∃ k : Nat, iv = .int .i64 k ∧ k ≤ n ∧ Hid (xs.take k = ys.take k) ∧ ∃ m, wr = w.drewN m) (fun iv _ => n - (intOf iv).toNat)
   case atStart => exact ⟨0, rfl, Nat.zero_le _, rfl, 0, rfl⟩
   case round =>
    obtain ⟨k, rfl, hk, htk, m, rfl⟩ := hrel
    by_cases hlt : k < n
    · obtain ⟨b, off, rfl, _, _, hc⟩ := hX.row (by omega)
      obtain ⟨b', off', rfl, _, _, hc'⟩ := hY.row (by omega)
      have g1 := (hc k hlt).1
      have g2 := (hc' k hlt).1
      have hk0 : (0 : Int) ≤ k := by omega
      have hkn : (k : Int) < n := by omega
      have hnx : Hid (xs[k]?.getD 0 = ys[k]?.getD 0 → xs.take (k + 1) = ys.take (k + 1)) := fun he => take_next (by rw [HX.out]; exact hlt) (by rw [HY.out]; exact hlt) htk.out he
      have hno : Hid (xs[k]?.getD 0 ≠ ys[k]?.getD 0 → Sm xs ys = false) := fun he => Sm_at he
      clear hc hc'
      generalize xs[k]?.getD 0 = x at g1 hnx hno
      generalize ys[k]?.getD 0 = y at g2 hnx hno
      by_cases he : x = y
      · subst he
        have hn2 := Lib.hid (hnx.out rfl)
        have hne : (x != x) = false := by simp
        go_wp2
        go_quiet (fail)
        go_wp2
        go_roundw
        case rel => exact ⟨k + 1, by go_num, by omega, hn2, _, rfl⟩
        case measure => simp [intOf]; omega
      · have e2 : r = false := by rw [← HR.out]; exact hno.out he
        subst e2
        have hne : (x != y) = true := by simpa using he
        go_wp2
        go_quiet (fail)
        go_wp2
        go_ret
        exact ⟨rfl, _, drewN_add ..⟩
    · obtain rfl : k = n := by omega
      have e2 : r = true := by
       rw [← HR.out]
       have := htk.out
       rw [List.take_of_length_le (by rw [HX.out]; exact Nat.le_refl _), List.take_of_length_le (by rw [HY.out]; exact Nat.le_refl _)] at this
       rw [this]
       exact Sm_refl _
      subst e2
      go_wp2
      go_ret
      exact ⟨rfl, m, rfl⟩
 · have e2 : r = false := by rw [← HR.out]; exact Sm_len (by rw [HX.out, HY.out]; exact hnn)
   subst e2
   have hne : ((n : Int) != n') = true := by simpa using (show ¬ (n : Int) = n' by omega)
   have hne2 : (n != n') = true := by simpa using hnn
   go_enter Tryz.func110, Tryz.ntmps110
   go_wp2
   go_ret
   exact ⟨rfl, 0, rfl⟩
set_option maxHeartbeats 1600000 in
/-- seen.Check. -/
theorem SeenChk_any (w : World) (lo hi : Nat) (A : Option Addr) (n c : Nat) (xs : List Int) (hX : Ints w lo hi .i64 A n xs) (code : Int) (hcode : heardC xs = code) :
  Calls Tryz.prog 121 #[.slice A n c] w fun e w' => e = .returned (.int .i64 code) ∧ ∃ m, w' = w.drewN m := by
 have HL := Lib.hid hX.len
 have hbig := hX.big
 have HC := Lib.hid hcode
 clear hcode
 by_cases h8 : (4096 : Int) < n
 · have e4 : code = 4 := by rw [← HC.out]; unfold heardC; rw [if_pos (by have := HL.out; omega)]
   subst e4
   go_enter Tryz.func121, Tryz.ntmps121
   go_wp2
   go_ret
   exact ⟨rfl, 0, rfl⟩
 · have H8 : Hid (¬ 4096 < xs.length) := Lib.hid (by have := HL.out; omega)
   go_enter Tryz.func121, Tryz.ntmps121
   go_wp2
   go_loopw [3, 11] (fun lv iv wr => ∃ k : Nat, lv = .int .i64 (lastH xs k) ∧ iv = .int .i64 k ∧ k ≤ n ∧ Hid (hOk xs k = true) ∧ ∃ m, wr = w.drewN m) (fun _ iv _ => n - (intOf iv).toNat)
   case atStart => exact ⟨0, rfl, rfl, Nat.zero_le _, rfl, 0, rfl⟩
   case round =>
    obtain ⟨k, rfl, rfl, hk, hok, m, rfl⟩ := hrel
    by_cases hlt : k < n
    · obtain ⟨b, off, rfl, _, _, hc⟩ := hX.row (by omega)
      have g1 := (hc k hlt).1
      have hk0 : (0 : Int) ≤ k := by omega
      have hkn : (k : Int) < n := by omega
      have hnx : Hid (lastH xs k < xs[k]?.getD 0 → xs[k]?.getD 0 ≤ 1048575 → hOk xs (k + 1) = true) := fun h1 h2 => hOk_next hok.out h1 h2
      have hno : Hid (xs[k]?.getD 0 ≤ lastH xs k ∨ 1048575 < xs[k]?.getD 0 → code = 8) := fun h => HC.out.symm.trans (heard_bad (by have := HL.out; omega) h H8.out)
      have hl1 : Hid (lastH xs (k + 1) = xs[k]?.getD 0) := Lib.hid (by unfold lastH; rw [if_neg (by omega), Nat.add_sub_cancel])
      clear hc
      generalize xs[k]?.getD 0 = x at g1 hnx hno hl1
      generalize lastH xs k = z at hnx hno
      by_cases q1 : x ≤ z
      · obtain rfl : code = 8 := hno.out (.inl q1)
        go_wp2
        go_ret
        exact ⟨rfl, m, rfl⟩
      · by_cases q2 : 1048575 < x
        · obtain rfl : code = 8 := hno.out (.inr q2)
          go_wp2
          go_ret
          exact ⟨rfl, m, rfl⟩
        · have hn2 := Lib.hid (hnx.out (by omega) (by omega))
          go_wp2
          go_roundw
          case rel => exact ⟨k + 1, by rw [hl1.out], by go_num, by omega, hn2, m, rfl⟩
          case measure => first | (simp [intOf]; done) | (simp [intOf]; omega)
    · obtain rfl : k = n := by omega
      have e2 : code = 0 := by
       rw [← HC.out]
       unfold heardC
       rw [if_neg H8.out, HL.out, hok.out]
       rfl
      subst e2
      go_wp2
      go_ret
      exact ⟨rfl, m, rfl⟩
end No
end Go.Proofs.YtmbppgjhdcmckaaGreatDoor
namespace Go.Proofs.YtmbppgjhdcmckaaGreatDoor
namespace De
/-- A descriptor: its node and its stamp. -/
abbrev D := Int × Int
def may (d : D) : Bool := decide (0 ≤ d.1) && (decide (d.1 < 8) && (decide (0 ≤ d.2) && decide (d.2 ≤ 2147483647)))
theorem may_iff (d : D) : may d = true ↔ 0 ≤ d.1 ∧ d.1 < 8 ∧ 0 ≤ d.2 ∧ d.2 ≤ 2147483647 := by simp [may]
/-- Is one fresher than the other one? -/
def ltB (a b : D) : Bool := decide (b.2 < a.2 ∨ (a.2 = b.2 ∧ a.1 < b.1))
theorem lt_iff (a b : D) : ltB a b = true ↔ b.2 < a.2 ∨ (a.2 = b.2 ∧ a.1 < b.1) := by simp [ltB]
theorem lt_irr (a : D) : ltB a a = false := by rw [Bool.eq_false_iff, Ne, lt_iff]; omega
theorem lt_trans {a b c : D} (h : ltB a b = true) (k : ltB b c = true) : ltB a c = true := by rw [lt_iff] at *; omega
theorem lt_asymm {a b : D} (h : ltB a b = true) : ltB b a = false := by rw [Bool.eq_false_iff, Ne]; rw [lt_iff] at *; omega
theorem lt_tot {a b : D} (h : ltB a b = false) (k : ltB b a = false) : a = b := by
 rw [Bool.eq_false_iff, Ne, lt_iff] at h k
 exact Prod.ext (by omega) (by omega)
theorem lt_ntrans {a b c : D} (h : ltB a b = false) (k : ltB b c = false) : ltB a c = false := by
 rw [Bool.eq_false_iff, Ne, lt_iff] at *; omega
def check (l : List D) : Int := if 64 < l.length then 4 else if l.all may then 0 else 8
/-- In order: no later one is fresher. -/
def Srt (l : List D) : Prop := l.Pairwise fun a b => ltB b a = false
theorem srt_uniq {l m : List D} (hp : l.Perm m) (h1 : Srt l) (h2 : Srt m) : l = m :=
 hp.eq_of_pairwise (le := fun a b => ltB b a = false) (fun _ _ _ _ h k => lt_tot k h) h1 h2
/-- One goes ahead of those that it is fresher than. -/
def ins (d : D) : List D → List D
 | [] => [d]
 | x :: l => if ltB d x then d :: x :: l else x :: ins d l
def srt (l : List D) : List D := l.foldl (fun out d => ins d out) []
theorem ins_perm (d : D) : ∀ l, (ins d l).Perm (d :: l)
 | [] => .refl _
 | x :: l => by
  simp only [ins]
  split
  · exact .refl _
  · exact ((ins_perm d l).cons x).trans (.swap ..)
theorem ins_srt (d : D) : ∀ {l}, Srt l → Srt (ins d l)
 | [], _ => by simp [ins, Srt]
 | x :: l, h => by
  simp only [ins]
  obtain ⟨h1, h2⟩ := List.pairwise_cons.1 h
  split
  · rename_i hd
    refine List.pairwise_cons.2 ⟨fun y hy => ?_, h⟩
    rcases List.mem_cons.1 hy with rfl | hy
    · exact lt_asymm hd
    · exact lt_ntrans (h1 y hy) (lt_asymm hd)
  · rename_i hd
    refine List.pairwise_cons.2 ⟨fun y hy => ?_, ins_srt d h2⟩
    rcases List.mem_cons.1 ((ins_perm d l).mem_iff.1 hy) with rfl | hy
    · simpa using hd
    · exact h1 y hy
theorem srtF_perm (l : List D) : ∀ out : List D, (l.foldl (fun out d => ins d out) out).Perm (l ++ out) := by
 induction l with
 | nil => exact fun out => .refl _
 | cons d l ih => exact fun out => ((ih (ins d out)).trans ((ins_perm d out).append_left l)).trans (List.perm_middle)
theorem srtF_srt (l : List D) : ∀ out : List D, Srt out → Srt (l.foldl (fun out d => ins d out) out) := by
 induction l with
 | nil => exact fun out h => h
 | cons d l ih => exact fun out h => ih _ (ins_srt d h)
theorem srt_perm (l : List D) : (srt l).Perm l := by
 have := srtF_perm l []
 rwa [List.append_nil] at this
theorem srt_srt (l : List D) : Srt (srt l) := srtF_srt l [] List.Pairwise.nil
theorem srt_of {l m : List D} (hp : m.Perm l) (hs : Srt m) : m = srt l := srt_uniq (hp.trans (srt_perm l).symm) hs (srt_srt l)
theorem srt_len (l : List D) : (srt l).length = l.length := (srt_perm l).length_eq
theorem srt_mem {l : List D} {d : D} : d ∈ srt l ↔ d ∈ l := (srt_perm l).mem_iff
/-- The first of each node, but for nodes that are seen. -/
def firsts (seen : List Int) : List D → List D
 | [] => []
 | d :: l => if d.1 ∈ seen then firsts seen l else d :: firsts (d.1 :: seen) l
def best (l : List D) : List D := firsts [] (srt l)
theorem firsts_sub : ∀ (l : List D) (seen : List Int), (firsts seen l).Sublist l
 | [], _ => .slnil
 | d :: l, seen => by
  simp only [firsts]
  split
  · exact (firsts_sub l seen).cons d
  · exact (firsts_sub l _).cons_cons d
theorem best_len (l : List D) : (best l).length ≤ l.length := by
 have := (firsts_sub (srt l) []).length_le
 rw [srt_len] at this
 exact this
end De
end Go.Proofs.YtmbppgjhdcmckaaGreatDoor