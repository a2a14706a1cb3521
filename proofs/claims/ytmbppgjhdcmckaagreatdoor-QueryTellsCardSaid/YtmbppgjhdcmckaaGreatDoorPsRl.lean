/- Whole loads and stores of parts, as one step each. No function in sight. -/
import Derived.Test.YtmbppgjhdcmckaaGreatDoorPsBase
import Derived.Deep.MidRow
import Derived.Deep.WholeRow
namespace Go.Proofs.YtmbppgjhdcmckaaGreatDoor
open Go.RowKit
namespace Ma
open Dp Dy
def cells16 (p : Pv) : List Value := [.bool p.M.S.s, .slice p.M.S.A p.M.S.n p.M.S.c, .int .i64 p.M.S.e, .bool p.M.W.s, .slice p.M.W.A p.M.W.n p.M.W.c, .int .i64 p.M.W.e, .bool p.M.C.s, .slice p.M.C.A p.M.C.n p.M.C.c, .int .i64 p.M.C.e, .bool p.M.A.s, .slice p.M.A.A p.M.A.n p.M.A.c, .int .i64 p.M.A.e, .bool p.h, .int .i64 p.mn, .int .i64 p.mx, .slice p.A p.n p.c]
def cells12P (m : Mv) : List Value := [.bool m.S.s, .slice m.S.A m.S.n m.S.c, .int .i64 m.S.e, .bool m.W.s, .slice m.W.A m.W.n m.W.c, .int .i64 m.W.e, .bool m.C.s, .slice m.C.A m.C.n m.C.c, .int .i64 m.C.e, .bool m.A.s, .slice m.A.A m.A.n m.A.c, .int .i64 m.A.e]
theorem cells16_one (p : Pv) : ∀ u ∈ cells16 p, u.oneCell' = true := by
  intro u hu
  simp only [cells16, List.mem_cons, List.not_mem_nil, or_false] at hu
  rcases hu with rfl | rfl | rfl | rfl | rfl | rfl | rfl | rfl | rfl | rfl | rfl | rfl | rfl | rfl | rfl | rfl <;> rfl
theorem cells12P_one (m : Mv) : ∀ u ∈ cells12P m, u.oneCell' = true := by
  intro u hu
  simp only [cells12P, List.mem_cons, List.not_mem_nil, or_false] at hu
  rcases hu with rfl | rfl | rfl | rfl | rfl | rfl | rfl | rfl | rfl | rfl | rfl | rfl <;> rfl
theorem run_load_op {P : Program} {op : Oper} {e : Operand → Value} {w : World} (ty : TypeId) (x : Operand) (ho : op.op = .load ty x) (b o : Nat) (hx : e x = .pointer (some ⟨b, o, none⟩)) (cs : List Value) (d : TypeDesc) (hc : w.rangeAt b o cs)
    (hu : P.underlying ty = some d) (hd : d.isRow = true) (hi : (P.info? ty).map (·.size) = some cs.length) : (execOp e op).run P w = .ok (.value (.agg cs.toArray)) w := by
  unfold execOp
  simp only [ho, hx, Instr.loadAt, Instr.sureAddr, Sem.run_bind, Sem.run_pure, Result.andThen_ok, run_loadVar_mid w b o ty cs d hc hu hd hi]
/-- A whole load, guarded: one step of a walk. -/
theorem wpList_load_midG {P : Program} {ops : Array Oper} {rest : List Oper} {op : Oper} {a : Act} {w : World} {Q : Exit → Act → World → Prop} (hw : Region.wanted op (yielded ops a.tmps) = true) (ty : TypeId) (x : Operand) (ho : op.op = .load ty x)
    (b o : Nat) (hx : a.eval x = .pointer (some ⟨b, o, none⟩)) (cs : List Value) (d : TypeDesc) (hc : w.rangeAt b o cs)
    (hu : P.underlying ty = some d) (hd : d.isRow = true) (hi : (P.info? ty).map (·.size) = some cs.length)
    (h : wpList P ops Q rest (a.put op.dst (.agg cs.toArray)) w) : wpList P ops Q (op :: rest) a w := by
  unfold wpList
  rw [if_pos hw]
  exact .inl (wp_load_mid ty x ho b o hx cs d hc hu hd hi h)
theorem PBox.range {w : World} {g : Nat} {p : Pv} (h : PBox w g p) : w.rangeAt g 0 (cells16 p) := fun j v hj => by
  rw [Nat.zero_add]
  unfold PBox at h
  simp only [World.cell?, h]
  simpa [cells16] using hj
theorem PBox.mass {w : World} {g : Nat} {p : Pv} (h : PBox w g p) : w.rangeAt g 0 (cells12P p.M) := fun j v hj => by
  have hl : j < 12 := by
    rcases Nat.lt_or_ge j 12 with h' | h'
    · exact h'
    · rw [List.getElem?_eq_none (by simpa [cells12P] using h')] at hj
      cases hj
  refine h.range j v (Eq.trans ?_ hj)
  show (cells12P p.M ++ _)[j]? = (cells12P p.M)[j]?
  rw [List.getElem?_append_left (by simpa [cells12P] using hl)]
theorem PBox.there {w : World} {g : Nat} {p : Pv} (h : PBox w g p) : w.there g 0 16 := fun j hj =>
  ⟨by rw [h.range j _ (List.getElem?_eq_getElem (by simpa [cells16] using hj))]; rfl, (PBox.cell h).2 _⟩
theorem part_into {w : World} {g : Nat} {p0 : Pv} (h : PBox w g p0) (p : Pv) : ∃ U, w.setCells g 0 (cells16 p) = U ∧ PBox U g p ∧ (∀ w0 B, Below B w0 w → B ≤ g → Below B w0 U) ∧ (∀ j, j ≠ g → U.heap[j]? = w.heap[j]?) ∧ U.heap.size ≤ w.heap.size ∧ w.heap.size ≤ U.heap.size := part_to h p
theorem mass_into {w : World} {g : Nat} {p : Pv} (h : PBox w g p) (m : Mv) : ∃ U, w.setCells g 0 (cells12P m) = U ∧ PBox U g { p with M := m } ∧ (∀ w0 B, Below B w0 w → B ≤ g → Below B w0 U) ∧ (∀ j, j ≠ g → U.heap[j]? = w.heap[j]?) ∧ U.heap.size ≤ w.heap.size ∧ w.heap.size ≤ U.heap.size := part_mass h m
end Ma
end Go.Proofs.YtmbppgjhdcmckaaGreatDoor
