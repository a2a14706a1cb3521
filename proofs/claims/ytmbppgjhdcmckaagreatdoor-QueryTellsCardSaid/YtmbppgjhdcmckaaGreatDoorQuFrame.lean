/- Parts among the arguments. -/
import Derived.Test.YtmbppgjhdcmckaaGreatDoorQuRootZg
import Derived.Test.YtmbppgjhdcmckaaGreatDoorPsBase
namespace Go.Proofs.YtmbppgjhdcmckaaGreatDoor
open Go.ChangeShapes Go.WideShapes Go.ChangeAt Go.RowKit Go.Joins Go.Deep
namespace Dy
theorem ownKnob_ : ownKnob Tryz.prog.godebug = none := by kernel_rfl
end Dy
section
variable {H : Type} {enc : TypeId × Value → H} {W : World}
set_option maxRecDepth 100000 in
theorem mass_trodP {fuel : Nat} {cs : List Value} {x : DataW H × List MemPlace}
    (h : DataW.trod enc Tryz.prog W 0 (fun _ => true) true fuel 26 cs = some x) (hfz : ∀ b off, MemPlace.cell b off ∈ x.2 → W.frozen? ⟨b, off, none⟩ = false) (hlt : ∀ q ∈ x.2, q.block < W.heap.size) :
    ∃ m : Ma.Mv, cs = [.bool m.S.s, .slice m.S.A m.S.n m.S.c, .int .i64 m.S.e, .bool m.W.s, .slice m.W.A m.W.n m.W.c, .int .i64 m.W.e, .bool m.C.s, .slice m.C.A m.C.n m.C.c, .int .i64 m.C.e, .bool m.A.s, .slice m.A.A m.A.n m.A.c, .int .i64 m.A.e] ∧
      Ma.MRows W 0 W.heap.size m ∧ ∀ x, x < 4 → (m.get x).n ≤ (m.get x).c := by
  obtain ⟨y0, y1, y2, y3, n, hx, hl, h0, h1, h2, h3⟩ := trod_struct4 Tryz.underlying26 h
  match cs, hl.trans (show Tryz.prog.cellsOf 26 = 12 by kernel_rfl) with
  | [c0, c1, c2, c3, c4, c5, c6, c7, c8, c9, c10, c11], _ =>
    have hx2 : x.2 = y0.2 ++ (y1.2 ++ (y2.2 ++ y3.2)) := by rw [hx]
    have hC3 : Tryz.prog.cellsOf 24 = 3 := by kernel_rfl
    simp only [hC3, List.drop_zero, List.take_succ_cons, List.take_zero, List.drop_succ_cons] at h0 h1 h2 h3
    obtain ⟨d0, rfl, rfl, rfl, e0, r0⟩ := dv_trod Tryz.underlying24 (by kernel_rfl) Tryz.underlying4 Tryz.underlying22 Tryz.underlying48 (by kernel_rfl) Tryz.underlying3 h0 (fun b off hm => hfz b off (by simp [hx2, hm])) (fun q hq => hlt q (by simp [hx2, hq]))
    obtain ⟨d1, rfl, rfl, rfl, e1, r1⟩ := dv_trod Tryz.underlying24 (by kernel_rfl) Tryz.underlying4 Tryz.underlying22 Tryz.underlying48 (by kernel_rfl) Tryz.underlying3 h1 (fun b off hm => hfz b off (by simp [hx2, hm])) (fun q hq => hlt q (by simp [hx2, hq]))
    obtain ⟨d2, rfl, rfl, rfl, e2, r2⟩ := dv_trod Tryz.underlying24 (by kernel_rfl) Tryz.underlying4 Tryz.underlying22 Tryz.underlying48 (by kernel_rfl) Tryz.underlying3 h2 (fun b off hm => hfz b off (by simp [hx2, hm])) (fun q hq => hlt q (by simp [hx2, hq]))
    obtain ⟨d3, rfl, rfl, rfl, e3, r3⟩ := dv_trod Tryz.underlying24 (by kernel_rfl) Tryz.underlying4 Tryz.underlying22 Tryz.underlying48 (by kernel_rfl) Tryz.underlying3 h3 (fun b off hm => hfz b off (by simp [hx2, hm])) (fun q hq => hlt q (by simp [hx2, hq]))
    exact ⟨⟨d0, d1, d2, d3⟩, rfl, ⟨r0, r1, r2, r3⟩, Ma.four (p := fun x => (Ma.Mv.get ⟨d0, d1, d2, d3⟩ x).n ≤ (Ma.Mv.get ⟨d0, d1, d2, d3⟩ x).c) e0 e1 e2 e3⟩
set_option maxRecDepth 100000 in
theorem edge_trod {fuel : Nat} {c0 c1 c2 : Value} {x : DataW H × List MemPlace}
    (h : DataW.trod enc Tryz.prog W 0 (fun _ => true) true fuel 28 [c0, c1, c2] = some x) : ∃ (b : Bool) (p q : Int), c0 = .bool b ∧ c1 = .int .i64 p ∧ c2 = .int .i64 q := by
  obtain ⟨y0, y1, y2, n, hx, _, h0, h1, h2⟩ := trod_struct3 Tryz.underlying28 h
  have C1 : Tryz.prog.cellsOf 4 = 1 := by kernel_rfl
  have C2 : Tryz.prog.cellsOf 3 = 1 := by kernel_rfl
  simp only [C1, C2, List.drop_zero, List.take_succ_cons, List.take_zero, List.drop_succ_cons] at h0 h1 h2
  obtain ⟨s, e0, _⟩ := DataW.trod_bool Tryz.underlying4 h0
  obtain ⟨z, e1, _, z1⟩ := DataW.trod_int Tryz.underlying3 h1
  obtain ⟨u, e2, _, z2⟩ := DataW.trod_int Tryz.underlying3 h2
  injection e0 with e0
  injection e1 with e1
  injection e2 with e2
  exact ⟨s, z, u, e0, e1, e2⟩
set_option maxRecDepth 100000 in
theorem part_trod {fuel : Nat} {cs : List Value} {x : DataW H × List MemPlace}
    (h : DataW.trod enc Tryz.prog W 0 (fun _ => true) true fuel 30 cs = some x) (hfz : ∀ b off, MemPlace.cell b off ∈ x.2 → W.frozen? ⟨b, off, none⟩ = false) (hlt : ∀ q ∈ x.2, q.block < W.heap.size) :
    ∃ p : Ma.Pv, cs = [.bool p.M.S.s, .slice p.M.S.A p.M.S.n p.M.S.c, .int .i64 p.M.S.e, .bool p.M.W.s, .slice p.M.W.A p.M.W.n p.M.W.c, .int .i64 p.M.W.e, .bool p.M.C.s, .slice p.M.C.A p.M.C.n p.M.C.c, .int .i64 p.M.C.e, .bool p.M.A.s, .slice p.M.A.A p.M.A.n p.M.A.c, .int .i64 p.M.A.e, .bool p.h, .int .i64 p.mn, .int .i64 p.mx, .slice p.A p.n p.c] ∧ Ma.PRows W 0 W.heap.size p ∧ ∀ x, x < 4 → (p.M.get x).n ≤ (p.M.get x).c := by
  obtain ⟨y0, y1, y2, n, hx, hl, h0, h1, h2⟩ := trod_struct3 Tryz.underlying30 h
  match cs, hl.trans (show Tryz.prog.cellsOf 30 = 16 by kernel_rfl) with
  | [c0, c1, c2, c3, c4, c5, c6, c7, c8, c9, c10, c11, c12, c13, c14, c15], _ =>
    have hx2 : x.2 = y0.2 ++ (y1.2 ++ y2.2) := by rw [hx]
    have C1 : Tryz.prog.cellsOf 26 = 12 := by kernel_rfl
    have C2 : Tryz.prog.cellsOf 28 = 3 := by kernel_rfl
    have C3 : Tryz.prog.cellsOf 22 = 1 := by kernel_rfl
    simp only [C1, C2, C3, List.drop_zero, List.take_succ_cons, List.take_zero, List.drop_succ_cons] at h0 h1 h2
    obtain ⟨m, em, rm, cm⟩ := mass_trodP h0 (fun b off hm => hfz b off (by simp [hx2, hm])) (fun q hq => hlt q (by simp [hx2, hq]))
    obtain ⟨b, z, u, rfl, rfl, rfl⟩ := edge_trod h1
    obtain ⟨A, n', c, xs, rfl, _, hI⟩ := ints_trod Tryz.underlying22 Tryz.underlying48 (by kernel_rfl) h2 (fun b off hm => hfz b off (by simp [hx2, hm])) (fun q hq => hlt q (by simp [hx2, hq]))
    simp only [List.cons.injEq, and_true] at em
    obtain ⟨rfl, rfl, rfl, rfl, rfl, rfl, rfl, rfl, rfl, rfl, rfl, rfl⟩ := em
    exact ⟨⟨m, b, z, u, A, n', c, xs⟩, rfl, ⟨rm, hI⟩, cm⟩
set_option maxRecDepth 100000 in
/-- A part among the arguments. -/
theorem part_open {r : Reach} {b0 : Nat} {v : Value} {d : DataW H} {p : List MemPlace}
    (hval : Value.okWide Tryz.prog W r b0 30 v) (h : DataW.Trod enc Tryz.prog W 0 (fun _ => true) true 30 v d p) (hfz : ∀ b off, MemPlace.cell b off ∈ p → W.frozen? ⟨b, off, none⟩ = false) (hlt : ∀ q ∈ p, q.block < W.heap.size) :
    ∃ p : Ma.Pv, v = .agg #[.bool p.M.S.s, .slice p.M.S.A p.M.S.n p.M.S.c, .int .i64 p.M.S.e, .bool p.M.W.s, .slice p.M.W.A p.M.W.n p.M.W.c, .int .i64 p.M.W.e, .bool p.M.C.s, .slice p.M.C.A p.M.C.n p.M.C.c, .int .i64 p.M.C.e, .bool p.M.A.s, .slice p.M.A.A p.M.A.n p.M.A.c, .int .i64 p.M.A.e, .bool p.h, .int .i64 p.mn, .int .i64 p.mx, .slice p.A p.n p.c] ∧ Ma.PRows W 0 W.heap.size p := by
  obtain ⟨cs, rfl, hsz⟩ := okWide_struct Tryz.underlying30 hval
  obtain ⟨cs⟩ := cs
  obtain ⟨fuel, hf⟩ := h
  simp only [Value.cells] at hf
  obtain ⟨p, e, hR, _⟩ := part_trod hf hfz hlt
  subst e
  exact ⟨p, rfl, hR⟩
end
end Go.Proofs.YtmbppgjhdcmckaaGreatDoor
