/- Dyads among the arguments. -/
/- Masses among the arguments. -/
/- A mass is stored into an own list (printed by a program of mine). -/
/- How far numbers are apart: no program in sight. -/
/- What a statement behind the door asks beside its walk: the table of bits.TrailingZeros32 lies in its variable; dyads among the arguments. -/
/- push.none, push.faulty, push.Check: walks (printed by a program of mine). -/
/- Shares: what is kept, sent and taken, in numbers. No program in sight. -/
/- push.Give: walks (printed by a program of mine). -/
import Derived.Lib.SmallJoins
import Derived.Deep.SlicePairs
import Derived.Test.YtbbnbgllgomolaaDoorBh14
import Derived.Test.YtbbnbgllgomolaaDoorBh01
import Derived.Test.YtbbnbgllgomolaaDoorBh10
import Derived.Test.YtbbnbgllgomolaaDoorRows
import Derived.LaidMore
import Derived.OpenShut
import Derived.Stop.Joined
import Derived.Test.YtbbnbgllgomolaaDoorBh07
import Derived.Deep.Cut
import Derived.Laws.StructEq
import Derived.Test.YtbbnbgllgomolaaDoorBh06
import Derived.Test.YtbbnbgllgomolaaDoorBh05
import Derived.Test.YtbbnbgllgomolaaDoorBh09
import Derived.Test.YtbbnbgllgomolaaDoorBh12
import Derived.Test.YtbbnbgllgomolaaDoorBh03
namespace Go.Proofs.YtbbnbgllgomolaaDoor
open Go.ChangeShapes Go.WideShapes Go.ChangeAt Go.RowKit Go.Joins Go.Deep
section
variable {H : Type} {enc : TypeId × Value → H} {P : Program} {W W' : World}
theorem ints_trod {t e : TypeId} {k : IntKind} {fuel : Nat} {v : Value} {x : DataW H × List MemPlace} (ht : P.underlying t = some (.slice e)) (he : P.underlying e = some (.int k)) (hc : P.cellsOf e = 1)
    (h : DataW.trod enc P W 0 (fun _ => true) true fuel t [v] = some x) (hfz : ∀ b off, MemPlace.cell b off ∈ x.2 → W.frozen? ⟨b, off, none⟩ = false) (hlt : ∀ q ∈ x.2, q.block < W.heap.size) :
    ∃ A n c xs, v = .slice A n c ∧ n ≤ c ∧ Ints W 0 W.heap.size k A n xs := by
  rcases open_ints ht he hc h with ⟨hcs, hx⟩ | ⟨a, len, cap, zs, hcs, _, hl, hm, hz, hx, hcell, hwz⟩
  · injection hcs with hcs
    exact ⟨none, 0, 0, [], hcs, Nat.le_refl _, Ints.nil_ ..⟩
  · injection hcs with hcs
    simp only [if_true] at hz
    refine ⟨some a, len, cap, zs.take len, hcs, hl, by simp; omega, fun y hy => ?_, by unfold maxLen at hm; omega, fun h0 => ?_⟩
    · have := hwz y (List.mem_of_mem_take hy)
      simpa [Lit.wf] using this
    · obtain ⟨b, off, spot⟩ := a
      have hspot : spot = none := by simpa [Addr.add] using World.cell?_spot (hcell 0 (by omega))
      subst hspot
      have hmem : ∀ j, j < len → MemPlace.cell b (off + j) ∈ x.2 := fun j hj => by
        rw [hx]
        exact MemPlace.mem_row.2 ⟨j, by omega, rfl⟩
      refine ⟨b, off, rfl, Nat.zero_le _, hlt _ (hmem 0 h0), fun j hj => ⟨?_, hfz _ _ (hmem j hj)⟩⟩
      have := hcell j (by omega)
      rw [add_plain] at this
      rw [this, List.getElem?_take, if_pos hj]
      simp [List.getD]
end
end Go.Proofs.YtbbnbgllgomolaaDoor
namespace Go.Proofs.YtbbnbgllgomolaaDoor
open Go.ChangeShapes Go.WideShapes Go.ChangeAt Go.RowKit Go.Joins Go.Deep
section
variable {H : Type} {enc : TypeId × Value → H} {P : Program} {W W' : World}
theorem dv_trod {td e : TypeId} {k0 k1 k2 : Field} {fuel : Nat} {c0 c1 c2 : Value} {x : DataW H × List MemPlace} (hs : P.underlying td = some (.struct #[k0, k1, k2])) (hone : oneCellFields P #[k0, k1, k2] = true)
    (v0 : P.underlying k0.type = some .bool) (ht : P.underlying k1.type = some (.slice e)) (he : P.underlying e = some (.int .u32)) (hc : P.cellsOf e = 1) (v2 : P.underlying k2.type = some (.int .i64))
    (h : DataW.trod enc P W 0 (fun _ => true) true fuel td [c0, c1, c2] = some x) (hfz : ∀ b off, MemPlace.cell b off ∈ x.2 → W.frozen? ⟨b, off, none⟩ = false) (hlt : ∀ q ∈ x.2, q.block < W.heap.size) :
    ∃ d : Ma.Dv, c0 = .bool d.s ∧ c1 = .slice d.A d.n d.c ∧ c2 = .int .i64 d.e ∧ d.n ≤ d.c ∧ d.Row W 0 W.heap.size := by
  obtain ⟨y0, y1, y2, n, hx, _, h0, h1, h2⟩ := trod_struct3 hs h
  obtain ⟨o0, q0⟩ := hone_of hone 0 k0 rfl
  obtain ⟨o1, q1⟩ := hone_of hone 1 k1 rfl
  obtain ⟨o2, q2⟩ := hone_of hone 2 k2 rfl
  simp only [o0, q0, o1, q1, o2, q2, List.drop_zero, List.take_succ_cons, List.take_zero, List.drop_succ_cons] at h0 h1 h2
  obtain ⟨s, e0, _⟩ := DataW.trod_bool v0 h0
  obtain ⟨z, e2, _, z2⟩ := DataW.trod_int v2 h2
  injection e0 with e0
  injection e2 with e2
  have hx2 : x.2 = y0.2 ++ (y1.2 ++ y2.2) := by rw [hx]
  obtain ⟨A, n', c, xs, e1, hc', hI⟩ := ints_trod ht he hc h1 (fun b off hm => hfz b off (by simp [hx2, hm])) (fun q hq => hlt q (by simp [hx2, hq]))
  exact ⟨⟨s, A, n', c, z, xs⟩, e0, e1, e2, hc', hI⟩
/-- A mass among the arguments. -/
theorem mass_open {r : Reach} {b0 : Nat} {t td e : TypeId} {f0 f1 f2 f3 k0 k1 k2 : Field} {v : Value} {d : DataW H} {p : List MemPlace} (hs : P.underlying t = some (.struct #[f0, f1, f2, f3]))
    (hoff : (f0.offset, f1.offset, f2.offset, f3.offset) = (0, 3, 6, 9)) (hty : (f0.type, f1.type, f2.type, f3.type) = (td, td, td, td)) (hC : P.cellsOf t = 12)
    (hd : P.underlying td = some (.struct #[k0, k1, k2])) (hone : oneCellFields P #[k0, k1, k2] = true) (hC3 : P.cellsOf td = 3)
    (v0 : P.underlying k0.type = some .bool) (ht : P.underlying k1.type = some (.slice e)) (he : P.underlying e = some (.int .u32)) (hc : P.cellsOf e = 1) (v2 : P.underlying k2.type = some (.int .i64))
    (hval : Value.okWide P W r b0 t v) (h : DataW.Trod enc P W 0 (fun _ => true) true t v d p) (hfz : ∀ b off, MemPlace.cell b off ∈ p → W.frozen? ⟨b, off, none⟩ = false) (hlt : ∀ q ∈ p, q.block < W.heap.size) :
    ∃ m : Ma.Mv, v = .agg #[.bool m.S.s, .slice m.S.A m.S.n m.S.c, .int .i64 m.S.e, .bool m.W.s, .slice m.W.A m.W.n m.W.c, .int .i64 m.W.e, .bool m.C.s, .slice m.C.A m.C.n m.C.c, .int .i64 m.C.e, .bool m.A.s, .slice m.A.A m.A.n m.A.c, .int .i64 m.A.e] ∧
      (m.S.n ≤ m.S.c ∧ m.W.n ≤ m.W.c ∧ m.C.n ≤ m.C.c ∧ m.A.n ≤ m.A.c) ∧ Ma.MRows W 0 W.heap.size m := by
  simp only [Prod.mk.injEq] at hoff hty
  obtain ⟨a0, a1, a2, a3⟩ := hoff
  obtain ⟨t0, t1, t2, t3⟩ := hty
  obtain ⟨cs, rfl, hsz⟩ := okWide_struct hs hval
  obtain ⟨cs⟩ := cs
  match cs, hsz.trans hC with
  | [c0, c1, c2, c3, c4, c5, c6, c7, c8, c9, c10, c11], _ =>
    obtain ⟨fuel, hf⟩ := h
    obtain ⟨y0, y1, y2, y3, n, hx, _, h0, h1, h2, h3⟩ := trod_struct4 hs hf
    simp only [Prod.mk.injEq] at hx
    obtain ⟨_, rfl⟩ := hx
    simp only [Value.cells, a0, a1, a2, a3, t0, t1, t2, t3, hC3, List.drop_zero, List.take_succ_cons, List.take_zero, List.drop_succ_cons] at h0 h1 h2 h3
    obtain ⟨d0, rfl, rfl, rfl, n0, r0⟩ := dv_trod hd hone v0 ht he hc v2 h0 (fun b off hm => hfz b off (by simp [hm])) (fun q hq => hlt q (by simp [hq]))
    obtain ⟨d1, rfl, rfl, rfl, n1, r1⟩ := dv_trod hd hone v0 ht he hc v2 h1 (fun b off hm => hfz b off (by simp [hm])) (fun q hq => hlt q (by simp [hq]))
    obtain ⟨d2, rfl, rfl, rfl, n2, r2⟩ := dv_trod hd hone v0 ht he hc v2 h2 (fun b off hm => hfz b off (by simp [hm])) (fun q hq => hlt q (by simp [hq]))
    obtain ⟨d3, rfl, rfl, rfl, n3, r3⟩ := dv_trod hd hone v0 ht he hc v2 h3 (fun b off hm => hfz b off (by simp [hm])) (fun q hq => hlt q (by simp [hq]))
    exact ⟨⟨d0, d1, d2, d3⟩, rfl, ⟨n0, n1, n2, n3⟩, ⟨r0, r1, r2, r3⟩⟩
end
end Go.Proofs.YtbbnbgllgomolaaDoor
namespace Go.Proofs.YtbbnbgllgomolaaDoor
open Go.RowKit
namespace Ma
open Dp Dy
def sets12 (xs : List Value) (o : Nat) (m : Mv) : List Value := ((((((((((((xs.set (o) (.bool m.S.s)).set (o + 1) (.slice m.S.A m.S.n m.S.c)).set (o + 2) (.int .i64 m.S.e)).set (o + 3) (.bool m.W.s)).set (o + 4) (.slice m.W.A m.W.n m.W.c)).set (o + 5) (.int .i64 m.W.e)).set (o + 6) (.bool m.C.s)).set (o + 7) (.slice m.C.A m.C.n m.C.c)).set (o + 8) (.int .i64 m.C.e)).set (o + 9) (.bool m.A.s)).set (o + 10) (.slice m.A.A m.A.n m.A.c)).set (o + 11) (.int .i64 m.A.e))
theorem sets12_app (l xs : List Value) (o : Nat) (m : Mv) : sets12 (l ++ xs) (l.length + o) m = l ++ sets12 xs o m := by
  unfold sets12
  simp only [Nat.add_assoc, List.set_append_right _ _ (Nat.le_add_right _ _), Nat.add_sub_cancel_left]
theorem sets12_head (a m : Mv) (xs : List Value) : sets12 (cells12 a ++ xs) 0 m = cells12 m ++ xs := rfl
theorem flatM_set : ∀ (l : List Mv) (q : Nat) (m : Mv), q < l.length → flatM (l.set q m) = sets12 (flatM l) (q * 12) m
  | [], q, m, h => absurd h (Nat.not_lt_zero _)
  | a :: l, 0, m, _ => by
    show cells12 m ++ flatM l = _
    rw [Nat.zero_mul]
    exact (sets12_head a m (flatM l)).symm
  | a :: l, q + 1, m, h => by
    have ih := flatM_set l q m (by simpa using h)
    have e : (q + 1) * 12 = (cells12 a).length + q * 12 := by simp [cells12]; omega
    show cells12 a ++ flatM (l.set q m) = sets12 (cells12 a ++ flatM l) ((q + 1) * 12) m
    rw [e, sets12_app, ih]
/-- A mass is stored. -/
theorem OwnM.put {w : World} {base g o n c : Nat} {ms : List Mv} (h : OwnM w base (.slice (some ⟨g, o, none⟩) n c) n ms) (ho : o = 0) {q : Nat} (hq : q < ms.length) (m : Mv) (hm : MRows w 0 w.heap.size m) (hoff : m.off (some g)) :
    ∃ U, ((((((((((((w.setCell ⟨g, o + q * 12, none⟩ (.bool m.S.s)).setCell ⟨g, o + q * 12 + 1, none⟩ (.slice m.S.A m.S.n m.S.c)).setCell ⟨g, o + q * 12 + 2, none⟩ (.int .i64 m.S.e)).setCell ⟨g, o + q * 12 + 3, none⟩ (.bool m.W.s)).setCell ⟨g, o + q * 12 + 4, none⟩ (.slice m.W.A m.W.n m.W.c)).setCell ⟨g, o + q * 12 + 5, none⟩ (.int .i64 m.W.e)).setCell ⟨g, o + q * 12 + 6, none⟩ (.bool m.C.s)).setCell ⟨g, o + q * 12 + 7, none⟩ (.slice m.C.A m.C.n m.C.c)).setCell ⟨g, o + q * 12 + 8, none⟩ (.int .i64 m.C.e)).setCell ⟨g, o + q * 12 + 9, none⟩ (.bool m.A.s)).setCell ⟨g, o + q * 12 + 10, none⟩ (.slice m.A.A m.A.n m.A.c)).setCell ⟨g, o + q * 12 + 11, none⟩ (.int .i64 m.A.e)) = U ∧ OwnM U base (.slice (some ⟨g, o, none⟩) n c) n (ms.set q m) ∧ (∀ w0 B, Below B w0 w → B ≤ g → Below B w0 U) ∧ (∀ j, j ≠ g → U.heap[j]? = w.heap[j]?) ∧ U.heap.size ≤ w.heap.size ∧ w.heap.size ≤ U.heap.size := by
  subst ho
  refine ⟨_, rfl, ?_, ?_, ?_, ?_, ?_⟩
  · have e : ∀ (x : Nat), 0 + x = x := Nat.zero_add
    have hown := h.own
    have k1 := World.ownsRow.stored hown (q * 12) (.bool m.S.s)
    have k2 := World.ownsRow.stored k1.1 (q * 12 + 1) (.slice m.S.A m.S.n m.S.c)
    have k3 := World.ownsRow.stored k2.1 (q * 12 + 2) (.int .i64 m.S.e)
    have k4 := World.ownsRow.stored k3.1 (q * 12 + 3) (.bool m.W.s)
    have k5 := World.ownsRow.stored k4.1 (q * 12 + 4) (.slice m.W.A m.W.n m.W.c)
    have k6 := World.ownsRow.stored k5.1 (q * 12 + 5) (.int .i64 m.W.e)
    have k7 := World.ownsRow.stored k6.1 (q * 12 + 6) (.bool m.C.s)
    have k8 := World.ownsRow.stored k7.1 (q * 12 + 7) (.slice m.C.A m.C.n m.C.c)
    have k9 := World.ownsRow.stored k8.1 (q * 12 + 8) (.int .i64 m.C.e)
    have k10 := World.ownsRow.stored k9.1 (q * 12 + 9) (.bool m.A.s)
    have k11 := World.ownsRow.stored k10.1 (q * 12 + 10) (.slice m.A.A m.A.n m.A.c)
    have k12 := World.ownsRow.stored k11.1 (q * 12 + 11) (.int .i64 m.A.e)
    have hg : w.grownBy ((((((((((((w.setCell ⟨g, q * 12, none⟩ (.bool m.S.s)).setCell ⟨g, q * 12 + 1, none⟩ (.slice m.S.A m.S.n m.S.c)).setCell ⟨g, q * 12 + 2, none⟩ (.int .i64 m.S.e)).setCell ⟨g, q * 12 + 3, none⟩ (.bool m.W.s)).setCell ⟨g, q * 12 + 4, none⟩ (.slice m.W.A m.W.n m.W.c)).setCell ⟨g, q * 12 + 5, none⟩ (.int .i64 m.W.e)).setCell ⟨g, q * 12 + 6, none⟩ (.bool m.C.s)).setCell ⟨g, q * 12 + 7, none⟩ (.slice m.C.A m.C.n m.C.c)).setCell ⟨g, q * 12 + 8, none⟩ (.int .i64 m.C.e)).setCell ⟨g, q * 12 + 9, none⟩ (.bool m.A.s)).setCell ⟨g, q * 12 + 10, none⟩ (.slice m.A.A m.A.n m.A.c)).setCell ⟨g, q * 12 + 11, none⟩ (.int .i64 m.A.e)) (some g) := (((((((((((k1.2.trans k2.2).trans k3.2).trans k4.2).trans k5.2).trans k6.2).trans k7.2).trans k8.2).trans k9.2).trans k10.2).trans k11.2).trans k12.2)
    have hrows : ∀ y ∈ ms.set q m, MRows w 0 w.heap.size y ∧ y.off (some g) := fun y hy => by
      rcases List.mem_or_eq_of_mem_set hy with hy | rfl
      · exact ⟨h.rows y hy, h.off y hy⟩
      · exact ⟨hm, hoff⟩
    simp only [e]
    exact ⟨by rw [flatM_set ms q m hq]; exact k12.1, by simp [h.len], fun y hy => rows_grown (hrows y hy).1 hg (hrows y hy).2, fun y hy => (hrows y hy).2⟩
  · intro w0 B hb hg
    exact ((((((((((((hb.setCell hg _).setCell hg _).setCell hg _).setCell hg _).setCell hg _).setCell hg _).setCell hg _).setCell hg _).setCell hg _).setCell hg _).setCell hg _).setCell hg _)
  · intro j hj
    exact ((Below.heap_setCell _ _ _ _ hj).trans ((Below.heap_setCell _ _ _ _ hj).trans ((Below.heap_setCell _ _ _ _ hj).trans ((Below.heap_setCell _ _ _ _ hj).trans ((Below.heap_setCell _ _ _ _ hj).trans ((Below.heap_setCell _ _ _ _ hj).trans ((Below.heap_setCell _ _ _ _ hj).trans ((Below.heap_setCell _ _ _ _ hj).trans ((Below.heap_setCell _ _ _ _ hj).trans ((Below.heap_setCell _ _ _ _ hj).trans ((Below.heap_setCell _ _ _ _ hj).trans (Below.heap_setCell _ _ _ _ hj))))))))))))
  · simp [World.setCell]
  · simp [World.setCell]
end Ma
end Go.Proofs.YtbbnbgllgomolaaDoor
namespace Go.Proofs.YtbbnbgllgomolaaDoor
namespace Ma
open Dp Dy
/-- One more number: the least and the greatest one. -/
def stepE : Option (Dn × Dn) → Dn → Option (Dn × Dn)
  | none, x => some (x, x)
  | some (lo, hi), x => some (if cmpD x lo < 0 then x else lo, if 0 < cmpD x hi then x else hi)
end Ma
end Go.Proofs.YtbbnbgllgomolaaDoor
namespace Go.Proofs.YtbbnbgllgomolaaDoor
open Go.ChangeShapes Go.WideShapes Go.ChangeAt Go.RowKit Go.Joins
theorem Tryd.laidOut : laidOutB Tryd.prog = true := by kernel_rfl
namespace Dy
theorem ownKnob_ : ownKnob Tryd.prog.godebug = none := by kernel_rfl
theorem gTab : Tryd.prog.globalNamed "math/bits.deBruijn32tab" = some 0 := by kernel_rfl
theorem tTab : (Tryd.prog.globals[0]?).map (·.type) = some 120 := by kernel_rfl
abbrev laidT : List (String × DataW Unit) := [("math/bits.deBruijn32tab", Rows.laid_math_bits_deBruijn32tab)]
theorem laid_list : (Rows.laid_math_bits_deBruijn32tab : DataW Unit) = .agg (Lib.deBruijn32tab.map fun n => .lit (.int .u8 (n : Nat))) := rfl
/-- The door's own heap meets the condition. -/
theorem door_met (os : Os) (args : Array Value) : laidMetH Tryd.prog laidT ((World.doorLaid Tryd.prog 400 os).forCall (fun _ _ => 0) ⟨#[], args, []⟩).memory :=
  laidMetH_of_parts3 (fuel := 8) (laidMet_of_run' 8 (by kernel_rfl) (by kernel_rfl)) (by kernel_rfl) (by kernel_rfl)
theorem door_shaped (os : Os) (args : Array Value) : ((World.doorLaid Tryd.prog 400 os).forCall (fun _ _ => 0) ⟨#[], args, []⟩).Shaped Tryd.prog := World.shaped_of_RefB (by kernel_rfl) (by kernel_rfl)
theorem tab_cells {H : Type} {enc : TypeId × Value → H} {W : World} {fuel : Nat} {cs : List Value} {d : DataW H} {p : List MemPlace} {held : Bool} {spare : Nat → Bool} (l : List Nat) (hd : d = .agg (l.map fun n => .lit (.int .u8 (n : Nat))))
    (h : DataW.trod enc Tryd.prog W 0 spare held fuel 120 cs = some (d, p)) : ∀ j, j < 32 → cs[j]? = some (.int .u8 (l.getD j 0)) := by
  intro j hj
  obtain ⟨xs, m1, rfl, hx1, hlen, hn3, hel⟩ := DataW.trod_array Tryd.underlying120 h
  have c3 : Tryd.prog.cellsOf 5 = 1 := by kernel_rfl
  have h0 := hel j hj
  rw [c3] at h0
  have hxj : j < xs.length := by omega
  rw [List.getElem?_eq_getElem hxj] at h0
  obtain ⟨k, e1, e2, _⟩ := DataW.trod_int Tryd.underlying5 h0
  simp only [Prod.mk.injEq] at hx1
  rw [hd] at hx1
  simp only [DataW.agg.injEq] at hx1
  have hmap := congrArg (fun t => t[j]?) hx1.1
  simp only [List.getElem?_map] at hmap
  rw [List.getElem?_eq_getElem hxj] at hmap
  simp only [Option.map_some, e2] at hmap
  cases hlj : l[j]? with
  | none => rw [hlj] at hmap; cases hmap
  | some v =>
    rw [hlj] at hmap
    simp only [Option.map_some, Option.some.injEq, DataW.lit.injEq, Lit.int.injEq, true_and] at hmap
    have hg : l.getD j 0 = v := by simp [List.getD, hlj]
    rw [hg, hmap]
    have := congrArg (fun t => t[0]?) e1
    simpa using this
/-- What the condition gives a walk. -/
theorem tab_of_laid {W : World} (h : laidMetH Tryd.prog laidT W) : Tab W := by
  rw [MakeChecks.laidMetH_plain _ _ _ (by kernel_rfl)] at h
  obtain ⟨ps, ⟨g0, t0, cs0, f0, p0, q0, hg0, ht0, hv0, hd0, _, _⟩, _, _⟩ := h
  obtain rfl := Option.some.inj (gTab.symm.trans hg0)
  obtain rfl := Option.some.inj (tTab.symm.trans ht0)
  refine ⟨fun j hj => ?_⟩
  have h1 := tab_cells Lib.deBruijn32tab laid_list hd0 j hj
  have h2 := World.var?_cell hg0 hv0 j
  rw [h2]
  simpa using h1
end Dy
end Go.Proofs.YtbbnbgllgomolaaDoor
namespace Go.Proofs.YtbbnbgllgomolaaDoor
open Go.RowKit
namespace Ma
open Dp Dy
/-- A share that may be. -/
def Mv.share (m : Mv) : Prop := m.may ∧ m.W.s = false ∧ (m.W.n = 0 → m.S.n = 0)
open Classical in
noncomputable def badS (ms : List Mv) : Bool := decide (∃ m ∈ ms, ¬ m.share)
open Classical in
theorem badS_yes {ms : List Mv} {m : Mv} (hm : m ∈ ms) (h : ¬ m.share) : badS ms = true := by
  unfold badS
  exact decide_eq_true ⟨m, hm, h⟩
open Classical in
theorem badS_no {ms : List Mv} (h : ∀ m ∈ ms, m.share) : badS ms = false := by
  unfold badS
  exact decide_eq_false fun ⟨m, hm, hn⟩ => hn (h m hm)
set_option maxHeartbeats 3200000 in
/-- push.none. -/
theorem none_any (w : World) (s : Bool) (A : Option Addr) (n c : Nat) (e : Int) (b : Bool) (hb : decide (n = 0) = b) :
    Calls Tryd.prog 35 #[.agg #[.bool s, .slice A n c, .int .i64 e]] w fun e w' => e = .returned (.bool b) ∧ Below w.heap.size w w' := by
  have fin := (Below.refl w.heap.size w).alloc (Nat.le_refl _) (.cells #[.bool s, .slice A n c, .int .i64 e] 24)
  have B1 := heap_alloc_last w (.cells #[.bool s, .slice A n c, .int .i64 e] 24)
  generalize hw : w.alloc (.cells #[.bool s, .slice A n c, .int .i64 e] 24) = w1 at *
  obtain ⟨⟨p1, p2, p3⟩, p4, p5, p6⟩ := boxD B1
  by_cases h : n = 0
  · have hb' : b = true := by rw [← hb]; exact decide_eq_true h
    subst hb'
    subst h
    go_enter Tryd.func35, Tryd.ntmps35
    go_wp2
    go_ret
    exact ⟨rfl, fin⟩
  · have hb' : b = false := by rw [← hb]; exact decide_eq_false h
    subst hb'
    have hxb : ((n : Int) == 0) = false := by
      have : (n : Int) ≠ 0 := by omega
      simpa using this
    go_enter Tryd.func35, Tryd.ntmps35
    go_wp2
    go_ret
    exact ⟨rfl, fin⟩
set_option maxHeartbeats 12800000 in
set_option maxRecDepth 100000 in
/-- push.faulty. -/
theorem faulty_any (w : World) (A : Option Addr) (n c : Nat) (ms : List Mv) (hL : LMs w 0 w.heap.size A n ms) (hn : n ≤ 4096) (r : Bool) (hr : badS ms = r) :
    Calls Tryd.prog 34 #[.slice A n c] w fun e w' => e = .returned (.bool r) ∧ Below w.heap.size w w' := by
  have HL := Lib.hid hL.len
  have HRS := Lib.hid hr
  clear hr
  obtain ⟨i0, hi0, hz0, hz1, hz2⟩ := info_parts infoM
  go_enter Tryd.func34, Tryd.ntmps34
  go_wp2
  go_loopw [4, 7] (fun _ iv wr => ∃ i : Nat, iv = .int .i64 i ∧ i ≤ n ∧ Below w.heap.size w wr ∧ Hid (∀ j (h : j < ms.length), j < i → ms[j].share)) (fun _ iv _ => n - (intOf iv).toNat)
  case atStart => exact ⟨0, rfl, Nat.zero_le _, Below.refl _ _, Lib.hid fun j h hj => absurd hj (Nat.not_lt_zero _)⟩
  case round =>
    obtain ⟨i, rfl, hi1, hb, hall⟩ := hrel
    have hLr := hL.below hb (Nat.le_refl _)
    by_cases hlt : i < n
    · have hi2 : i < ms.length := by rw [HL.out]; exact hlt
      obtain ⟨b, off, hA, h1, h2, hc⟩ := hLr.row (by omega)
      have hci := hc i hi2
      have hri := hLr.rows i hi2
      obtain ⟨d, hd⟩ : ∃ d, ms[i] = d := ⟨_, rfl⟩
      rw [hd] at hci hri
      have HD := Lib.hid hd
      subst hA
      clear hd hc hLr
      have lb := hb.size
      obtain ⟨k0, k1, k2, k3, k4, k5, k6, k7, k8, k9, k10, k11⟩ := hci
      have hwr : IntKind.i64.wrap ((i : Int) + 1) = ((i + 1 : Nat) : Int) := by rw [IntKind.wrap_i64]; omega
      have hBL := (Below.refl wr.heap.size wr).alloc (Nat.le_refl _) (.cells #[.bool d.S.s, .slice d.S.A d.S.n d.S.c, .int .i64 d.S.e, .bool d.W.s, .slice d.W.A d.W.n d.W.c, .int .i64 d.W.e, .bool d.C.s, .slice d.C.A d.C.n d.C.c, .int .i64 d.C.e, .bool d.A.s, .slice d.A.A d.A.n d.A.c, .int .i64 d.A.e] 26)
      have hM2 : MBox (wr.alloc (.cells #[.bool d.S.s, .slice d.S.A d.S.n d.S.c, .int .i64 d.S.e, .bool d.W.s, .slice d.W.A d.W.n d.W.c, .int .i64 d.W.e, .bool d.C.s, .slice d.C.A d.C.n d.C.c, .int .i64 d.C.e, .bool d.A.s, .slice d.A.A d.A.n d.A.c, .int .i64 d.A.e] 26)) wr.heap.size d := heap_alloc_last _ _
      have hr2 : MRows (wr.alloc (.cells #[.bool d.S.s, .slice d.S.A d.S.n d.S.c, .int .i64 d.S.e, .bool d.W.s, .slice d.W.A d.W.n d.W.c, .int .i64 d.W.e, .bool d.C.s, .slice d.C.A d.C.n d.C.c, .int .i64 d.C.e, .bool d.A.s, .slice d.A.A d.A.n d.A.c, .int .i64 d.A.e] 26)) 0 (wr.alloc (.cells #[.bool d.S.s, .slice d.S.A d.S.n d.S.c, .int .i64 d.S.e, .bool d.W.s, .slice d.W.A d.W.n d.W.c, .int .i64 d.W.e, .bool d.C.s, .slice d.C.A d.C.n d.C.c, .int .i64 d.C.e, .bool d.A.s, .slice d.A.A d.A.n d.A.c, .int .i64 d.A.e] 26)).heap.size d := (hri.below hBL (by omega)).more (Nat.le_refl _) (by have := hBL.size; omega)
      have l2 : wr.heap.size < (wr.alloc (.cells #[.bool d.S.s, .slice d.S.A d.S.n d.S.c, .int .i64 d.S.e, .bool d.W.s, .slice d.W.A d.W.n d.W.c, .int .i64 d.W.e, .bool d.C.s, .slice d.C.A d.C.n d.C.c, .int .i64 d.C.e, .bool d.A.s, .slice d.A.A d.A.n d.A.c, .int .i64 d.A.e] 26)).heap.size := by simp
      generalize hw2 : wr.alloc (.cells #[.bool d.S.s, .slice d.S.A d.S.n d.S.c, .int .i64 d.S.e, .bool d.W.s, .slice d.W.A d.W.n d.W.c, .int .i64 d.W.e, .bool d.C.s, .slice d.C.A d.C.n d.C.c, .int .i64 d.C.e, .bool d.A.s, .slice d.A.A d.A.n d.A.c, .int .i64 d.A.e] 26) = w2 at *
      obtain ⟨⟨y0, y1, y2, y3, y4, y5, y6, y7, y8, y9, y10, y11⟩, yf⟩ := MBox.cells hM2
      obtain ⟨q, hq⟩ : ∃ q, chkM d = q := ⟨_, rfl⟩
      go_wp2_with fail
      refine (MCheck_any w2 d hr2 q hq).mono ?_
      rintro e w3 ⟨rfl, hB⟩
      clear k0 k1 k2 k3 k4 k5 k6 k7 k8 k9 k10 k11 y0 y1 y2 y3 y4 y5 y6 y7 y8 y9 y10 y11 yf hw2
      have hM3 : MBox w3 wr.heap.size d := box_on hM2 hB l2
      have b3 : Below w.heap.size w w3 := hb.trans ((later hBL hB).mono lb)
      have l3 := hB.size
      clear hB hBL hM2 hr2
      by_cases hm : d.may
      · have hq0 : q = 0 := hq.symm.trans (chk_may hm)
        subst hq0
        obtain ⟨⟨y0, y1, y2, y3, y4, y5, y6, y7, y8, y9, y10, y11⟩, yf⟩ := MBox.cells hM3
        cases hs : d.W.s
        · rw [hs] at y3
          have HS := Lib.hid hs
          clear hs
          by_cases hn0 : d.W.n = 0
          · have HN := Lib.hid hn0
            clear hn0
            go_wp2_with fail
            refine (none_any w3 false d.W.A d.W.n d.W.c d.W.e true (decide_eq_true HN.out)).mono ?_
            rintro e w4 ⟨rfl, hB⟩
            have hM4 : MBox w4 wr.heap.size d := box_on hM3 hB (by omega)
            have b4 := b3.trans (hB.mono b3.size)
            clear y0 y1 y2 y3 y4 y5 y6 y7 y8 y9 y10 y11 yf hB
            obtain ⟨⟨y0, y1, y2, y3, y4, y5, y6, y7, y8, y9, y10, y11⟩, yf⟩ := MBox.cells hM4
            by_cases hn1 : d.S.n = 0
            · have HN1 := Lib.hid hn1
              clear hn1
              go_wp2_with fail
              refine (none_any w4 d.S.s d.S.A d.S.n d.S.c d.S.e true (decide_eq_true HN1.out)).mono ?_
              rintro e w5 ⟨rfl, hB⟩
              have b5 := b4.trans (hB.mono b4.size)
              clear y0 y1 y2 y3 y4 y5 y6 y7 y8 y9 y10 y11 yf hB
              go_wp2
              go_roundw
              case rel => exact ⟨i + 1, by first | rfl | (congr 1; omega) | go_num, by omega, b5, Lib.hid fun j hj hji => by
                by_cases e : j = i
                · subst e
                  rw [HD.out]
                  exact ⟨hm, HS.out, fun _ => HN1.out⟩
                · exact hall.out j hj (by omega)⟩
              case measure => first | (simp [intOf]; done) | (simp [intOf]; omega)
            · have HN1 := Lib.hid hn1
              clear hn1
              go_wp2_with fail
              refine (none_any w4 d.S.s d.S.A d.S.n d.S.c d.S.e false (decide_eq_false HN1.out)).mono ?_
              rintro e w5 ⟨rfl, hB⟩
              have b5 := b4.trans (hB.mono b4.size)
              have hr1 : r = true := by rw [← HRS.out]; exact badS_yes (List.getElem_mem hi2) (by rw [HD.out]; exact fun h => HN1.out (h.2.2 HN.out))
              subst hr1
              clear y0 y1 y2 y3 y4 y5 y6 y7 y8 y9 y10 y11 yf hB
              go_wp2
              go_ret
              exact ⟨rfl, b5⟩
          · have HN := Lib.hid hn0
            clear hn0
            go_wp2_with fail
            refine (none_any w3 false d.W.A d.W.n d.W.c d.W.e false (decide_eq_false HN.out)).mono ?_
            rintro e w4 ⟨rfl, hB⟩
            have b4 := b3.trans (hB.mono b3.size)
            clear y0 y1 y2 y3 y4 y5 y6 y7 y8 y9 y10 y11 yf hB
            go_wp2
            go_roundw
            case rel => exact ⟨i + 1, by first | rfl | (congr 1; omega) | go_num, by omega, b4, Lib.hid fun j hj hji => by
              by_cases e : j = i
              · subst e
                rw [HD.out]
                exact ⟨hm, HS.out, fun h => absurd h HN.out⟩
              · exact hall.out j hj (by omega)⟩
            case measure => first | (simp [intOf]; done) | (simp [intOf]; omega)
        · have hr1 : r = true := by rw [← HRS.out]; exact badS_yes (List.getElem_mem hi2) (by rw [HD.out]; exact fun h => by have := h.2.1; rw [hs] at this; cases this)
          subst hr1
          rw [hs] at y3
          clear hs
          go_wp2
          go_ret
          exact ⟨rfl, b3⟩
      · have hq0 : q = 8 := hq.symm.trans (chk_not hm)
        subst hq0
        have hr1 : r = true := by rw [← HRS.out]; exact badS_yes (List.getElem_mem hi2) (by rw [HD.out]; exact fun h => hm h.1)
        subst hr1
        go_wp2
        go_ret
        exact ⟨rfl, b3⟩
    · have hr0 : r = false := by
        rw [← HRS.out]
        refine badS_no fun m hm => ?_
        obtain ⟨j, hj, rfl⟩ := List.getElem_of_mem hm
        exact hall.out j hj (by have := HL.out; omega)
      subst hr0
      go_wp2
      go_ret
      exact ⟨rfl, hb⟩
/-- A list of one mass, in a block of its own. -/
theorem lm_one {w : World} {g : Nat} {m : Mv} (h : MBox w g m) (hr : MRows w 0 w.heap.size m) : LMs w 0 w.heap.size (some ⟨g, 0, none⟩) 1 [m] := by
  refine ⟨rfl, by decide, fun _ => ⟨g, 0, rfl, Nat.zero_le _, (Array.getElem?_eq_some_iff.1 h).1, fun j hj => ?_⟩, fun j hj => ?_⟩
  · obtain rfl : j = 0 := by simp at hj; omega
    obtain ⟨⟨y0, y1, y2, y3, y4, y5, y6, y7, y8, y9, y10, y11⟩, _⟩ := MBox.cells h
    exact ⟨y0, y1, y2, y3, y4, y5, y6, y7, y8, y9, y10, y11⟩
  · obtain rfl : j = 0 := by simp at hj; omega
    exact hr
set_option maxHeartbeats 12800000 in
set_option maxRecDepth 100000 in
/-- push.Check. -/
theorem PCheck_any (w : World) (m : Mv) (hR : MRows w 0 w.heap.size m) (b : Bool) (hb : badS [m] = b) :
    Calls Tryd.prog 16 #[.agg #[.bool m.S.s, .slice m.S.A m.S.n m.S.c, .int .i64 m.S.e, .bool m.W.s, .slice m.W.A m.W.n m.W.c, .int .i64 m.W.e, .bool m.C.s, .slice m.C.A m.C.n m.C.c, .int .i64 m.C.e, .bool m.A.s, .slice m.A.A m.A.n m.A.c, .int .i64 m.A.e]] w fun e w' => e = .returned (.int .i64 (if b then 8 else 0)) ∧ Below w.heap.size w w' := by
  have HB := Lib.hid hb
  clear hb
  have M0 : MBox (w.alloc (.cells #[.bool m.S.s, .slice m.S.A m.S.n m.S.c, .int .i64 m.S.e, .bool m.W.s, .slice m.W.A m.W.n m.W.c, .int .i64 m.W.e, .bool m.C.s, .slice m.C.A m.C.n m.C.c, .int .i64 m.C.e, .bool m.A.s, .slice m.A.A m.A.n m.A.c, .int .i64 m.A.e] 26)) w.heap.size m := heap_alloc_last _ _
  obtain ⟨⟨y0, y1, y2, y3, y4, y5, y6, y7, y8, y9, y10, y11⟩, yf⟩ := MBox.cells M0
  generalize hw : (w.alloc (.cells #[.bool m.S.s, .slice m.S.A m.S.n m.S.c, .int .i64 m.S.e, .bool m.W.s, .slice m.W.A m.W.n m.W.c, .int .i64 m.W.e, .bool m.C.s, .slice m.C.A m.C.n m.C.c, .int .i64 m.C.e, .bool m.A.s, .slice m.A.A m.A.n m.A.c, .int .i64 m.A.e] 26)).alloc (.cells #[.bool m.S.s, .slice m.S.A m.S.n m.S.c, .int .i64 m.S.e, .bool m.W.s, .slice m.W.A m.W.n m.W.c, .int .i64 m.W.e, .bool m.C.s, .slice m.C.A m.C.n m.C.c, .int .i64 m.C.e, .bool m.A.s, .slice m.A.A m.A.n m.A.c, .int .i64 m.A.e] 26) = w1
  obtain ⟨M1, M2, b1, l1, l2⟩ := boxes2 w _ _ hw
  replace M2 : MBox w1 (w.heap.size + 1) m := M2
  have hR1 : MRows w1 0 w1.heap.size m := (hR.below b1 (Nat.le_refl _)).more (Nat.le_refl _) (by omega)
  clear M1 M0
  go_enter Tryd.func16, Tryd.ntmps16
  go_wp2_with fail
  try clear hw
  refine (faulty_any w1 (some ⟨w.heap.size + 1, 0, none⟩) 1 1 [m] (lm_one M2 hR1) (by decide) b HB.out).mono ?_
  rintro e w2 ⟨rfl, hB⟩
  have b2 := b1.trans (hB.mono (by omega))
  clear y0 y1 y2 y3 y4 y5 y6 y7 y8 y9 y10 y11 yf hB
  cases b
  · go_wp2
    go_ret
    exact ⟨rfl, b2⟩
  · go_wp2
    go_ret
    exact ⟨rfl, b2⟩
end Ma
end Go.Proofs.YtbbnbgllgomolaaDoor
namespace Go.Proofs.YtbbnbgllgomolaaDoor
open Go.RowKit
namespace Ma
open Dp Dy
open Classical in
/-- What is kept and sent of a share. -/
noncomputable def giveM (m : Mv) : ((Nat → Dn) × (Nat → Dn)) × Int :=
  if badS [m] = true then ((zR, zR), 8) else if m.W.n = 0 then ((zR, zR), 6) else splitM m
open Classical in
/-- What comes of taking. -/
noncomputable def takeM (m s : Mv) : (Nat → Dn) × Int :=
  if badS [m, s] = true then (zR, 8) else
    if (xAdd m s 0).2 = 0 ∧ (xAdd m s 1).2 = 0 then (fun x => if x = 0 then (xAdd m s 0).1 else if x = 1 then (xAdd m s 1).1 else dnM m x, 0) else (zR, 10)
theorem badS_one {m : Mv} : badS [m] = false ↔ m.share := by
  constructor
  · intro h
    exact Classical.byContradiction fun hn => by rw [badS_yes (List.mem_singleton.2 rfl) hn] at h; cases h
  · intro h
    exact badS_no fun x hx => by rw [List.mem_singleton.1 hx]; exact h
theorem badS_two {m s : Mv} : badS [m, s] = false ↔ m.share ∧ s.share := by
  constructor
  · intro h
    constructor
    · exact Classical.byContradiction fun hn => by rw [badS_yes (m := m) (by simp) hn] at h; cases h
    · exact Classical.byContradiction fun hn => by rw [badS_yes (m := s) (by simp) hn] at h; cases h
  · rintro ⟨h1, h2⟩
    refine badS_no fun x hx => ?_
    simp only [List.mem_cons, List.not_mem_nil, or_false] at hx
    rcases hx with rfl | rfl
    · exact h1
    · exact h2
theorem twin_share {a u : Mv} (h : ∀ x, x < 4 → TwinV (a.get x) (u.get x)) : u.share ↔ a.share := by
  obtain ⟨_, h2, _, _, _⟩ := h 0 (by decide)
  obtain ⟨k1, k2, _, _, _⟩ := h 1 (by decide)
  have s2 : u.S.n = a.S.n := h2
  have w1 : u.W.s = a.W.s := k1
  have w2 : u.W.n = a.W.n := k2
  unfold Mv.share
  rw [twin_may h, s2, w1, w2]
theorem twin_bad {a u : Mv} (h : ∀ x, x < 4 → TwinV (a.get x) (u.get x)) : badS [u] = badS [a] := by
  cases hb : badS [a]
  · exact badS_one.2 ((twin_share h).2 (badS_one.1 hb))
  · cases hu : badS [u]
    · rw [badS_one.2 ((twin_share h).1 (badS_one.1 hu))] at hb
      cases hb
    · rfl
theorem twin_bad2 {a u b v : Mv} (h : ∀ x, x < 4 → TwinV (a.get x) (u.get x)) (h' : ∀ x, x < 4 → TwinV (b.get x) (v.get x)) : badS [u, v] = badS [a, b] := by
  cases hb : badS [a, b]
  · exact badS_two.2 ⟨(twin_share h).2 (badS_two.1 hb).1, (twin_share h').2 (badS_two.1 hb).2⟩
  · cases hu : badS [u, v]
    · rw [badS_two.2 ⟨(twin_share h).1 (badS_two.1 hu).1, (twin_share h').1 (badS_two.1 hu).2⟩] at hb
      cases hb
    · rfl
theorem twin_give {a u : Mv} (h : ∀ x, x < 4 → TwinV (a.get x) (u.get x)) : giveM u = giveM a := by
  have w2 : u.W.n = a.W.n := (h 1 (by decide)).2.1
  unfold giveM
  rw [twin_bad h, w2, twin_split h]
theorem twin_take {a u b v : Mv} (h : ∀ x, x < 4 → TwinV (a.get x) (u.get x)) (h' : ∀ x, x < 4 → TwinV (b.get x) (v.get x)) : takeM u v = takeM a b := by
  have e : ∀ j, xAdd u v j = xAdd a b j := fun j => by
    obtain ⟨h1, _, h3, h4, _⟩ := twin_all h j
    obtain ⟨k1, _, k3, k4, _⟩ := twin_all h' j
    unfold xAdd
    rw [h1, h3, h4, k1, k3, k4]
  have ed : dnM u = dnM a := by
    funext j
    obtain ⟨g1, _, g3, g4, _⟩ := twin_all h j
    unfold dnM
    rw [g1, g3, g4]
  unfold takeM
  rw [twin_bad2 h h', e, e, ed]
theorem give_may {w : World} {lo hi : Nat} {m : Mv} (hR : MRows w lo hi m) {kR sR : Nat → Dn} {code : Int} (h : giveM m = ((kR, sR), code)) : MayR kR ∧ MayR sR := by
  unfold giveM at h
  split at h
  · injection h with h1 h2
    injection h1 with h1 h3
    subst h1 h3
    exact ⟨zR_may, zR_may⟩
  · split at h
    · injection h with h1 h2
      injection h1 with h1 h3
      subst h1 h3
      exact ⟨zR_may, zR_may⟩
    · exact splitM_may hR h
theorem take_may {w : World} {lo hi : Nat} {m s : Mv} (hR : MRows w lo hi m) {T : Nat → Dn} {code : Int} (h : takeM m s = (T, code)) : MayR T := by
  unfold takeM at h
  split at h
  · injection h with h1 h2
    subst h1
    exact zR_may
  · rename_i hb
    have hs := (badS_two.1 (by simpa using hb)).1
    split at h
    · injection h with h1 h2
      subst h1
      exact four (addX_may ..) (addX_may ..) (dnM_may hR hs.1 2 (by decide)) (dnM_may hR hs.1 3 (by decide))
    · injection h with h1 h2
      subst h1
      exact zR_may
/-- A share of which S and W are taken alone. -/
def cutM (s : Mv) : Mv := ⟨s.S, s.W, ZM.C, ZM.A⟩
theorem cutM_may {s : Mv} (h : s.may) : (cutM s).may := four (h 0 (by decide)) (h 1 (by decide)) (Is.zero.may zero_may) (Is.zero.may zero_may)
theorem cutM_rows {w : World} {lo hi : Nat} {s : Mv} (h : MRows w lo hi s) : MRows w lo hi (cutM s) := ⟨h.S, h.W, Ints.nil_ .., Ints.nil_ ..⟩
/-- To take is to add. -/
theorem take_add {w : World} {lo hi : Nat} {m s : Mv} (hR : MRows w lo hi m) (hb : badS [m, s] = false) {T : Nat → Dn} {code : Int} (h : takeM m s = (T, code)) :
    ∃ T', addM m (cutM s) = (T', code) ∧ ∀ x, x < 4 → T x = T' x := by
  obtain ⟨h1, h2⟩ := badS_two.1 hb
  have hI := IsM.of hR h1.1
  have hM := dnM_may hR h1.1
  have x0 : xAdd m (cutM s) 0 = xAdd m s 0 := rfl
  have x1 : xAdd m (cutM s) 1 = xAdd m s 1 := rfl
  have x2 : xAdd m (cutM s) 2 = (dnM m 2, 0) := ((hI 2 (by decide)).add Is.zero (hM 2 (by decide)) zero_may).trans (add_zero (hM 2 (by decide)))
  have x3 : xAdd m (cutM s) 3 = (dnM m 3, 0) := ((hI 3 (by decide)).add Is.zero (hM 3 (by decide)) zero_may).trans (add_zero (hM 3 (by decide)))
  unfold takeM at h
  rw [if_neg (by rw [hb]; simp)] at h
  unfold addM
  rw [if_pos ⟨h1.1, cutM_may h2.1⟩]
  by_cases hc : (xAdd m s 0).2 = 0 ∧ (xAdd m s 1).2 = 0
  · rw [if_pos hc] at h
    rw [if_pos (four (by rw [x0]; exact hc.1) (by rw [x1]; exact hc.2) (by rw [x2]) (by rw [x3]))]
    injection h with h3 h4
    subst h3 h4
    exact ⟨_, rfl, four rfl rfl (by show dnM m 2 = (xAdd m (cutM s) 2).1; rw [x2]) (by show dnM m 3 = (xAdd m (cutM s) 3).1; rw [x3])⟩
  · rw [if_neg hc] at h
    rw [if_neg fun k => hc ⟨by rw [← x0]; exact k 0 (by decide), by rw [← x1]; exact k 1 (by decide)⟩]
    injection h with h3 h4
    subst h3 h4
    exact ⟨_, rfl, fun _ _ => rfl⟩
end Ma
end Go.Proofs.YtbbnbgllgomolaaDoor
namespace Go.Proofs.YtbbnbgllgomolaaDoor
open Go.RowKit
namespace Ma
open Dp Dy
set_option maxHeartbeats 51200000 in
set_option maxRecDepth 100000 in
theorem Give_num (w : World) (m : Mv) (hR : MRows w 0 w.heap.size m) (hT : Tab w) (kR sR : Nat → Dn) (code : Int) (hg : giveM m = ((kR, sR), code)) :
    Calls Tryd.prog 11 #[.agg #[.bool m.S.s, .slice m.S.A m.S.n m.S.c, .int .i64 m.S.e, .bool m.W.s, .slice m.W.A m.W.n m.W.c, .int .i64 m.W.e, .bool m.C.s, .slice m.C.A m.C.n m.C.c, .int .i64 m.C.e, .bool m.A.s, .slice m.A.A m.A.n m.A.c, .int .i64 m.A.e]] w fun e w' => ∃ k s : Mv, e = .returned (.tuple #[.agg #[.bool k.S.s, .slice k.S.A k.S.n k.S.c, .int .i64 k.S.e, .bool k.W.s, .slice k.W.A k.W.n k.W.c, .int .i64 k.W.e, .bool k.C.s, .slice k.C.A k.C.n k.C.c, .int .i64 k.C.e, .bool k.A.s, .slice k.A.A k.A.n k.A.c, .int .i64 k.A.e], .agg #[.bool s.S.s, .slice s.S.A s.S.n s.S.c, .int .i64 s.S.e, .bool s.W.s, .slice s.W.A s.W.n s.W.c, .int .i64 s.W.e, .bool s.C.s, .slice s.C.A s.C.n s.C.c, .int .i64 s.C.e, .bool s.A.s, .slice s.A.A s.A.n s.A.c, .int .i64 s.A.e], .int .i64 code]) ∧ Below w.heap.size w w' ∧ IsM kR k ∧ IsM sR s ∧ ∃ B, w.heap.size ≤ B ∧ B ≤ w'.heap.size ∧ MRows w' w.heap.size B k ∧ MRows w' B w'.heap.size s := by
  generalize hw1 : (((w.alloc (.cells #[.bool m.S.s, .slice m.S.A m.S.n m.S.c, .int .i64 m.S.e, .bool m.W.s, .slice m.W.A m.W.n m.W.c, .int .i64 m.W.e, .bool m.C.s, .slice m.C.A m.C.n m.C.c, .int .i64 m.C.e, .bool m.A.s, .slice m.A.A m.A.n m.A.c, .int .i64 m.A.e] 26)).alloc (.cells #[.bool false, .slice none 0 0, .int .i64 0, .bool false, .slice none 0 0, .int .i64 0, .bool false, .slice none 0 0, .int .i64 0, .bool false, .slice none 0 0, .int .i64 0] 26)).alloc (.cells #[.bool false, .slice none 0 0, .int .i64 0, .bool false, .slice none 0 0, .int .i64 0, .bool false, .slice none 0 0, .int .i64 0, .bool false, .slice none 0 0, .int .i64 0] 26)).alloc (.cells #[.bool m.S.s, .slice m.S.A m.S.n m.S.c, .int .i64 m.S.e, .bool m.W.s, .slice m.W.A m.W.n m.W.c, .int .i64 m.W.e, .bool m.C.s, .slice m.C.A m.C.n m.C.c, .int .i64 m.C.e, .bool m.A.s, .slice m.A.A m.A.n m.A.c, .int .i64 m.A.e] 26) = w1
  obtain ⟨⟨hM, hZ, hY, hA⟩, hBL, lo1, hi1⟩ := boxes4 w _ _ _ _ hw1
  replace hM : MBox w1 w.heap.size m := hM
  replace hZ : MBox w1 (w.heap.size + 1) ZM := hZ
  replace hY : MBox w1 (w.heap.size + 1 + 1) ZM := hY
  replace hA : MBox w1 (w.heap.size + 1 + 1 + 1) m := hA
  replace hBL : Below w.heap.size w w1 := hBL
  have Ra : MRows w1 0 w1.heap.size m := hR.on hBL
  have tT := hT.below hBL hT.lt
  have g0 := hT.lt
  have HR := Lib.hid hg
  have mK := Lib.hid (give_may hR hg)
  clear hg
  obtain ⟨b, hb⟩ : ∃ b, badS [m] = b := ⟨_, rfl⟩
  have HB := Lib.hid hb
  clear hb
  have M0 : MBox (w.alloc (.cells #[.bool m.S.s, .slice m.S.A m.S.n m.S.c, .int .i64 m.S.e, .bool m.W.s, .slice m.W.A m.W.n m.W.c, .int .i64 m.W.e, .bool m.C.s, .slice m.C.A m.C.n m.C.c, .int .i64 m.C.e, .bool m.A.s, .slice m.A.A m.A.n m.A.c, .int .i64 m.A.e] 26)) w.heap.size m := heap_alloc_last _ _
  obtain ⟨⟨y0, y1, y2, y3, y4, y5, y6, y7, y8, y9, y10, y11⟩, yf⟩ := MBox.cells M0
  have M0' : MBox (((w.alloc (.cells #[.bool m.S.s, .slice m.S.A m.S.n m.S.c, .int .i64 m.S.e, .bool m.W.s, .slice m.W.A m.W.n m.W.c, .int .i64 m.W.e, .bool m.C.s, .slice m.C.A m.C.n m.C.c, .int .i64 m.C.e, .bool m.A.s, .slice m.A.A m.A.n m.A.c, .int .i64 m.A.e] 26)).alloc (.cells #[.bool false, .slice none 0 0, .int .i64 0, .bool false, .slice none 0 0, .int .i64 0, .bool false, .slice none 0 0, .int .i64 0, .bool false, .slice none 0 0, .int .i64 0] 26)).alloc (.cells #[.bool false, .slice none 0 0, .int .i64 0, .bool false, .slice none 0 0, .int .i64 0, .bool false, .slice none 0 0, .int .i64 0, .bool false, .slice none 0 0, .int .i64 0] 26)) w.heap.size m := (Below.heap_alloc _ _ _ (by simp <;> omega)).trans ((Below.heap_alloc _ _ _ (by simp)).trans M0)
  clear y0 y1 y2 y3 y4 y5 y6 y7 y8 y9 y10 y11 yf M0
  obtain ⟨⟨y0, y1, y2, y3, y4, y5, y6, y7, y8, y9, y10, y11⟩, yf⟩ := MBox.cells M0'
  go_enter Tryd.func11, Tryd.ntmps11
  go_wp2_with fail
  clear y0 y1 y2 y3 y4 y5 y6 y7 y8 y9 y10 y11 yf M0'
  try clear hw1
  refine (faulty_any w1 (some ⟨w.heap.size + 1 + 1 + 1, 0, none⟩) 1 1 [m] (lm_one hA Ra) (by decide) b HB.out).mono ?_
  rintro e' w_1 ⟨rfl, hB⟩
  have lw_1 : w1.heap.size ≤ w_1.heap.size := hB.size
  replace hM := box_on hM hB (by omega)
  replace hZ := box_on hZ hB (by omega)
  replace hY := box_on hY hB (by omega)
  replace Ra := MRows.on Ra hB
  replace hBL := hBL.trans (hB.mono (by omega))
  replace tT := tT.below hB tT.lt
  clear hB
  clear hA
  cases b
  rotate_left
  · skip
    have hcode : ((zR, zR), (8 : Int)) = ((kR, sR), code) := by
      rw [← HR.out]
      unfold giveM
      rw [if_pos HB.out]
    injection hcode with h1 h2
    injection h1 with h1 h3
    subst h1 h2 h3
    obtain ⟨⟨q_2_0, q_2_1, q_2_2, q_2_3, q_2_4, q_2_5, q_2_6, q_2_7, q_2_8, q_2_9, q_2_10, q_2_11⟩, q_2f⟩ := MBox.cells hZ
    obtain ⟨⟨q_3_0, q_3_1, q_3_2, q_3_3, q_3_4, q_3_5, q_3_6, q_3_7, q_3_8, q_3_9, q_3_10, q_3_11⟩, q_3f⟩ := MBox.cells hY
    go_wp2
    obtain ⟨U1, M1, hc1, hM1, hX1, hb1, hf1, _, _⟩ := zero_to hZ
    rw [hc1]
    obtain ⟨U, M, hc2, hMe, hX2, hb2, hf2, _, _⟩ := zero_to (show MBox U1 (w.heap.size + 1 + 1) _ from (hf1 _ (by omega)).trans hY)
    rw [hc2]
    replace hX1 : MBox U (w.heap.size + 1) M := by rw [hMe, ← hM1]; exact (hf2 _ (by omega)).trans hX1
    have hQ := hb2 _ _ (hb1 _ _ hBL (by omega)) (by omega)
    clear q_2_0 q_2_1 q_2_2 q_2_3 q_2_4 q_2_5 q_2_6 q_2_7 q_2_8 q_2_9 q_2_10 q_2_11 q_2f q_3_0 q_3_1 q_3_2 q_3_3 q_3_4 q_3_5 q_3_6 q_3_7 q_3_8 q_3_9 q_3_10 q_3_11 q_3f
    clear hc1 hc2
    obtain ⟨⟨k0, k1, k2, k3, k4, k5, k6, k7, k8, k9, k10, k11⟩, kf⟩ := MBox.cells hX1
    obtain ⟨⟨y0, y1, y2, y3, y4, y5, y6, y7, y8, y9, y10, y11⟩, yf⟩ := MBox.cells hX2
    refine bodyPost_ret (v := .tuple #[.agg #[.bool M.S.s, .slice M.S.A M.S.n M.S.c, .int .i64 M.S.e, .bool M.W.s, .slice M.W.A M.W.n M.W.c, .int .i64 M.W.e, .bool M.C.s, .slice M.C.A M.C.n M.C.c, .int .i64 M.C.e, .bool M.A.s, .slice M.A.A M.A.n M.A.c, .int .i64 M.A.e], .agg #[.bool M.S.s, .slice M.S.A M.S.n M.S.c, .int .i64 M.S.e, .bool M.W.s, .slice M.W.A M.W.n M.W.c, .int .i64 M.W.e, .bool M.C.s, .slice M.C.A M.C.n M.C.c, .int .i64 M.C.e, .bool M.A.s, .slice M.A.A M.A.n M.A.c, .int .i64 M.A.e], .int .i64 8]) (by simp [results, Tryd.results11, go_sem, k0, k1, k2, k3, k4, k5, k6, k7, k8, k9, k10, k11, y0, y1, y2, y3, y4, y5, y6, y7, y8, y9, y10, y11]) rfl ⟨M, M, rfl, hQ, ?_⟩
    rw [hMe]
    exact ⟨IsM.zero, IsM.zero, w.heap.size, Nat.le_refl _, hQ.size, ZM_rows .., ZM_rows ..⟩
  · skip
    have hSH := badS_one.1 HB.out
    by_cases hn : m.W.n = 0
    · skip
      have hcode : ((zR, zR), (6 : Int)) = ((kR, sR), code) := by
        rw [← HR.out]
        unfold giveM
        rw [if_neg (by rw [HB.out]; simp), if_pos hn]
      injection hcode with h1 h2
      injection h1 with h1 h3
      subst h1 h2 h3
      have HN := Lib.hid hn
      clear hn hSH HR
      obtain ⟨⟨q_4_0, q_4_1, q_4_2, q_4_3, q_4_4, q_4_5, q_4_6, q_4_7, q_4_8, q_4_9, q_4_10, q_4_11⟩, q_4f⟩ := MBox.cells hM
      go_wp2_with fail
      refine (none_any w_1 m.W.s m.W.A m.W.n m.W.c m.W.e true (decide_eq_true HN.out)).mono ?_
      rintro e' w_5 ⟨rfl, hB⟩
      clear q_4_0 q_4_1 q_4_2 q_4_3 q_4_4 q_4_5 q_4_6 q_4_7 q_4_8 q_4_9 q_4_10 q_4_11 q_4f
      have lw_5 : w_1.heap.size ≤ w_5.heap.size := hB.size
      replace hM := box_on hM hB (by omega)
      replace hZ := box_on hZ hB (by omega)
      replace hY := box_on hY hB (by omega)
      replace Ra := MRows.on Ra hB
      replace hBL := hBL.trans (hB.mono (by omega))
      replace tT := tT.below hB tT.lt
      clear hB
      obtain ⟨⟨q_6_0, q_6_1, q_6_2, q_6_3, q_6_4, q_6_5, q_6_6, q_6_7, q_6_8, q_6_9, q_6_10, q_6_11⟩, q_6f⟩ := MBox.cells hZ
      obtain ⟨⟨q_7_0, q_7_1, q_7_2, q_7_3, q_7_4, q_7_5, q_7_6, q_7_7, q_7_8, q_7_9, q_7_10, q_7_11⟩, q_7f⟩ := MBox.cells hY
      go_wp2
      obtain ⟨U1, M1, hc1, hM1, hX1, hb1, hf1, _, _⟩ := zero_to hZ
      rw [hc1]
      obtain ⟨U, M, hc2, hMe, hX2, hb2, hf2, _, _⟩ := zero_to (show MBox U1 (w.heap.size + 1 + 1) _ from (hf1 _ (by omega)).trans hY)
      rw [hc2]
      replace hX1 : MBox U (w.heap.size + 1) M := by rw [hMe, ← hM1]; exact (hf2 _ (by omega)).trans hX1
      have hQ := hb2 _ _ (hb1 _ _ hBL (by omega)) (by omega)
      clear q_6_0 q_6_1 q_6_2 q_6_3 q_6_4 q_6_5 q_6_6 q_6_7 q_6_8 q_6_9 q_6_10 q_6_11 q_6f q_7_0 q_7_1 q_7_2 q_7_3 q_7_4 q_7_5 q_7_6 q_7_7 q_7_8 q_7_9 q_7_10 q_7_11 q_7f
      clear hc1 hc2
      obtain ⟨⟨k0, k1, k2, k3, k4, k5, k6, k7, k8, k9, k10, k11⟩, kf⟩ := MBox.cells hX1
      obtain ⟨⟨y0, y1, y2, y3, y4, y5, y6, y7, y8, y9, y10, y11⟩, yf⟩ := MBox.cells hX2
      refine bodyPost_ret (v := .tuple #[.agg #[.bool M.S.s, .slice M.S.A M.S.n M.S.c, .int .i64 M.S.e, .bool M.W.s, .slice M.W.A M.W.n M.W.c, .int .i64 M.W.e, .bool M.C.s, .slice M.C.A M.C.n M.C.c, .int .i64 M.C.e, .bool M.A.s, .slice M.A.A M.A.n M.A.c, .int .i64 M.A.e], .agg #[.bool M.S.s, .slice M.S.A M.S.n M.S.c, .int .i64 M.S.e, .bool M.W.s, .slice M.W.A M.W.n M.W.c, .int .i64 M.W.e, .bool M.C.s, .slice M.C.A M.C.n M.C.c, .int .i64 M.C.e, .bool M.A.s, .slice M.A.A M.A.n M.A.c, .int .i64 M.A.e], .int .i64 6]) (by simp [results, Tryd.results11, go_sem, k0, k1, k2, k3, k4, k5, k6, k7, k8, k9, k10, k11, y0, y1, y2, y3, y4, y5, y6, y7, y8, y9, y10, y11]) rfl ⟨M, M, rfl, hQ, ?_⟩
      rw [hMe]
      exact ⟨IsM.zero, IsM.zero, w.heap.size, Nat.le_refl _, hQ.size, ZM_rows .., ZM_rows ..⟩
    · skip
      have hS : splitM m = ((kR, sR), code) := by
        rw [← HR.out]
        unfold giveM
        rw [if_neg (by rw [HB.out]; simp), if_neg hn]
      have HN := Lib.hid hn
      have HS := Lib.hid hS
      clear hn hSH hS HR
      obtain ⟨⟨q_8_0, q_8_1, q_8_2, q_8_3, q_8_4, q_8_5, q_8_6, q_8_7, q_8_8, q_8_9, q_8_10, q_8_11⟩, q_8f⟩ := MBox.cells hM
      go_wp2_with fail
      refine (none_any w_1 m.W.s m.W.A m.W.n m.W.c m.W.e false (decide_eq_false HN.out)).mono ?_
      rintro e' w_9 ⟨rfl, hB⟩
      clear q_8_0 q_8_1 q_8_2 q_8_3 q_8_4 q_8_5 q_8_6 q_8_7 q_8_8 q_8_9 q_8_10 q_8_11 q_8f
      have lw_9 : w_1.heap.size ≤ w_9.heap.size := hB.size
      replace hM := box_on hM hB (by omega)
      replace hZ := box_on hZ hB (by omega)
      replace hY := box_on hY hB (by omega)
      replace Ra := MRows.on Ra hB
      replace hBL := hBL.trans (hB.mono (by omega))
      replace tT := tT.below hB tT.lt
      clear hB
      obtain ⟨⟨q_10_0, q_10_1, q_10_2, q_10_3, q_10_4, q_10_5, q_10_6, q_10_7, q_10_8, q_10_9, q_10_10, q_10_11⟩, q_10f⟩ := MBox.cells hM
      go_wp2_with fail
      refine (MSplit_num w_9 m Ra tT kR sR code HS.out).mono ?_
      rintro e' w_11 ⟨k0, s0, rfl, hB, hsC, is, ik, B, lb1, lb2, Rs, Rk⟩
      clear q_10_0 q_10_1 q_10_2 q_10_3 q_10_4 q_10_5 q_10_6 q_10_7 q_10_8 q_10_9 q_10_10 q_10_11 q_10f
      have lw_11 : w_9.heap.size ≤ w_11.heap.size := hB.size
      replace hM := box_on hM hB (by omega)
      replace hZ := box_on hZ hB (by omega)
      replace hY := box_on hY hB (by omega)
      replace Ra := MRows.on Ra hB
      replace hBL := hBL.trans (hB.mono (by omega))
      replace tT := tT.below hB tT.lt
      clear hsC
      have nk := isM_n Rk ik mK.out.1
      have ns := isM_n Rs is mK.out.2
      replace is := Lib.hid is
      replace ik := Lib.hid ik
      clear hB
      obtain ⟨⟨q_12_0, q_12_1, q_12_2, q_12_3, q_12_4, q_12_5, q_12_6, q_12_7, q_12_8, q_12_9, q_12_10, q_12_11⟩, q_12f⟩ := MBox.cells hZ
      obtain ⟨⟨q_13_0, q_13_1, q_13_2, q_13_3, q_13_4, q_13_5, q_13_6, q_13_7, q_13_8, q_13_9, q_13_10, q_13_11⟩, q_13f⟩ := MBox.cells hY
      go_wp2_with fail
      obtain ⟨U1, hc1, hX1, hb1, hf1, l1_, l1'⟩ := all_to hZ k0
      rw [hc1]
      obtain ⟨U2, hc2, hX2, hb2, hf2, l2_, l2'⟩ := all_to (show MBox U1 (w.heap.size + 1 + 1) ZM from (hf1 _ (by omega)).trans hY) s0
      rw [hc2]
      clear q_12_0 q_12_1 q_12_2 q_12_3 q_12_4 q_12_5 q_12_6 q_12_7 q_12_8 q_12_9 q_12_10 q_12_11 q_12f q_13_0 q_13_1 q_13_2 q_13_3 q_13_4 q_13_5 q_13_6 q_13_7 q_13_8 q_13_9 q_13_10 q_13_11 q_13f
      replace hX1 : MBox U2 (w.heap.size + 1) k0 := (hf2 _ (by omega)).trans hX1
      have hbL := hb2 _ _ (hb1 _ _ hBL (by omega)) (by omega)
      have RO : MRows U2 0 U2.heap.size k0 := (rows_rng Rk (w' := U2) (fun b h1 h2 => (hf2 b (by omega)).trans (hf1 b (by omega)))).more (Nat.zero_le _) (by omega)
      have RK : MRows U2 0 U2.heap.size s0 := (rows_rng Rs (w' := U2) (fun b h1 h2 => (hf2 b (by omega)).trans (hf1 b (by omega)))).more (Nat.zero_le _) (by omega)
      clear hc1 hc2 hb1 hb2 hf1 hf2 hZ hY hM Ra tT Rk Rs hBL
      refine region_E (fun v => MBox v (w.heap.size + 1 + 1) s0) [6] (m := 8) (L := #[false, false, false, false, false, false, false, false]) (by kernel_rfl) (by rfl) (by rfl) ?_
      have hB : Below U2.heap.size U2 U2.drew := (Below.refl _ _).drew
      replace RO : MRows U2.drew 0 U2.drew.heap.size k0 := RO.on hB
      replace RK : MRows U2.drew 0 U2.drew.heap.size s0 := RK.on hB
      have b_ := hbL.trans (hB.mono hbL.size)
      have lw0 : w.heap.size ≤ U2.heap.size := hbL.size
      have l2 : U2.heap.size ≤ U2.drew.heap.size := hB.size
      replace hX1 : MBox U2.drew (w.heap.size + 1) k0 := hX1
      replace hX2 : MBox U2.drew (w.heap.size + 1 + 1) s0 := hX2
      clear hB
      refine readE (i := 2) (L := #[false, false, true, false, false, false, false, false]) (v := .agg #[.bool s0.S.s, .slice s0.S.A s0.S.n s0.S.c, .int .i64 s0.S.e, .bool s0.W.s, .slice s0.W.A s0.W.n s0.W.c, .int .i64 s0.W.e, .bool s0.C.s, .slice s0.C.A s0.C.n s0.C.c, .int .i64 s0.C.e, .bool s0.A.s, .slice s0.A.A s0.A.n s0.A.c, .int .i64 s0.A.e]) rfl (by rfl) (by kernel_rfl) (by kernel_rfl) (by kernel_rfl) (fun _ _ _ h => h) (by assumption) (by rfl) ?yx2_ ?zx2_
      case yx2_ =>
        intro w' h1
        obtain ⟨⟨k0, k1, k2, k3, k4, k5, k6, k7, k8, k9, k10, k11⟩, kf⟩ := MBox.cells h1
        go_simp
      try simp only [Act.put, List.setIfInBounds_toArray, List.set_cons_zero, List.set_cons_succ]
      refine pureE (i := 4) (L := #[false, false, true, false, true, false, false, false]) (v := ?_) rfl (by rfl) (by kernel_rfl) (by kernel_rfl) (by kernel_rfl) (fun _ _ _ h => h) (by rfl) ?hy2 ?rest2
      case hy2 => intro w; go_simp; (try with_reducible rfl)
      try simp only [Act.put, List.setIfInBounds_toArray, List.set_cons_zero, List.set_cons_succ]
      generalize U2.drew = w2 at *
      obtain ⟨⟨k0, k1, k2, k3, k4, k5, k6, k7, k8, k9, k10, k11⟩, kf⟩ := MBox.cells hX1
      refine stepK (i := 0) (L := #[true, false, true, false, true, false, false, false]) rfl (by rfl) (by kernel_rfl) (by rfl) (fun K hK => ?_)
      go_simp
      refine hK _ _ ⟨fun _ h => h, ?_⟩
      clear hK K k0 k1 k2 k3 k4 k5 k6 k7 k8 k9 k10 k11 kf
      try simp only [Act.put, List.setIfInBounds_toArray, List.set_cons_zero, List.set_cons_succ]
      refine stepK (i := 1) (L := #[true, true, true, false, true, false, false, false]) rfl (by rfl) (by kernel_rfl) (by rfl) (fun K hK => ?_)
      go_simp
      go_at_call 37
      refine (MTwin_any w2 k0 RO nk).mono ?_
      rintro e' w3 ⟨o, rfl, hto, hB, Ro⟩
      replace hto := Lib.hid hto
      have l3 := hB.size
      have lx := lt_of_heap hX2
      replace hX1 := box_on hX1 hB (by omega)
      replace hX2 := box_on hX2 hB lx
      replace RK := RK.on hB
      replace b_ := b_.trans (hB.mono (by omega))
      clear hB RO nk
      refine hK _ _ ⟨fun _ _ => hX2, ?_⟩
      clear hK K
      try simp only [Act.put, List.setIfInBounds_toArray, List.set_cons_zero, List.set_cons_succ]
      refine stepK (i := 3) (L := #[true, true, true, true, true, false, false, false]) rfl (by rfl) (by kernel_rfl) (by rfl) (fun K hK => ?_)
      go_simp
      go_at_call 37
      refine (MTwin_any w3 s0 RK ns).mono ?_
      rintro e' w4 ⟨k, rfl, htk, hB, Rk⟩
      replace htk := Lib.hid htk
      have l4 := hB.size
      have hO3 : MBox w4 (w.heap.size + 1) k0 := box_on hX1 hB (by omega)
      have hY3 : MBox w4 (w.heap.size + 1 + 1) s0 := box_on hX2 hB (by omega)
      replace Ro := Ro.below hB (Nat.le_refl _)
      replace b_ := b_.trans (hB.mono (by omega))
      clear hB RK ns hX1 hX2
      refine hK _ _ ⟨fun _ _ => hY3, ?_⟩
      clear hK K
      try simp only [Act.put, List.setIfInBounds_toArray, List.set_cons_zero, List.set_cons_succ]
      obtain ⟨⟨k0, k1, k2, k3, k4, k5, k6, k7, k8, k9, k10, k11⟩, kf⟩ := MBox.cells hO3
      refine stepK (i := 5) (L := #[true, true, true, true, true, true, false, false]) rfl (by rfl) (by kernel_rfl) (by rfl) (fun K hK => ?_)
      go_simp
      obtain ⟨w5, hc_, hX, hb_, hf_, l5, l5'⟩ := all_to hO3 o
      rw [hc_]
      clear hc_ k0 k1 k2 k3 k4 k5 k6 k7 k8 k9 k10 k11 kf
      replace hY3 : MBox w5 (w.heap.size + 1 + 1) s0 := (hf_ _ (by omega)).trans hY3
      refine hK _ _ ⟨fun _ _ => hY3, ?_⟩
      clear hK K
      try simp only [Act.put, List.setIfInBounds_toArray, List.set_cons_zero, List.set_cons_succ]
      replace b_ := hb_ _ _ b_ (by omega)
      replace Ro := rows_rng Ro (w' := w5) (fun b h1 h2 => hf_ b (by omega))
      replace Rk := rows_rng Rk (w' := w5) (fun b h1 h2 => hf_ b (by omega))
      clear hb_ hf_ hO3
      obtain ⟨⟨k0, k1, k2, k3, k4, k5, k6, k7, k8, k9, k10, k11⟩, kf⟩ := MBox.cells hY3
      refine stepK (i := 6) (L := #[true, true, true, true, true, true, true, false]) rfl (by rfl) (by kernel_rfl) (by rfl) (fun K hK => ?_)
      go_simp
      obtain ⟨w6, hc_, hX2, hb_, hf_, l6, l6'⟩ := all_to hY3 k
      rw [hc_]
      clear hc_ k0 k1 k2 k3 k4 k5 k6 k7 k8 k9 k10 k11 kf
      refine hK _ _ ⟨fun h => absurd h (by decide), ?_⟩
      clear hK K
      try simp only [Act.put, List.setIfInBounds_toArray, List.set_cons_zero, List.set_cons_succ]
      replace b_ := hb_ _ _ b_ (by omega)
      replace hX : MBox w6 (w.heap.size + 1) o := (hf_ _ (by omega)).trans hX
      replace Ro := rows_rng Ro (w' := w6) (fun b h1 h2 => hf_ b (by omega))
      replace Rk := rows_rng Rk (w' := w6) (fun b h1 h2 => hf_ b (by omega))
      clear hb_ hf_ hY3
      refine pureE (i := 7) (L := #[true, true, true, true, true, true, true, true]) (v := ?_) rfl (by rfl) (by kernel_rfl) (by kernel_rfl) (by kernel_rfl) (fun _ _ _ h => h) (by rfl) ?hy8 ?rest8
      case hy8 => intro w; go_simp; (try with_reducible rfl)
      try simp only [Act.put, List.setIfInBounds_toArray, List.set_cons_zero, List.set_cons_succ]
      refine doneE (by kernel_rfl) ?_ _
      go_wp2
      obtain ⟨⟨k0, k1, k2, k3, k4, k5, k6, k7, k8, k9, k10, k11⟩, kf⟩ := MBox.cells hX
      obtain ⟨⟨y0, y1, y2, y3, y4, y5, y6, y7, y8, y9, y10, y11⟩, yf⟩ := MBox.cells hX2
      exact bodyPost_ret (v := .tuple #[.agg #[.bool o.S.s, .slice o.S.A o.S.n o.S.c, .int .i64 o.S.e, .bool o.W.s, .slice o.W.A o.W.n o.W.c, .int .i64 o.W.e, .bool o.C.s, .slice o.C.A o.C.n o.C.c, .int .i64 o.C.e, .bool o.A.s, .slice o.A.A o.A.n o.A.c, .int .i64 o.A.e], .agg #[.bool k.S.s, .slice k.S.A k.S.n k.S.c, .int .i64 k.S.e, .bool k.W.s, .slice k.W.A k.W.n k.W.c, .int .i64 k.W.e, .bool k.C.s, .slice k.C.A k.C.n k.C.c, .int .i64 k.C.e, .bool k.A.s, .slice k.A.A k.A.n k.A.c, .int .i64 k.A.e], .int .i64 code]) (by simp [results, Tryd.results11, go_sem, k0, k1, k2, k3, k4, k5, k6, k7, k8, k9, k10, k11, y0, y1, y2, y3, y4, y5, y6, y7, y8, y9, y10, y11]) rfl ⟨o, k, rfl, b_, ik.out.twin hto.out, is.out.twin htk.out, w3.heap.size, by omega, by omega, Ro.more (by omega) (Nat.le_refl _), Rk.more (Nat.le_refl _) (by omega)⟩
end Ma
end Go.Proofs.YtbbnbgllgomolaaDoor
