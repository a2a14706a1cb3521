/- What every statement's row asks beside its walk: arguments that read as data hold what our predicates say; behind the call they read as before. -/
/- Dyads among the arguments. -/
/- Masses among the arguments. -/
/- What a statement behind the door asks beside its walk: the table of bits.TrailingZeros32 lies in its variable; dyads among the arguments. -/
import Derived.Test.YtlbkepiflhchdaaDoorBm01
import Derived.ProofKit
import Derived.Test.YtlbkepiflhchdaaDoorBm02
import Derived.Lib.SmallJoins
import Derived.Deep.SlicePairs
import Derived.Test.YtlbkepiflhchdaaDoorBm10
import Derived.Test.YtlbkepiflhchdaaDoorBm09
import Derived.Test.YtlbkepiflhchdaaDoorRows
import Derived.LaidMore
import Derived.OpenShut
import Derived.Stop.Joined
namespace Go.Proofs.YtlbkepiflhchdaaDoor
open Go.ChangeShapes Go.WideShapes Go.ChangeAt Go.RowKit

section
variable {H : Type} {enc : TypeId × Value → H} {P : Program} {W W' : World}

theorem trodAll_below (hl : laidOutB P = true) (hb : Below W.heap.size W W') : ∀ (ts : List TypeId) (vs : List Value) (ds : List (DataW H)) (ps : List MemPlace),
    DataW.TrodAll enc P W 0 (fun _ => true) true ts vs ds ps → (∀ t ∈ ts, P.readableRec t = true ∧ t < P.types.size) → (∀ x ∈ ps, x.block < W.heap.size) →
    DataW.TrodAll enc P W' 0 (fun b => decide (b < W.heap.size)) true ts vs ds ps
  | [], vs, ds, ps, h, _, _ => by
    obtain ⟨rfl, rfl, rfl⟩ := trodAll_nil h
    exact rfl
  | t :: ts, vs, ds, ps, h, hr, hlt => by
    obtain ⟨v, vs', d, ds', p, q, rfl, rfl, rfl, h1, h2⟩ := trodAll_cons h
    obtain ⟨r1, r2⟩ := hr t (List.mem_cons_self ..)
    exact ⟨p, q, Below.trod hl r1 r2 h1 hb fun x hx => hlt x (List.mem_append_left _ hx), trodAll_below hl hb ts vs' ds' q h2 (fun t ht => hr t (List.mem_cons_of_mem _ ht)) fun x hx => hlt x (List.mem_append_right _ hx), rfl⟩

/-- A law that answers true and leaves what was there as it was. -/
theorem law_post {f : Func} {s : ChangeSpec} {args : Array Value} {ds gs : List (DataW H)} {before : List MemPlace} (hW : DataW.Whole enc P f.params.toList s.vars false W args.toList ds gs before)
    (hv : s.vars = []) (hl : laidOutB P = true) (hr : f.params.toList.all (fun t => P.readableRec t && decide (t < P.types.size)) = true) {tb : TypeId} (hres : f.resultTypes = #[tb]) (htb : P.underlying tb = some .bool)
    (h1 : (s.fn H (ds ++ gs)).results = [.lit (.bool true)]) (h2 : (s.fn H (ds ++ gs)).args = ds) (h3 : (s.fn H (ds ++ gs)).vars = []) (hb : Below W.heap.size W W') : s.post enc P f false true false false W args (.bool true) W' := by
  have hW' := hW
  obtain ⟨p, q, hA, hV, rfl, hfz, hnd⟩ := hW
  have hr' : ∀ t ∈ f.params.toList, P.readableRec t = true ∧ t < P.types.size := fun t ht => by
    have := List.all_eq_true.1 hr t ht
    simpa using this
  refine ⟨ds, gs, _, [], p, [], hW', ?_, ?_, ?_, hb.frame _, fun h => by cases h⟩
  · rw [h1, hres]
    exact trodAll_mk1 (shut_bool htb true)
  · rw [h2]
    exact trodAll_below hl hb _ _ _ _ hA hr' fun x hx => hW'.lt x (List.mem_append_left _ hx)
  · rw [h3, hv]
    rfl

/-- A slice of whole numbers among the arguments. -/
theorem ints_open {t e : TypeId} {k : IntKind} {r : Reach} {b0 : Nat} {v : Value} {d : DataW H} {p : List MemPlace} (ht : P.underlying t = some (.slice e)) (he : P.underlying e = some (.int k)) (hc : P.cellsOf e = 1)
    (hval : Value.okWide P W r b0 t v) (h : DataW.Trod enc P W 0 (fun _ => true) true t v d p) (hfz : ∀ b off, MemPlace.cell b off ∈ p → W.frozen? ⟨b, off, none⟩ = false) (hlt : ∀ x ∈ p, x.block < W.heap.size) :
    ∃ A n c xs, v = .slice A n c ∧ n ≤ c ∧ Ints W 0 W.heap.size k A n xs := by
  obtain ⟨A, n, c, rfl⟩ := okWide_slice ht hval
  obtain ⟨fuel, hf⟩ := h
  rcases open_ints ht he hc hf with ⟨hcs, hx⟩ | ⟨a, len, cap, zs, hcs, _, hl, hm, hz, hx, hcell, hwz⟩
  · simp [Value.cells] at hcs
    obtain ⟨rfl, rfl, rfl⟩ := hcs
    exact ⟨none, 0, 0, [], rfl, Nat.le_refl _, Ints.nil_ ..⟩
  · simp [Value.cells] at hcs
    obtain ⟨rfl, rfl, rfl⟩ := hcs
    simp only [if_true] at hz
    refine ⟨some a, n, c, zs.take n, rfl, hl, by simp; omega, fun x hx => ?_, by unfold maxLen at hm; omega, fun h0 => ?_⟩
    · have := hwz x (List.mem_of_mem_take hx)
      simpa [Lit.wf] using this
    · obtain ⟨b, off, spot⟩ := a
      have hspot : spot = none := by simpa [Addr.add] using World.cell?_spot (hcell 0 (by omega))
      subst hspot
      simp only [Prod.mk.injEq] at hx
      obtain ⟨_, rfl⟩ := hx
      have hmem : ∀ j, j < n → MemPlace.cell b (off + j) ∈ MemPlace.row ⟨b, off, none⟩ zs.length := fun j hj => MemPlace.mem_row.2 ⟨j, by omega, rfl⟩
      refine ⟨b, off, rfl, Nat.zero_le _, hlt _ (hmem 0 h0), fun j hj => ⟨?_, hfz _ _ (hmem j hj)⟩⟩
      have := hcell j (by omega)
      rw [add_plain] at this
      rw [this, List.getElem?_take, if_pos hj]
      simp [List.getD]
end
end Go.Proofs.YtlbkepiflhchdaaDoor

namespace Go.Proofs.YtlbkepiflhchdaaDoor
open Go.ChangeShapes Go.WideShapes Go.ChangeAt Go.RowKit Go.Joins Go.Deep
section
variable {H : Type} {enc : TypeId × Value → H} {P : Program} {W W' : World}
theorem ints_trod {t e : TypeId} {k : IntKind} {fuel : Nat} {v : Value} {x : DataW H × List MemPlace} (ht : P.underlying t = some (.slice e)) (he : P.underlying e = some (.int k)) (hc : P.cellsOf e = 1)
    (h : DataW.trod enc P W 0 (fun _ => true) true fuel t [v] = some x) (hfz : ∀ b off, MemPlace.cell b off ∈ x.2 → W.frozen? ⟨b, off, none⟩ = false) (hlt : ∀ q ∈ x.2, q.block < W.heap.size) :
    ∃ A n c xs, v = .slice A n c ∧ n ≤ c ∧ Ints W 0 W.heap.size k A n xs := by
  rcases open_ints ht he hc h with ⟨hcs, hx⟩ | ⟨a, len, cap, zs, hcs, _, hl, hm, hz, hx, hcell, hwz⟩
  · injection hcs with hcs
    exact ⟨none, 0, 0, [], hcs, Nat.le_refl _, Ints.nil_ ..⟩
  · injection hcs with hcs
    simp only [if_true] at hz
    refine ⟨some a, len, cap, zs.take len, hcs, hl, by simp; omega, fun y hy => ?_, by unfold maxLen at hm; omega, fun h0 => ?_⟩
    · have := hwz y (List.mem_of_mem_take hy)
      simpa [Lit.wf] using this
    · obtain ⟨b, off, spot⟩ := a
      have hspot : spot = none := by simpa [Addr.add] using World.cell?_spot (hcell 0 (by omega))
      subst hspot
      have hmem : ∀ j, j < len → MemPlace.cell b (off + j) ∈ x.2 := fun j hj => by
        rw [hx]
        exact MemPlace.mem_row.2 ⟨j, by omega, rfl⟩
      refine ⟨b, off, rfl, Nat.zero_le _, hlt _ (hmem 0 h0), fun j hj => ⟨?_, hfz _ _ (hmem j hj)⟩⟩
      have := hcell j (by omega)
      rw [add_plain] at this
      rw [this, List.getElem?_take, if_pos hj]
      simp [List.getD]
/-- A dyad among the arguments. -/
theorem dyad_open {r : Reach} {b0 : Nat} {t e : TypeId} {k0 k1 k2 : Field} {v : Value} {d : DataW H} {p : List MemPlace} (hs : P.underlying t = some (.struct #[k0, k1, k2])) (hone : oneCellFields P #[k0, k1, k2] = true) (hC : P.cellsOf t = 3)
    (v0 : P.underlying k0.type = some .bool) (ht : P.underlying k1.type = some (.slice e)) (he : P.underlying e = some (.int .u32)) (hc : P.cellsOf e = 1) (v2 : P.underlying k2.type = some (.int .i64))
    (hval : Value.okWide P W r b0 t v) (h : DataW.Trod enc P W 0 (fun _ => true) true t v d p) (hfz : ∀ b off, MemPlace.cell b off ∈ p → W.frozen? ⟨b, off, none⟩ = false) (hlt : ∀ q ∈ p, q.block < W.heap.size) :
    ∃ (s : Bool) (A : Option Addr) (n c : Nat) (xs : List Int) (ex : Int), v = .agg #[.bool s, .slice A n c, .int .i64 ex] ∧ n ≤ c ∧ (Lit.int .i64 ex).wf = true ∧ Ints W 0 W.heap.size .u32 A n xs := by
  obtain ⟨w0, w1, w2, y0, y1, y2, m, rfl, _, rfl, h0, h1, h2⟩ := open_agg3 hs hone hC hval h
  obtain ⟨s, e0, _⟩ := DataW.trod_bool v0 h0
  obtain ⟨x, e2, _, z2⟩ := DataW.trod_int v2 h2
  injection e0 with e0
  injection e2 with e2
  obtain ⟨A, n, c, xs, e1, hc', hx⟩ := ints_trod ht he hc h1 (fun b off hm => hfz b off (by simp [hm])) (fun q hq => hlt q (by simp [hq]))
  exact ⟨s, A, n, c, xs, x, by rw [e0, e1, e2], hc', z2, hx⟩
end
end Go.Proofs.YtlbkepiflhchdaaDoor

namespace Go.Proofs.YtlbkepiflhchdaaDoor
open Go.ChangeShapes Go.WideShapes Go.ChangeAt Go.RowKit Go.Joins Go.Deep
section
variable {H : Type} {enc : TypeId × Value → H} {P : Program} {W W' : World}
theorem dv_trod {td e : TypeId} {k0 k1 k2 : Field} {fuel : Nat} {c0 c1 c2 : Value} {x : DataW H × List MemPlace} (hs : P.underlying td = some (.struct #[k0, k1, k2])) (hone : oneCellFields P #[k0, k1, k2] = true)
    (v0 : P.underlying k0.type = some .bool) (ht : P.underlying k1.type = some (.slice e)) (he : P.underlying e = some (.int .u32)) (hc : P.cellsOf e = 1) (v2 : P.underlying k2.type = some (.int .i64))
    (h : DataW.trod enc P W 0 (fun _ => true) true fuel td [c0, c1, c2] = some x) (hfz : ∀ b off, MemPlace.cell b off ∈ x.2 → W.frozen? ⟨b, off, none⟩ = false) (hlt : ∀ q ∈ x.2, q.block < W.heap.size) :
    ∃ d : Ma.Dv, c0 = .bool d.s ∧ c1 = .slice d.A d.n d.c ∧ c2 = .int .i64 d.e ∧ d.n ≤ d.c ∧ d.Row W 0 W.heap.size := by
  obtain ⟨y0, y1, y2, n, hx, _, h0, h1, h2⟩ := trod_struct3 hs h
  obtain ⟨o0, q0⟩ := hone_of hone 0 k0 rfl
  obtain ⟨o1, q1⟩ := hone_of hone 1 k1 rfl
  obtain ⟨o2, q2⟩ := hone_of hone 2 k2 rfl
  simp only [o0, q0, o1, q1, o2, q2, List.drop_zero, List.take_succ_cons, List.take_zero, List.drop_succ_cons] at h0 h1 h2
  obtain ⟨s, e0, _⟩ := DataW.trod_bool v0 h0
  obtain ⟨z, e2, _, z2⟩ := DataW.trod_int v2 h2
  injection e0 with e0
  injection e2 with e2
  have hx2 : x.2 = y0.2 ++ (y1.2 ++ y2.2) := by rw [hx]
  obtain ⟨A, n', c, xs, e1, hc', hI⟩ := ints_trod ht he hc h1 (fun b off hm => hfz b off (by simp [hx2, hm])) (fun q hq => hlt q (by simp [hx2, hq]))
  exact ⟨⟨s, A, n', c, z, xs⟩, e0, e1, e2, hc', hI⟩
/-- A mass among the arguments. -/
theorem mass_open {r : Reach} {b0 : Nat} {t td e : TypeId} {f0 f1 f2 f3 k0 k1 k2 : Field} {v : Value} {d : DataW H} {p : List MemPlace} (hs : P.underlying t = some (.struct #[f0, f1, f2, f3]))
    (hoff : (f0.offset, f1.offset, f2.offset, f3.offset) = (0, 3, 6, 9)) (hty : (f0.type, f1.type, f2.type, f3.type) = (td, td, td, td)) (hC : P.cellsOf t = 12)
    (hd : P.underlying td = some (.struct #[k0, k1, k2])) (hone : oneCellFields P #[k0, k1, k2] = true) (hC3 : P.cellsOf td = 3)
    (v0 : P.underlying k0.type = some .bool) (ht : P.underlying k1.type = some (.slice e)) (he : P.underlying e = some (.int .u32)) (hc : P.cellsOf e = 1) (v2 : P.underlying k2.type = some (.int .i64))
    (hval : Value.okWide P W r b0 t v) (h : DataW.Trod enc P W 0 (fun _ => true) true t v d p) (hfz : ∀ b off, MemPlace.cell b off ∈ p → W.frozen? ⟨b, off, none⟩ = false) (hlt : ∀ q ∈ p, q.block < W.heap.size) :
    ∃ m : Ma.Mv, v = .agg #[.bool m.S.s, .slice m.S.A m.S.n m.S.c, .int .i64 m.S.e, .bool m.W.s, .slice m.W.A m.W.n m.W.c, .int .i64 m.W.e, .bool m.C.s, .slice m.C.A m.C.n m.C.c, .int .i64 m.C.e, .bool m.A.s, .slice m.A.A m.A.n m.A.c, .int .i64 m.A.e] ∧
      (m.S.n ≤ m.S.c ∧ m.W.n ≤ m.W.c ∧ m.C.n ≤ m.C.c ∧ m.A.n ≤ m.A.c) ∧ Ma.MRows W 0 W.heap.size m := by
  simp only [Prod.mk.injEq] at hoff hty
  obtain ⟨a0, a1, a2, a3⟩ := hoff
  obtain ⟨t0, t1, t2, t3⟩ := hty
  obtain ⟨cs, rfl, hsz⟩ := okWide_struct hs hval
  obtain ⟨cs⟩ := cs
  match cs, hsz.trans hC with
  | [c0, c1, c2, c3, c4, c5, c6, c7, c8, c9, c10, c11], _ =>
    obtain ⟨fuel, hf⟩ := h
    obtain ⟨y0, y1, y2, y3, n, hx, _, h0, h1, h2, h3⟩ := trod_struct4 hs hf
    simp only [Prod.mk.injEq] at hx
    obtain ⟨_, rfl⟩ := hx
    simp only [Value.cells, a0, a1, a2, a3, t0, t1, t2, t3, hC3, List.drop_zero, List.take_succ_cons, List.take_zero, List.drop_succ_cons] at h0 h1 h2 h3
    obtain ⟨d0, rfl, rfl, rfl, n0, r0⟩ := dv_trod hd hone v0 ht he hc v2 h0 (fun b off hm => hfz b off (by simp [hm])) (fun q hq => hlt q (by simp [hq]))
    obtain ⟨d1, rfl, rfl, rfl, n1, r1⟩ := dv_trod hd hone v0 ht he hc v2 h1 (fun b off hm => hfz b off (by simp [hm])) (fun q hq => hlt q (by simp [hq]))
    obtain ⟨d2, rfl, rfl, rfl, n2, r2⟩ := dv_trod hd hone v0 ht he hc v2 h2 (fun b off hm => hfz b off (by simp [hm])) (fun q hq => hlt q (by simp [hq]))
    obtain ⟨d3, rfl, rfl, rfl, n3, r3⟩ := dv_trod hd hone v0 ht he hc v2 h3 (fun b off hm => hfz b off (by simp [hm])) (fun q hq => hlt q (by simp [hq]))
    exact ⟨⟨d0, d1, d2, d3⟩, rfl, ⟨n0, n1, n2, n3⟩, ⟨r0, r1, r2, r3⟩⟩
end
end Go.Proofs.YtlbkepiflhchdaaDoor

namespace Go.Proofs.YtlbkepiflhchdaaDoor
open Go.ChangeShapes Go.WideShapes Go.ChangeAt Go.RowKit Go.Joins
theorem Tryd.laidOut : laidOutB Tryd.prog = true := by kernel_rfl
namespace Dy
theorem ownKnob_ : ownKnob Tryd.prog.godebug = none := by kernel_rfl
theorem gTab : Tryd.prog.globalNamed "math/bits.deBruijn32tab" = some 0 := by kernel_rfl
theorem tTab : (Tryd.prog.globals[0]?).map (·.type) = some 133 := by kernel_rfl
abbrev laidT : List (String × DataW Unit) := [("math/bits.deBruijn32tab", Rows.laid_math_bits_deBruijn32tab)]
theorem laid_list : (Rows.laid_math_bits_deBruijn32tab : DataW Unit) = .agg (Lib.deBruijn32tab.map fun n => .lit (.int .u8 (n : Nat))) := rfl
/-- The door's own heap meets the condition. -/
theorem door_met (os : Os) (args : Array Value) : laidMetH Tryd.prog laidT ((World.doorLaid Tryd.prog 400 os).forCall (fun _ _ => 0) ⟨#[], args, []⟩).memory :=
  laidMetH_of_parts3 (fuel := 8) (laidMet_of_run' 8 (by kernel_rfl) (by kernel_rfl)) (by kernel_rfl) (by kernel_rfl)
theorem door_shaped (os : Os) (args : Array Value) : ((World.doorLaid Tryd.prog 400 os).forCall (fun _ _ => 0) ⟨#[], args, []⟩).Shaped Tryd.prog := World.shaped_of_RefB (by kernel_rfl) (by kernel_rfl)
theorem tab_cells {H : Type} {enc : TypeId × Value → H} {W : World} {fuel : Nat} {cs : List Value} {d : DataW H} {p : List MemPlace} {held : Bool} {spare : Nat → Bool} (l : List Nat) (hd : d = .agg (l.map fun n => .lit (.int .u8 (n : Nat))))
    (h : DataW.trod enc Tryd.prog W 0 spare held fuel 133 cs = some (d, p)) : ∀ j, j < 32 → cs[j]? = some (.int .u8 (l.getD j 0)) := by
  intro j hj
  obtain ⟨xs, m1, rfl, hx1, hlen, hn3, hel⟩ := DataW.trod_array Tryd.underlying133 h
  have c3 : Tryd.prog.cellsOf 5 = 1 := by kernel_rfl
  have h0 := hel j hj
  rw [c3] at h0
  have hxj : j < xs.length := by omega
  rw [List.getElem?_eq_getElem hxj] at h0
  obtain ⟨k, e1, e2, _⟩ := DataW.trod_int Tryd.underlying5 h0
  simp only [Prod.mk.injEq] at hx1
  rw [hd] at hx1
  simp only [DataW.agg.injEq] at hx1
  have hmap := congrArg (fun t => t[j]?) hx1.1
  simp only [List.getElem?_map] at hmap
  rw [List.getElem?_eq_getElem hxj] at hmap
  simp only [Option.map_some, e2] at hmap
  cases hlj : l[j]? with
  | none => rw [hlj] at hmap; cases hmap
  | some v =>
    rw [hlj] at hmap
    simp only [Option.map_some, Option.some.injEq, DataW.lit.injEq, Lit.int.injEq, true_and] at hmap
    have hg : l.getD j 0 = v := by simp [List.getD, hlj]
    rw [hg, hmap]
    have := congrArg (fun t => t[0]?) e1
    simpa using this
/-- What the condition gives a walk. -/
theorem tab_of_laid {W : World} (h : laidMetH Tryd.prog laidT W) : Tab W := by
  rw [MakeChecks.laidMetH_plain _ _ _ (by kernel_rfl)] at h
  obtain ⟨ps, ⟨g0, t0, cs0, f0, p0, q0, hg0, ht0, hv0, hd0, _, _⟩, _, _⟩ := h
  obtain rfl := Option.some.inj (gTab.symm.trans hg0)
  obtain rfl := Option.some.inj (tTab.symm.trans ht0)
  refine ⟨fun j hj => ?_⟩
  have h1 := tab_cells Lib.deBruijn32tab laid_list hd0 j hj
  have h2 := World.var?_cell hg0 hv0 j
  rw [h2]
  simpa using h1
end Dy
end Go.Proofs.YtlbkepiflhchdaaDoor
