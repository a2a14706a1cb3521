/- Lists of masses that a call owns: appended to, stored in; no function in sight (printed by a program of mine). -/
/- What every statement's row asks beside its walk: arguments that read as data hold what our predicates say; behind the call they read as before. -/
/- Dyads among the arguments. -/
/- Masses among the arguments. -/
/- Lists of masses among the arguments. -/
/- A mass is stored into an own list (printed by a program of mine). -/
/- How far numbers are apart: no program in sight. -/
/- What a statement behind the door asks beside its walk: the table of bits.TrailingZeros32 lies in its variable; dyads among the arguments. -/
import Derived.Test.YtbbnbgllgomolaaDoorBt12
import Derived.ProofKit
import Derived.Test.YtbbnbgllgomolaaDoorBt01
import Derived.Lib.SmallJoins
import Derived.Deep.SlicePairs
import Derived.Test.YtbbnbgllgomolaaDoorBt09
import Derived.Test.YtbbnbgllgomolaaDoorRows
import Derived.LaidMore
import Derived.OpenShut
import Derived.Stop.Joined
import Derived.Test.YtbbnbgllgomolaaDoorBt08
namespace Go.Proofs.YtbbnbgllgomolaaDoor
open Go.RowKit
namespace Ma
open Dp Dy
/-- A mass's cells. -/
def cells12 (m : Mv) : List Value := [.bool m.S.s, .slice m.S.A m.S.n m.S.c, .int .i64 m.S.e, .bool m.W.s, .slice m.W.A m.W.n m.W.c, .int .i64 m.W.e, .bool m.C.s, .slice m.C.A m.C.n m.C.c, .int .i64 m.C.e, .bool m.A.s, .slice m.A.A m.A.n m.A.c, .int .i64 m.A.e]
/-- Those of masses. -/
def flatM : List Mv → List Value
 | [] => []
 | m :: l => cells12 m ++ flatM l
theorem flatM_get : ∀ (l : List Mv) (j k : Nat) (h : j < l.length), k < 12 → (flatM l)[j * 12 + k]? = (cells12 l[j])[k]?
 | [], j, k, h, _ => absurd h (Nat.not_lt_zero _)
 | m :: l, 0, k, _, hk => by
  simp only [flatM, Nat.zero_mul, Nat.zero_add, List.getElem_cons_zero]
  rw [List.getElem?_append_left (by simp [cells12]; omega)]
 | m :: l, j + 1, k, h, hk => by
  have e : (j + 1) * 12 + k = (cells12 m).length + (j * 12 + k) := by simp [cells12]; omega
  simp only [flatM, List.getElem_cons_succ]
  rw [e, List.getElem?_append_right (by omega), Nat.add_sub_cancel_left]
  exact flatM_get l j k (by simpa using h) hk
theorem mcells_of {w : World} {b o : Nat} {m : Mv} (h : ∀ k, k < 12 → w.cell? ⟨b, o + k, none⟩ = (cells12 m)[k]?) : MCells w b o m :=
 ⟨h 0 (by decide), h 1 (by decide), h 2 (by decide), h 3 (by decide), h 4 (by decide), h 5 (by decide), h 6 (by decide), h 7 (by decide), h 8 (by decide), h 9 (by decide), h 10 (by decide), h 11 (by decide)⟩
/-- A dyad's limbs lie in another block. -/
def Dv.off (d : Dv) (g : Option Nat) : Prop := ∀ a, d.A = some a → 0 < d.n → g ≠ some a.block
def Mv.off (m : Mv) (g : Option Nat) : Prop := ∀ x, x < 4 → (m.get x).off g
theorem ints_grown {w w' : World} {row : Option Nat} {k : IntKind} {A : Option Addr} {n : Nat} {xs : List Int} (h : Ints w 0 w.heap.size k A n xs) (hg : w.grownBy w' row) (hr : ∀ a, A = some a → 0 < n → row ≠ some a.block) : Ints w' 0 w'.heap.size k A n xs := by
 refine ⟨h.len, h.wf, h.big, fun h0 => ?_⟩
 obtain ⟨b, off, e, h1, h2, hc⟩ := h.row h0
 have hb := hg.block b h2 (fun k => hr _ e h0 k.symm)
 exact ⟨b, off, e, h1, Nat.lt_of_lt_of_le h2 hg.size, fun j hj => ⟨(World.cell?_of_block hb).trans (hc j hj).1, (World.frozen?_of_block hb).trans (hc j hj).2⟩⟩
theorem rows_grown {w w' : World} {row : Option Nat} {m : Mv} (h : MRows w 0 w.heap.size m) (hg : w.grownBy w' row) (hr : m.off row) : MRows w' 0 w'.heap.size m :=
 ⟨ints_grown h.S hg (hr 0 (by decide)), ints_grown h.W hg (hr 1 (by decide)), ints_grown h.C hg (hr 2 (by decide)), ints_grown h.A hg (hr 3 (by decide))⟩
/-- Rows below a block, or behind it, are off it. -/
theorem rows_off {w : World} {lo hi : Nat} {m : Mv} (h : MRows w lo hi m) {g : Option Nat} (hg : ∀ k, g = some k → k < lo ∨ hi ≤ k) : m.off g := fun x _ a e h0 hk => by
 obtain ⟨b, off, e', h1, h2, _⟩ := (h.get x).row h0
 rw [e'] at e
 injection e with e
 subst e
 have := hg _ hk
 simp only at this
 omega
theorem grown_of_below {w w' : World} (hb : Below w.heap.size w w') (row : Option Nat) : w.grownBy w' row := ⟨hb.os, hb.tape, hb.output, hb.size, fun k hk _ => hb.block k hk⟩
/-- A list of masses that the call owns. -/
structure OwnM (w : World) (base : Nat) (v : Value) (n : Nat) (ms : List Mv) : Prop where
 own : w.ownsRow base 26 12 v n (flatM ms)
 len : ms.length = n
 rows : ∀ m ∈ ms, MRows w 0 w.heap.size m
 off : ∀ m ∈ ms, m.off v.ownBlock
theorem OwnM.on {w w' : World} {base : Nat} {v : Value} {n : Nat} {ms : List Mv} (h : OwnM w base v n ms) (hb : Below w.heap.size w w') : OwnM w' base v n ms :=
 ⟨h.own.kept (grown_of_below hb none) (by cases v.ownBlock <;> simp), h.len, fun m hm => ((h.rows m hm).below hb (Nat.le_refl _)).more (Nat.le_refl _) hb.size, h.off⟩
/-- It reads as a list. -/
theorem OwnM.lms {w : World} {base c : Nat} {A : Option Addr} {n : Nat} {ms : List Mv} (h : OwnM w base (.slice A n c) n ms) : LMs w 0 w.heap.size A n ms := by
 have hcap : n ≤ 9223372036854775807 := by
  obtain ⟨A', c', e, h1, h2⟩ := own_shape h.own
  unfold maxLen at h2
  omega
 refine ⟨h.len, hcap, fun h0 => ?_, fun j hj => h.rows _ (List.getElem_mem hj)⟩
 rcases h.own.2 with ⟨e, e0⟩ | ⟨g, cap, cur, e, hb, hg, _⟩
 · omega
 · have hown := h.own
   rw [e] at hown
   injection e with e1 e2 e3
   refine ⟨g, 0, e1, Nat.zero_le _, (Array.getElem?_eq_some_iff.1 hg).1, fun j hj => ?_⟩
   rw [Nat.zero_add]
   refine mcells_of fun k hk => ?_
   have hlt : j * 12 + k < n * 12 := by have := h.len; omega
   rw [hown.cellAt (j * 12 + k) hlt]
   exact flatM_get ms j k hj hk
end Ma
end Go.Proofs.YtbbnbgllgomolaaDoor
namespace Go.Proofs.YtbbnbgllgomolaaDoor
open Go.ChangeShapes Go.WideShapes Go.ChangeAt Go.RowKit
section
variable {H : Type} {enc : TypeId × Value → H} {P : Program} {W W' : World}
theorem trodAll_below (hl : laidOutB P = true) (hb : Below W.heap.size W W') : ∀ (ts : List TypeId) (vs : List Value) (ds : List (DataW H)) (ps : List MemPlace),
  DataW.TrodAll enc P W 0 (fun _ => true) true ts vs ds ps → (∀ t ∈ ts, P.readableRec t = true ∧ t < P.types.size) → (∀ x ∈ ps, x.block < W.heap.size) →
  DataW.TrodAll enc P W' 0 (fun b => decide (b < W.heap.size)) true ts vs ds ps
 | [], vs, ds, ps, h, _, _ => by
  obtain ⟨rfl, rfl, rfl⟩ := trodAll_nil h
  exact rfl
 | t :: ts, vs, ds, ps, h, hr, hlt => by
  obtain ⟨v, vs', d, ds', p, q, rfl, rfl, rfl, h1, h2⟩ := trodAll_cons h
  obtain ⟨r1, r2⟩ := hr t (List.mem_cons_self ..)
  exact ⟨p, q, Below.trod hl r1 r2 h1 hb fun x hx => hlt x (List.mem_append_left _ hx), trodAll_below hl hb ts vs' ds' q h2 (fun t ht => hr t (List.mem_cons_of_mem _ ht)) fun x hx => hlt x (List.mem_append_right _ hx), rfl⟩
/-- A law that answers true and leaves what was there as it was. -/
theorem law_post {f : Func} {s : ChangeSpec} {args : Array Value} {ds gs : List (DataW H)} {before : List MemPlace} (hW : DataW.Whole enc P f.params.toList s.vars false W args.toList ds gs before)
  (hv : s.vars = []) (hl : laidOutB P = true) (hr : f.params.toList.all (fun t => P.readableRec t && decide (t < P.types.size)) = true) {tb : TypeId} (hres : f.resultTypes = #[tb]) (htb : P.underlying tb = some .bool)
  (h1 : (s.fn H (ds ++ gs)).results = [.lit (.bool true)]) (h2 : (s.fn H (ds ++ gs)).args = ds) (h3 : (s.fn H (ds ++ gs)).vars = []) (hb : Below W.heap.size W W') : s.post enc P f false true false false W args (.bool true) W' := by
 have hW' := hW
 obtain ⟨p, q, hA, hV, rfl, hfz, hnd⟩ := hW
 have hr' : ∀ t ∈ f.params.toList, P.readableRec t = true ∧ t < P.types.size := fun t ht => by
  have := List.all_eq_true.1 hr t ht
  simpa using this
 refine ⟨ds, gs, _, [], p, [], hW', ?_, ?_, ?_, hb.frame _, fun h => by cases h⟩
 · rw [h1, hres]
   exact trodAll_mk1 (shut_bool htb true)
 · rw [h2]
   exact trodAll_below hl hb _ _ _ _ hA hr' fun x hx => hW'.lt x (List.mem_append_left _ hx)
 · rw [h3, hv]
   rfl
/-- A slice of whole numbers among the arguments. -/
theorem ints_open {t e : TypeId} {k : IntKind} {r : Reach} {b0 : Nat} {v : Value} {d : DataW H} {p : List MemPlace} (ht : P.underlying t = some (.slice e)) (he : P.underlying e = some (.int k)) (hc : P.cellsOf e = 1)
  (hval : Value.okWide P W r b0 t v) (h : DataW.Trod enc P W 0 (fun _ => true) true t v d p) (hfz : ∀ b off, MemPlace.cell b off ∈ p → W.frozen? ⟨b, off, none⟩ = false) (hlt : ∀ x ∈ p, x.block < W.heap.size) :
  ∃ A n c xs, v = .slice A n c ∧ n ≤ c ∧ Ints W 0 W.heap.size k A n xs := by
 obtain ⟨A, n, c, rfl⟩ := okWide_slice ht hval
 obtain ⟨fuel, hf⟩ := h
 rcases open_ints ht he hc hf with ⟨hcs, hx⟩ | ⟨a, len, cap, zs, hcs, _, hl, hm, hz, hx, hcell, hwz⟩
 · simp [Value.cells] at hcs
   obtain ⟨rfl, rfl, rfl⟩ := hcs
   exact ⟨none, 0, 0, [], rfl, Nat.le_refl _, Ints.nil_ ..⟩
 · simp [Value.cells] at hcs
   obtain ⟨rfl, rfl, rfl⟩ := hcs
   simp only [if_true] at hz
   refine ⟨some a, n, c, zs.take n, rfl, hl, by simp; omega, fun x hx => ?_, by unfold maxLen at hm; omega, fun h0 => ?_⟩
   · have := hwz x (List.mem_of_mem_take hx)
     simpa [Lit.wf] using this
   · obtain ⟨b, off, spot⟩ := a
     have hspot : spot = none := by simpa [Addr.add] using World.cell?_spot (hcell 0 (by omega))
     subst hspot
     simp only [Prod.mk.injEq] at hx
     obtain ⟨_, rfl⟩ := hx
     have hmem : ∀ j, j < n → MemPlace.cell b (off + j) ∈ MemPlace.row ⟨b, off, none⟩ zs.length := fun j hj => MemPlace.mem_row.2 ⟨j, by omega, rfl⟩
     refine ⟨b, off, rfl, Nat.zero_le _, hlt _ (hmem 0 h0), fun j hj => ⟨?_, hfz _ _ (hmem j hj)⟩⟩
     have := hcell j (by omega)
     rw [add_plain] at this
     rw [this, List.getElem?_take, if_pos hj]
     simp [List.getD]
end
end Go.Proofs.YtbbnbgllgomolaaDoor
namespace Go.Proofs.YtbbnbgllgomolaaDoor
open Go.ChangeShapes Go.WideShapes Go.ChangeAt Go.RowKit Go.Joins Go.Deep
section
variable {H : Type} {enc : TypeId × Value → H} {P : Program} {W W' : World}
theorem ints_trod {t e : TypeId} {k : IntKind} {fuel : Nat} {v : Value} {x : DataW H × List MemPlace} (ht : P.underlying t = some (.slice e)) (he : P.underlying e = some (.int k)) (hc : P.cellsOf e = 1)
  (h : DataW.trod enc P W 0 (fun _ => true) true fuel t [v] = some x) (hfz : ∀ b off, MemPlace.cell b off ∈ x.2 → W.frozen? ⟨b, off, none⟩ = false) (hlt : ∀ q ∈ x.2, q.block < W.heap.size) :
  ∃ A n c xs, v = .slice A n c ∧ n ≤ c ∧ Ints W 0 W.heap.size k A n xs := by
 rcases open_ints ht he hc h with ⟨hcs, hx⟩ | ⟨a, len, cap, zs, hcs, _, hl, hm, hz, hx, hcell, hwz⟩
 · injection hcs with hcs
   exact ⟨none, 0, 0, [], hcs, Nat.le_refl _, Ints.nil_ ..⟩
 · injection hcs with hcs
   simp only [if_true] at hz
   refine ⟨some a, len, cap, zs.take len, hcs, hl, by simp; omega, fun y hy => ?_, by unfold maxLen at hm; omega, fun h0 => ?_⟩
   · have := hwz y (List.mem_of_mem_take hy)
     simpa [Lit.wf] using this
   · obtain ⟨b, off, spot⟩ := a
     have hspot : spot = none := by simpa [Addr.add] using World.cell?_spot (hcell 0 (by omega))
     subst hspot
     have hmem : ∀ j, j < len → MemPlace.cell b (off + j) ∈ x.2 := fun j hj => by
      rw [hx]
      exact MemPlace.mem_row.2 ⟨j, by omega, rfl⟩
     refine ⟨b, off, rfl, Nat.zero_le _, hlt _ (hmem 0 h0), fun j hj => ⟨?_, hfz _ _ (hmem j hj)⟩⟩
     have := hcell j (by omega)
     rw [add_plain] at this
     rw [this, List.getElem?_take, if_pos hj]
     simp [List.getD]
end
end Go.Proofs.YtbbnbgllgomolaaDoor
namespace Go.Proofs.YtbbnbgllgomolaaDoor
open Go.ChangeShapes Go.WideShapes Go.ChangeAt Go.RowKit Go.Joins Go.Deep
section
variable {H : Type} {enc : TypeId × Value → H} {P : Program} {W W' : World}
theorem dv_trod {td e : TypeId} {k0 k1 k2 : Field} {fuel : Nat} {c0 c1 c2 : Value} {x : DataW H × List MemPlace} (hs : P.underlying td = some (.struct #[k0, k1, k2])) (hone : oneCellFields P #[k0, k1, k2] = true)
  (v0 : P.underlying k0.type = some .bool) (ht : P.underlying k1.type = some (.slice e)) (he : P.underlying e = some (.int .u32)) (hc : P.cellsOf e = 1) (v2 : P.underlying k2.type = some (.int .i64))
  (h : DataW.trod enc P W 0 (fun _ => true) true fuel td [c0, c1, c2] = some x) (hfz : ∀ b off, MemPlace.cell b off ∈ x.2 → W.frozen? ⟨b, off, none⟩ = false) (hlt : ∀ q ∈ x.2, q.block < W.heap.size) :
  ∃ d : Ma.Dv, c0 = .bool d.s ∧ c1 = .slice d.A d.n d.c ∧ c2 = .int .i64 d.e ∧ d.n ≤ d.c ∧ d.Row W 0 W.heap.size := by
 obtain ⟨y0, y1, y2, n, hx, _, h0, h1, h2⟩ := trod_struct3 hs h
 obtain ⟨o0, q0⟩ := hone_of hone 0 k0 rfl
 obtain ⟨o1, q1⟩ := hone_of hone 1 k1 rfl
 obtain ⟨o2, q2⟩ := hone_of hone 2 k2 rfl
 simp only [o0, q0, o1, q1, o2, q2, List.drop_zero, List.take_succ_cons, List.take_zero, List.drop_succ_cons] at h0 h1 h2
 obtain ⟨s, e0, _⟩ := DataW.trod_bool v0 h0
 obtain ⟨z, e2, _, z2⟩ := DataW.trod_int v2 h2
 injection e0 with e0
 injection e2 with e2
 have hx2 : x.2 = y0.2 ++ (y1.2 ++ y2.2) := by rw [hx]
 obtain ⟨A, n', c, xs, e1, hc', hI⟩ := ints_trod ht he hc h1 (fun b off hm => hfz b off (by simp [hx2, hm])) (fun q hq => hlt q (by simp [hx2, hq]))
 exact ⟨⟨s, A, n', c, z, xs⟩, e0, e1, e2, hc', hI⟩
end
end Go.Proofs.YtbbnbgllgomolaaDoor
namespace Go.Proofs.YtbbnbgllgomolaaDoor
open Go.ChangeShapes Go.WideShapes Go.ChangeAt Go.RowKit Go.Joins Go.Deep
section
variable {H : Type} {enc : TypeId × Value → H} {P : Program} {W W' : World}
theorem mass_trod {t td e : TypeId} {f0 f1 f2 f3 k0 k1 k2 : Field} {fuel : Nat} {cs : List Value} {x : DataW H × List MemPlace} (hs : P.underlying t = some (.struct #[f0, f1, f2, f3]))
  (hoff : (f0.offset, f1.offset, f2.offset, f3.offset) = (0, 3, 6, 9)) (hty : (f0.type, f1.type, f2.type, f3.type) = (td, td, td, td)) (hC : P.cellsOf t = 12)
  (hd : P.underlying td = some (.struct #[k0, k1, k2])) (hone : oneCellFields P #[k0, k1, k2] = true) (hC3 : P.cellsOf td = 3)
  (v0 : P.underlying k0.type = some .bool) (ht : P.underlying k1.type = some (.slice e)) (he : P.underlying e = some (.int .u32)) (hc : P.cellsOf e = 1) (v2 : P.underlying k2.type = some (.int .i64))
  (h : DataW.trod enc P W 0 (fun _ => true) true fuel t cs = some x) (hfz : ∀ b off, MemPlace.cell b off ∈ x.2 → W.frozen? ⟨b, off, none⟩ = false) (hlt : ∀ q ∈ x.2, q.block < W.heap.size) :
  ∃ m : Ma.Mv, cs = [.bool m.S.s, .slice m.S.A m.S.n m.S.c, .int .i64 m.S.e, .bool m.W.s, .slice m.W.A m.W.n m.W.c, .int .i64 m.W.e, .bool m.C.s, .slice m.C.A m.C.n m.C.c, .int .i64 m.C.e, .bool m.A.s, .slice m.A.A m.A.n m.A.c, .int .i64 m.A.e] ∧
   Ma.MRows W 0 W.heap.size m := by
 simp only [Prod.mk.injEq] at hoff hty
 obtain ⟨a0, a1, a2, a3⟩ := hoff
 obtain ⟨t0, t1, t2, t3⟩ := hty
 obtain ⟨y0, y1, y2, y3, n, hx, hl, h0, h1, h2, h3⟩ := trod_struct4 hs h
 match cs, hl.trans hC with
 | [c0, c1, c2, c3, c4, c5, c6, c7, c8, c9, c10, c11], _ =>
  have hx2 : x.2 = y0.2 ++ (y1.2 ++ (y2.2 ++ y3.2)) := by rw [hx]
  simp only [a0, a1, a2, a3, t0, t1, t2, t3, hC3, List.drop_zero, List.take_succ_cons, List.take_zero, List.drop_succ_cons] at h0 h1 h2 h3
  obtain ⟨d0, rfl, rfl, rfl, _, r0⟩ := dv_trod hd hone v0 ht he hc v2 h0 (fun b off hm => hfz b off (by simp [hx2, hm])) (fun q hq => hlt q (by simp [hx2, hq]))
  obtain ⟨d1, rfl, rfl, rfl, _, r1⟩ := dv_trod hd hone v0 ht he hc v2 h1 (fun b off hm => hfz b off (by simp [hx2, hm])) (fun q hq => hlt q (by simp [hx2, hq]))
  obtain ⟨d2, rfl, rfl, rfl, _, r2⟩ := dv_trod hd hone v0 ht he hc v2 h2 (fun b off hm => hfz b off (by simp [hx2, hm])) (fun q hq => hlt q (by simp [hx2, hq]))
  obtain ⟨d3, rfl, rfl, rfl, _, r3⟩ := dv_trod hd hone v0 ht he hc v2 h3 (fun b off hm => hfz b off (by simp [hx2, hm])) (fun q hq => hlt q (by simp [hx2, hq]))
  exact ⟨⟨d0, d1, d2, d3⟩, rfl, ⟨r0, r1, r2, r3⟩⟩
instance : Inhabited Ma.Mv := ⟨⟨⟨false, none, 0, 0, 0, []⟩, ⟨false, none, 0, 0, 0, []⟩, ⟨false, none, 0, 0, 0, []⟩, ⟨false, none, 0, 0, 0, []⟩⟩⟩
/-- A list of masses that reads as data. -/
theorem masses_trod {T t td e : TypeId} {f0 f1 f2 f3 k0 k1 k2 : Field} {fuel : Nat} {v : Value} {x : DataW H × List MemPlace} (hT : P.underlying T = some (.slice t)) (hs : P.underlying t = some (.struct #[f0, f1, f2, f3]))
  (hoff : (f0.offset, f1.offset, f2.offset, f3.offset) = (0, 3, 6, 9)) (hty : (f0.type, f1.type, f2.type, f3.type) = (td, td, td, td)) (hC : P.cellsOf t = 12)
  (hd : P.underlying td = some (.struct #[k0, k1, k2])) (hone : oneCellFields P #[k0, k1, k2] = true) (hC3 : P.cellsOf td = 3)
  (v0 : P.underlying k0.type = some .bool) (ht : P.underlying k1.type = some (.slice e)) (he : P.underlying e = some (.int .u32)) (hc : P.cellsOf e = 1) (v2 : P.underlying k2.type = some (.int .i64))
  (h : DataW.trod enc P W 0 (fun _ => true) true fuel T [v] = some x) (hfz : ∀ b off, MemPlace.cell b off ∈ x.2 → W.frozen? ⟨b, off, none⟩ = false) (hlt : ∀ q ∈ x.2, q.block < W.heap.size) :
  ∃ A n c ms, v = .slice A n c ∧ n ≤ c ∧ c ≤ maxLen ∧ Ma.LMs W 0 W.heap.size A n ms := by
 rcases open_slice hT h with ⟨hcs, _⟩ | ⟨a, len, cap, m, k, D, Pl, hcs, _, hl, hm, hmm, hx, hi⟩
 · injection hcs with hcs
   exact ⟨none, 0, 0, [], hcs, Nat.le_refl _, by unfold maxLen; omega, ⟨rfl, by decide, fun h0 => absurd h0 (Nat.lt_irrefl 0), fun j hj => absurd hj (Nat.not_lt_zero _)⟩⟩
 · injection hcs with hcs
   simp only [if_true] at hmm
   subst hmm
   have hx2 : x.2 = MemPlace.row a (m * P.cellsOf t) ++ (List.range m).flatMap Pl := by rw [hx]
   have hmem : ∀ i, i < m → ∀ q ∈ Pl i, q ∈ x.2 := fun i hi' q hq => by
    rw [hx2]
    exact List.mem_append_right _ (List.mem_flatMap.2 ⟨i, List.mem_range.2 hi', hq⟩)
   have hV : ∀ i, i < m → ∃ q : Ma.Mv, (∀ k, k < 12 → W.cell? ((a.add (i * 12)).add k) = [Value.bool q.S.s, .slice q.S.A q.S.n q.S.c, .int .i64 q.S.e, .bool q.W.s, .slice q.W.A q.W.n q.W.c, .int .i64 q.W.e, .bool q.C.s, .slice q.C.A q.C.n q.C.c, .int .i64 q.C.e, .bool q.A.s, .slice q.A.A q.A.n q.A.c, .int .i64 q.A.e][k]?) ∧ Ma.MRows W 0 W.heap.size q := fun i hi' => by
    obtain ⟨cs', h1, h2⟩ := hi i hi'
    rw [hC] at h1
    obtain ⟨_, _, hcell⟩ := World.cells?_some h1
    obtain ⟨q, e, hq⟩ := mass_trod hs hoff hty hC hd hone hC3 v0 ht he hc v2 h2 (fun b off hm => hfz b off (hmem i hi' _ hm)) (fun q hq => hlt q (hmem i hi' q hq))
    subst e
    exact ⟨q, hcell, hq⟩
   obtain ⟨q, hq⟩ := choose_lt hV
   refine ⟨some a, len, m, (List.range len).map q, hcs, hl, hm, by simp, by unfold maxLen at hm; omega, fun h0 => ?_, fun j hj => ?_⟩
   · obtain ⟨b, off, spot⟩ := a
     have hspot : spot = none := by simpa [Addr.add] using World.cell?_spot ((hq 0 (by omega)).1 0 (by decide))
     subst hspot
     have hb : b < W.heap.size := hlt _ (by
      rw [hx2]
      exact List.mem_append_left _ (MemPlace.mem_row.2 ⟨0, by rw [hC]; omega, rfl⟩) : MemPlace.cell b (off + 0) ∈ x.2)
     refine ⟨b, off, rfl, Nat.zero_le _, hb, fun j hj => ?_⟩
     have hj' : j < len := by simpa using hj
     have e : ((List.range len).map q)[j] = q j := by simp
     rw [e]
     have g := (hq j (by omega)).1
     simp only [add_plain] at g
     exact ⟨g 0 (by decide), g 1 (by decide), g 2 (by decide), g 3 (by decide), g 4 (by decide), g 5 (by decide), g 6 (by decide), g 7 (by decide), g 8 (by decide), g 9 (by decide), g 10 (by decide), g 11 (by decide)⟩
   · have e : ((List.range len).map q)[j] = q j := by simp
     rw [e]
     have hj' : j < len := by simpa using hj
     exact (hq j (by omega)).2
/-- A list of masses among the arguments. -/
theorem masses_open {T t td e : TypeId} {f0 f1 f2 f3 k0 k1 k2 : Field} {r : Reach} {b0 : Nat} {v : Value} {d : DataW H} {p : List MemPlace} (hT : P.underlying T = some (.slice t)) (hs : P.underlying t = some (.struct #[f0, f1, f2, f3]))
  (hoff : (f0.offset, f1.offset, f2.offset, f3.offset) = (0, 3, 6, 9)) (hty : (f0.type, f1.type, f2.type, f3.type) = (td, td, td, td)) (hC : P.cellsOf t = 12)
  (hd : P.underlying td = some (.struct #[k0, k1, k2])) (hone : oneCellFields P #[k0, k1, k2] = true) (hC3 : P.cellsOf td = 3)
  (v0 : P.underlying k0.type = some .bool) (ht : P.underlying k1.type = some (.slice e)) (he : P.underlying e = some (.int .u32)) (hc : P.cellsOf e = 1) (v2 : P.underlying k2.type = some (.int .i64))
  (hval : Value.okWide P W r b0 T v) (h : DataW.Trod enc P W 0 (fun _ => true) true T v d p) (hfz : ∀ b off, MemPlace.cell b off ∈ p → W.frozen? ⟨b, off, none⟩ = false) (hlt : ∀ q ∈ p, q.block < W.heap.size) :
  ∃ A n c ms, v = .slice A n c ∧ n ≤ c ∧ c ≤ maxLen ∧ Ma.LMs W 0 W.heap.size A n ms := by
 obtain ⟨A, n, c, rfl⟩ := okWide_slice hT hval
 obtain ⟨fuel, hf⟩ := h
 exact masses_trod hT hs hoff hty hC hd hone hC3 v0 ht he hc v2 (by simpa [Value.cells] using hf) hfz hlt
end
end Go.Proofs.YtbbnbgllgomolaaDoor
namespace Go.Proofs.YtbbnbgllgomolaaDoor
open Go.RowKit
namespace Ma
open Dp Dy
def sets12 (xs : List Value) (o : Nat) (m : Mv) : List Value := ((((((((((((xs.set (o) (.bool m.S.s)).set (o + 1) (.slice m.S.A m.S.n m.S.c)).set (o + 2) (.int .i64 m.S.e)).set (o + 3) (.bool m.W.s)).set (o + 4) (.slice m.W.A m.W.n m.W.c)).set (o + 5) (.int .i64 m.W.e)).set (o + 6) (.bool m.C.s)).set (o + 7) (.slice m.C.A m.C.n m.C.c)).set (o + 8) (.int .i64 m.C.e)).set (o + 9) (.bool m.A.s)).set (o + 10) (.slice m.A.A m.A.n m.A.c)).set (o + 11) (.int .i64 m.A.e))
theorem sets12_app (l xs : List Value) (o : Nat) (m : Mv) : sets12 (l ++ xs) (l.length + o) m = l ++ sets12 xs o m := by
 unfold sets12
 simp only [Nat.add_assoc, List.set_append_right _ _ (Nat.le_add_right _ _), Nat.add_sub_cancel_left]
theorem sets12_head (a m : Mv) (xs : List Value) : sets12 (cells12 a ++ xs) 0 m = cells12 m ++ xs := rfl
theorem flatM_set : ∀ (l : List Mv) (q : Nat) (m : Mv), q < l.length → flatM (l.set q m) = sets12 (flatM l) (q * 12) m
 | [], q, m, h => absurd h (Nat.not_lt_zero _)
 | a :: l, 0, m, _ => by
  show cells12 m ++ flatM l = _
  rw [Nat.zero_mul]
  exact (sets12_head a m (flatM l)).symm
 | a :: l, q + 1, m, h => by
  have ih := flatM_set l q m (by simpa using h)
  have e : (q + 1) * 12 = (cells12 a).length + q * 12 := by simp [cells12]; omega
  show cells12 a ++ flatM (l.set q m) = sets12 (cells12 a ++ flatM l) ((q + 1) * 12) m
  rw [e, sets12_app, ih]
/-- A mass is stored. -/
theorem OwnM.put {w : World} {base g o n c : Nat} {ms : List Mv} (h : OwnM w base (.slice (some ⟨g, o, none⟩) n c) n ms) (ho : o = 0) {q : Nat} (hq : q < ms.length) (m : Mv) (hm : MRows w 0 w.heap.size m) (hoff : m.off (some g)) :
  ∃ U, ((((((((((((w.setCell ⟨g, o + q * 12, none⟩ (.bool m.S.s)).setCell ⟨g, o + q * 12 + 1, none⟩ (.slice m.S.A m.S.n m.S.c)).setCell ⟨g, o + q * 12 + 2, none⟩ (.int .i64 m.S.e)).setCell ⟨g, o + q * 12 + 3, none⟩ (.bool m.W.s)).setCell ⟨g, o + q * 12 + 4, none⟩ (.slice m.W.A m.W.n m.W.c)).setCell ⟨g, o + q * 12 + 5, none⟩ (.int .i64 m.W.e)).setCell ⟨g, o + q * 12 + 6, none⟩ (.bool m.C.s)).setCell ⟨g, o + q * 12 + 7, none⟩ (.slice m.C.A m.C.n m.C.c)).setCell ⟨g, o + q * 12 + 8, none⟩ (.int .i64 m.C.e)).setCell ⟨g, o + q * 12 + 9, none⟩ (.bool m.A.s)).setCell ⟨g, o + q * 12 + 10, none⟩ (.slice m.A.A m.A.n m.A.c)).setCell ⟨g, o + q * 12 + 11, none⟩ (.int .i64 m.A.e)) = U ∧ OwnM U base (.slice (some ⟨g, o, none⟩) n c) n (ms.set q m) ∧ (∀ w0 B, Below B w0 w → B ≤ g → Below B w0 U) ∧ (∀ j, j ≠ g → U.heap[j]? = w.heap[j]?) ∧ U.heap.size ≤ w.heap.size ∧ w.heap.size ≤ U.heap.size := by
 subst ho
 refine ⟨_, rfl, ?_, ?_, ?_, ?_, ?_⟩
 · have e : ∀ (x : Nat), 0 + x = x := Nat.zero_add
   have hown := h.own
   have k1 := World.ownsRow.stored hown (q * 12) (.bool m.S.s)
   have k2 := World.ownsRow.stored k1.1 (q * 12 + 1) (.slice m.S.A m.S.n m.S.c)
   have k3 := World.ownsRow.stored k2.1 (q * 12 + 2) (.int .i64 m.S.e)
   have k4 := World.ownsRow.stored k3.1 (q * 12 + 3) (.bool m.W.s)
   have k5 := World.ownsRow.stored k4.1 (q * 12 + 4) (.slice m.W.A m.W.n m.W.c)
   have k6 := World.ownsRow.stored k5.1 (q * 12 + 5) (.int .i64 m.W.e)
   have k7 := World.ownsRow.stored k6.1 (q * 12 + 6) (.bool m.C.s)
   have k8 := World.ownsRow.stored k7.1 (q * 12 + 7) (.slice m.C.A m.C.n m.C.c)
   have k9 := World.ownsRow.stored k8.1 (q * 12 + 8) (.int .i64 m.C.e)
   have k10 := World.ownsRow.stored k9.1 (q * 12 + 9) (.bool m.A.s)
   have k11 := World.ownsRow.stored k10.1 (q * 12 + 10) (.slice m.A.A m.A.n m.A.c)
   have k12 := World.ownsRow.stored k11.1 (q * 12 + 11) (.int .i64 m.A.e)
   have hg : w.grownBy ((((((((((((w.setCell ⟨g, q * 12, none⟩ (.bool m.S.s)).setCell ⟨g, q * 12 + 1, none⟩ (.slice m.S.A m.S.n m.S.c)).setCell ⟨g, q * 12 + 2, none⟩ (.int .i64 m.S.e)).setCell ⟨g, q * 12 + 3, none⟩ (.bool m.W.s)).setCell ⟨g, q * 12 + 4, none⟩ (.slice m.W.A m.W.n m.W.c)).setCell ⟨g, q * 12 + 5, none⟩ (.int .i64 m.W.e)).setCell ⟨g, q * 12 + 6, none⟩ (.bool m.C.s)).setCell ⟨g, q * 12 + 7, none⟩ (.slice m.C.A m.C.n m.C.c)).setCell ⟨g, q * 12 + 8, none⟩ (.int .i64 m.C.e)).setCell ⟨g, q * 12 + 9, none⟩ (.bool m.A.s)).setCell ⟨g, q * 12 + 10, none⟩ (.slice m.A.A m.A.n m.A.c)).setCell ⟨g, q * 12 + 11, none⟩ (.int .i64 m.A.e)) (some g) := (((((((((((k1.2.trans k2.2).trans k3.2).trans k4.2).trans k5.2).trans k6.2).trans k7.2).trans k8.2).trans k9.2).trans k10.2).trans k11.2).trans k12.2)
   have hrows : ∀ y ∈ ms.set q m, MRows w 0 w.heap.size y ∧ y.off (some g) := fun y hy => by
    rcases List.mem_or_eq_of_mem_set hy with hy | rfl
    · exact ⟨h.rows y hy, h.off y hy⟩
    · exact ⟨hm, hoff⟩
   simp only [e]
   exact ⟨by rw [flatM_set ms q m hq]; exact k12.1, by simp [h.len], fun y hy => rows_grown (hrows y hy).1 hg (hrows y hy).2, fun y hy => (hrows y hy).2⟩
 · intro w0 B hb hg
   exact ((((((((((((hb.setCell hg _).setCell hg _).setCell hg _).setCell hg _).setCell hg _).setCell hg _).setCell hg _).setCell hg _).setCell hg _).setCell hg _).setCell hg _).setCell hg _)
 · intro j hj
   exact ((Below.heap_setCell _ _ _ _ hj).trans ((Below.heap_setCell _ _ _ _ hj).trans ((Below.heap_setCell _ _ _ _ hj).trans ((Below.heap_setCell _ _ _ _ hj).trans ((Below.heap_setCell _ _ _ _ hj).trans ((Below.heap_setCell _ _ _ _ hj).trans ((Below.heap_setCell _ _ _ _ hj).trans ((Below.heap_setCell _ _ _ _ hj).trans ((Below.heap_setCell _ _ _ _ hj).trans ((Below.heap_setCell _ _ _ _ hj).trans ((Below.heap_setCell _ _ _ _ hj).trans (Below.heap_setCell _ _ _ _ hj))))))))))))
 · simp [World.setCell]
 · simp [World.setCell]
/-- The cells of one of an own list. -/
theorem OwnM.mcells {w : World} {base g o n c : Nat} {ms : List Mv} (h : OwnM w base (.slice (some ⟨g, o, none⟩) n c) n ms) (ho : o = 0) {q : Nat} (hq : q < ms.length) : MCells w g (o + q * 12) ms[q] := by
 subst ho
 refine mcells_of fun k hk => ?_
 rw [Nat.zero_add, h.own.cellAt (q * 12 + k) (by have := h.len; omega)]
 exact flatM_get ms q k hq hk
theorem OwnM.frz {w : World} {base g o n c : Nat} {ms : List Mv} (h : OwnM w base (.slice (some ⟨g, o, none⟩) n c) n ms) (ho : o = 0) (j : Nat) : w.frozen? ⟨g, j, none⟩ = false := by
 subst ho
 exact h.own.frozenAt j
end Ma
end Go.Proofs.YtbbnbgllgomolaaDoor
namespace Go.Proofs.YtbbnbgllgomolaaDoor
namespace Ma
open Dp Dy
/-- One more number: the least and the greatest one. -/
def stepE : Option (Dn × Dn) → Dn → Option (Dn × Dn)
 | none, x => some (x, x)
 | some (lo, hi), x => some (if cmpD x lo < 0 then x else lo, if 0 < cmpD x hi then x else hi)
end Ma
end Go.Proofs.YtbbnbgllgomolaaDoor
namespace Go.Proofs.YtbbnbgllgomolaaDoor
open Go.ChangeShapes Go.WideShapes Go.ChangeAt Go.RowKit Go.Joins
theorem Tryd.laidOut : laidOutB Tryd.prog = true := by kernel_rfl
namespace Dy
theorem ownKnob_ : ownKnob Tryd.prog.godebug = none := by kernel_rfl
theorem gTab : Tryd.prog.globalNamed "math/bits.deBruijn32tab" = some 0 := by kernel_rfl
theorem tTab : (Tryd.prog.globals[0]?).map (·.type) = some 120 := by kernel_rfl
abbrev laidT : List (String × DataW Unit) := [("math/bits.deBruijn32tab", Rows.laid_math_bits_deBruijn32tab)]
theorem laid_list : (Rows.laid_math_bits_deBruijn32tab : DataW Unit) = .agg (Lib.deBruijn32tab.map fun n => .lit (.int .u8 (n : Nat))) := rfl
/-- The door's own heap meets the condition. -/
theorem door_met (os : Os) (args : Array Value) : laidMetH Tryd.prog laidT ((World.doorLaid Tryd.prog 400 os).forCall (fun _ _ => 0) ⟨#[], args, []⟩).memory :=
 laidMetH_of_parts3 (fuel := 8) (laidMet_of_run' 8 (by kernel_rfl) (by kernel_rfl)) (by kernel_rfl) (by kernel_rfl)
theorem door_shaped (os : Os) (args : Array Value) : ((World.doorLaid Tryd.prog 400 os).forCall (fun _ _ => 0) ⟨#[], args, []⟩).Shaped Tryd.prog := World.shaped_of_RefB (by kernel_rfl) (by kernel_rfl)
theorem tab_cells {H : Type} {enc : TypeId × Value → H} {W : World} {fuel : Nat} {cs : List Value} {d : DataW H} {p : List MemPlace} {held : Bool} {spare : Nat → Bool} (l : List Nat) (hd : d = .agg (l.map fun n => .lit (.int .u8 (n : Nat))))
  (h : DataW.trod enc Tryd.prog W 0 spare held fuel 120 cs = some (d, p)) : ∀ j, j < 32 → cs[j]? = some (.int .u8 (l.getD j 0)) := by
 intro j hj
 obtain ⟨xs, m1, rfl, hx1, hlen, hn3, hel⟩ := DataW.trod_array Tryd.underlying120 h
 have c3 : Tryd.prog.cellsOf 5 = 1 := by kernel_rfl
 have h0 := hel j hj
 rw [c3] at h0
 have hxj : j < xs.length := by omega
 rw [List.getElem?_eq_getElem hxj] at h0
 obtain ⟨k, e1, e2, _⟩ := DataW.trod_int Tryd.underlying5 h0
 simp only [Prod.mk.injEq] at hx1
 rw [hd] at hx1
 simp only [DataW.agg.injEq] at hx1
 have hmap := congrArg (fun t => t[j]?) hx1.1
 simp only [List.getElem?_map] at hmap
 rw [List.getElem?_eq_getElem hxj] at hmap
 simp only [Option.map_some, e2] at hmap
 cases hlj : l[j]? with
 | none => rw [hlj] at hmap; cases hmap
 | some v =>
  rw [hlj] at hmap
  simp only [Option.map_some, Option.some.injEq, DataW.lit.injEq, Lit.int.injEq, true_and] at hmap
  have hg : l.getD j 0 = v := by simp [List.getD, hlj]
  rw [hg, hmap]
  have := congrArg (fun t => t[0]?) e1
  simpa using this
/-- What the condition gives a walk. -/
theorem tab_of_laid {W : World} (h : laidMetH Tryd.prog laidT W) : Tab W := by
 rw [MakeChecks.laidMetH_plain _ _ _ (by kernel_rfl)] at h
 obtain ⟨ps, ⟨g0, t0, cs0, f0, p0, q0, hg0, ht0, hv0, hd0, _, _⟩, _, _⟩ := h
 obtain rfl := Option.some.inj (gTab.symm.trans hg0)
 obtain rfl := Option.some.inj (tTab.symm.trans ht0)
 refine ⟨fun j hj => ?_⟩
 have h1 := tab_cells Lib.deBruijn32tab laid_list hd0 j hj
 have h2 := World.var?_cell hg0 hv0 j
 rw [h2]
 simpa using h1
end Dy
end Go.Proofs.YtbbnbgllgomolaaDoor