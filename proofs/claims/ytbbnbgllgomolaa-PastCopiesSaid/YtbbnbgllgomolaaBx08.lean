/- Masses among the arguments. -/
/- A mass is stored into an own list (printed by a program of mine). -/
/- push.both$1: whatever comes of the two calls; small laws for push.Take. -/
/- Shares' means, and what they lie between, in numbers. No program in sight. -/
/- RegionE: ways that meet: what stands where they meet is said once, and walked once. No program in sight. -/
/- The laws of shares: what push.Between tells. No program in sight. -/
/- Shares with known numbers: what is kept, sent, taken, told. No program in sight. -/
/- headcountlaw15.spoil: a walk; rows that are spoilt one behind the other. -/
import Derived.Test.YtbbnbgllgomolaaBx07
import Derived.Test.YtbbnbgllgomolaaBx05
import Derived.Deep.Cut
import Derived.Laws.StructEq
import Derived.Test.YtbbnbgllgomolaaRows
import Derived.LaidMore
import Derived.OpenShut
import Derived.Stop.Joined
import Derived.Test.YtbbnbgllgomolaaBx04
import Derived.Test.YtbbnbgllgomolaaBx03
import Derived.Test.YtbbnbgllgomolaaBx06
import Derived.Test.YtbbnbgllgomolaaBx02
namespace Go.Proofs.Ytbbnbgllgomolaa
open Go.ChangeShapes Go.WideShapes Go.ChangeAt Go.RowKit Go.Joins Go.Deep
section
variable {H : Type} {enc : TypeId × Value → H} {P : Program} {W W' : World}
theorem dv_trod {td e : TypeId} {k0 k1 k2 : Field} {fuel : Nat} {c0 c1 c2 : Value} {x : DataW H × List MemPlace} (hs : P.underlying td = some (.struct #[k0, k1, k2])) (hone : oneCellFields P #[k0, k1, k2] = true)
  (v0 : P.underlying k0.type = some .bool) (ht : P.underlying k1.type = some (.slice e)) (he : P.underlying e = some (.int .u32)) (hc : P.cellsOf e = 1) (v2 : P.underlying k2.type = some (.int .i64))
  (h : DataW.trod enc P W 0 (fun _ => true) true fuel td [c0, c1, c2] = some x) (hfz : ∀ b off, MemPlace.cell b off ∈ x.2 → W.frozen? ⟨b, off, none⟩ = false) (hlt : ∀ q ∈ x.2, q.block < W.heap.size) :
  ∃ d : Ma.Dv, c0 = .bool d.s ∧ c1 = .slice d.A d.n d.c ∧ c2 = .int .i64 d.e ∧ d.n ≤ d.c ∧ d.Row W 0 W.heap.size := by
 obtain ⟨y0, y1, y2, n, hx, _, h0, h1, h2⟩ := trod_struct3 hs h
 obtain ⟨o0, q0⟩ := hone_of hone 0 k0 rfl
 obtain ⟨o1, q1⟩ := hone_of hone 1 k1 rfl
 obtain ⟨o2, q2⟩ := hone_of hone 2 k2 rfl
 simp only [o0, q0, o1, q1, o2, q2, List.drop_zero, List.take_succ_cons, List.take_zero, List.drop_succ_cons] at h0 h1 h2
 obtain ⟨s, e0, _⟩ := DataW.trod_bool v0 h0
 obtain ⟨z, e2, _, z2⟩ := DataW.trod_int v2 h2
 injection e0 with e0
 injection e2 with e2
 have hx2 : x.2 = y0.2 ++ (y1.2 ++ y2.2) := by rw [hx]
 obtain ⟨A, n', c, xs, e1, hc', hI⟩ := ints_trod ht he hc h1 (fun b off hm => hfz b off (by simp [hx2, hm])) (fun q hq => hlt q (by simp [hx2, hq]))
 exact ⟨⟨s, A, n', c, z, xs⟩, e0, e1, e2, hc', hI⟩
end
end Go.Proofs.Ytbbnbgllgomolaa
namespace Go.Proofs.Ytbbnbgllgomolaa
open Go.RowKit
namespace Ma
open Dp Dy
def sets12 (xs : List Value) (o : Nat) (m : Mv) : List Value := ((((((((((((xs.set (o) (.bool m.S.s)).set (o + 1) (.slice m.S.A m.S.n m.S.c)).set (o + 2) (.int .i64 m.S.e)).set (o + 3) (.bool m.W.s)).set (o + 4) (.slice m.W.A m.W.n m.W.c)).set (o + 5) (.int .i64 m.W.e)).set (o + 6) (.bool m.C.s)).set (o + 7) (.slice m.C.A m.C.n m.C.c)).set (o + 8) (.int .i64 m.C.e)).set (o + 9) (.bool m.A.s)).set (o + 10) (.slice m.A.A m.A.n m.A.c)).set (o + 11) (.int .i64 m.A.e))
theorem sets12_app (l xs : List Value) (o : Nat) (m : Mv) : sets12 (l ++ xs) (l.length + o) m = l ++ sets12 xs o m := by
 unfold sets12
 simp only [Nat.add_assoc, List.set_append_right _ _ (Nat.le_add_right _ _), Nat.add_sub_cancel_left]
theorem sets12_head (a m : Mv) (xs : List Value) : sets12 (cells12 a ++ xs) 0 m = cells12 m ++ xs := rfl
theorem flatM_set : ∀ (l : List Mv) (q : Nat) (m : Mv), q < l.length → flatM (l.set q m) = sets12 (flatM l) (q * 12) m
 | [], q, m, h => absurd h (Nat.not_lt_zero _)
 | a :: l, 0, m, _ => by
  show cells12 m ++ flatM l = _
  rw [Nat.zero_mul]
  exact (sets12_head a m (flatM l)).symm
 | a :: l, q + 1, m, h => by
  have ih := flatM_set l q m (by simpa using h)
  have e : (q + 1) * 12 = (cells12 a).length + q * 12 := by simp [cells12]; omega
  show cells12 a ++ flatM (l.set q m) = sets12 (cells12 a ++ flatM l) ((q + 1) * 12) m
  rw [e, sets12_app, ih]
/-- A mass is stored. -/
theorem OwnM.put {w : World} {base g o n c : Nat} {ms : List Mv} (h : OwnM w base (.slice (some ⟨g, o, none⟩) n c) n ms) (ho : o = 0) {q : Nat} (hq : q < ms.length) (m : Mv) (hm : MRows w 0 w.heap.size m) (hoff : m.off (some g)) :
  ∃ U, ((((((((((((w.setCell ⟨g, o + q * 12, none⟩ (.bool m.S.s)).setCell ⟨g, o + q * 12 + 1, none⟩ (.slice m.S.A m.S.n m.S.c)).setCell ⟨g, o + q * 12 + 2, none⟩ (.int .i64 m.S.e)).setCell ⟨g, o + q * 12 + 3, none⟩ (.bool m.W.s)).setCell ⟨g, o + q * 12 + 4, none⟩ (.slice m.W.A m.W.n m.W.c)).setCell ⟨g, o + q * 12 + 5, none⟩ (.int .i64 m.W.e)).setCell ⟨g, o + q * 12 + 6, none⟩ (.bool m.C.s)).setCell ⟨g, o + q * 12 + 7, none⟩ (.slice m.C.A m.C.n m.C.c)).setCell ⟨g, o + q * 12 + 8, none⟩ (.int .i64 m.C.e)).setCell ⟨g, o + q * 12 + 9, none⟩ (.bool m.A.s)).setCell ⟨g, o + q * 12 + 10, none⟩ (.slice m.A.A m.A.n m.A.c)).setCell ⟨g, o + q * 12 + 11, none⟩ (.int .i64 m.A.e)) = U ∧ OwnM U base (.slice (some ⟨g, o, none⟩) n c) n (ms.set q m) ∧ (∀ w0 B, Below B w0 w → B ≤ g → Below B w0 U) ∧ (∀ j, j ≠ g → U.heap[j]? = w.heap[j]?) ∧ U.heap.size ≤ w.heap.size ∧ w.heap.size ≤ U.heap.size := by
 subst ho
 refine ⟨_, rfl, ?_, ?_, ?_, ?_, ?_⟩
 · have e : ∀ (x : Nat), 0 + x = x := Nat.zero_add
   have hown := h.own
   have k1 := World.ownsRow.stored hown (q * 12) (.bool m.S.s)
   have k2 := World.ownsRow.stored k1.1 (q * 12 + 1) (.slice m.S.A m.S.n m.S.c)
   have k3 := World.ownsRow.stored k2.1 (q * 12 + 2) (.int .i64 m.S.e)
   have k4 := World.ownsRow.stored k3.1 (q * 12 + 3) (.bool m.W.s)
   have k5 := World.ownsRow.stored k4.1 (q * 12 + 4) (.slice m.W.A m.W.n m.W.c)
   have k6 := World.ownsRow.stored k5.1 (q * 12 + 5) (.int .i64 m.W.e)
   have k7 := World.ownsRow.stored k6.1 (q * 12 + 6) (.bool m.C.s)
   have k8 := World.ownsRow.stored k7.1 (q * 12 + 7) (.slice m.C.A m.C.n m.C.c)
   have k9 := World.ownsRow.stored k8.1 (q * 12 + 8) (.int .i64 m.C.e)
   have k10 := World.ownsRow.stored k9.1 (q * 12 + 9) (.bool m.A.s)
   have k11 := World.ownsRow.stored k10.1 (q * 12 + 10) (.slice m.A.A m.A.n m.A.c)
   have k12 := World.ownsRow.stored k11.1 (q * 12 + 11) (.int .i64 m.A.e)
   have hg : w.grownBy ((((((((((((w.setCell ⟨g, q * 12, none⟩ (.bool m.S.s)).setCell ⟨g, q * 12 + 1, none⟩ (.slice m.S.A m.S.n m.S.c)).setCell ⟨g, q * 12 + 2, none⟩ (.int .i64 m.S.e)).setCell ⟨g, q * 12 + 3, none⟩ (.bool m.W.s)).setCell ⟨g, q * 12 + 4, none⟩ (.slice m.W.A m.W.n m.W.c)).setCell ⟨g, q * 12 + 5, none⟩ (.int .i64 m.W.e)).setCell ⟨g, q * 12 + 6, none⟩ (.bool m.C.s)).setCell ⟨g, q * 12 + 7, none⟩ (.slice m.C.A m.C.n m.C.c)).setCell ⟨g, q * 12 + 8, none⟩ (.int .i64 m.C.e)).setCell ⟨g, q * 12 + 9, none⟩ (.bool m.A.s)).setCell ⟨g, q * 12 + 10, none⟩ (.slice m.A.A m.A.n m.A.c)).setCell ⟨g, q * 12 + 11, none⟩ (.int .i64 m.A.e)) (some g) := (((((((((((k1.2.trans k2.2).trans k3.2).trans k4.2).trans k5.2).trans k6.2).trans k7.2).trans k8.2).trans k9.2).trans k10.2).trans k11.2).trans k12.2)
   have hrows : ∀ y ∈ ms.set q m, MRows w 0 w.heap.size y ∧ y.off (some g) := fun y hy => by
    rcases List.mem_or_eq_of_mem_set hy with hy | rfl
    · exact ⟨h.rows y hy, h.off y hy⟩
    · exact ⟨hm, hoff⟩
   simp only [e]
   exact ⟨by rw [flatM_set ms q m hq]; exact k12.1, by simp [h.len], fun y hy => rows_grown (hrows y hy).1 hg (hrows y hy).2, fun y hy => (hrows y hy).2⟩
 · intro w0 B hb hg
   exact ((((((((((((hb.setCell hg _).setCell hg _).setCell hg _).setCell hg _).setCell hg _).setCell hg _).setCell hg _).setCell hg _).setCell hg _).setCell hg _).setCell hg _).setCell hg _)
 · intro j hj
   exact ((Below.heap_setCell _ _ _ _ hj).trans ((Below.heap_setCell _ _ _ _ hj).trans ((Below.heap_setCell _ _ _ _ hj).trans ((Below.heap_setCell _ _ _ _ hj).trans ((Below.heap_setCell _ _ _ _ hj).trans ((Below.heap_setCell _ _ _ _ hj).trans ((Below.heap_setCell _ _ _ _ hj).trans ((Below.heap_setCell _ _ _ _ hj).trans ((Below.heap_setCell _ _ _ _ hj).trans ((Below.heap_setCell _ _ _ _ hj).trans ((Below.heap_setCell _ _ _ _ hj).trans (Below.heap_setCell _ _ _ _ hj))))))))))))
 · simp [World.setCell]
 · simp [World.setCell]
end Ma
end Go.Proofs.Ytbbnbgllgomolaa
namespace Go.Proofs.Ytbbnbgllgomolaa
open Go.RowKit
namespace Ma
open Dp Dy
/-- What both tells. -/
def BothR (a b : Dv) (q f : Int) (X Y : Dv) (c : Int) : Prop :=
 (q = 0 ∧ f = 0 ∧ X = a ∧ Y = b ∧ c = 0) ∨ (q ≠ 0 ∧ X = ZM.C ∧ Y = ZM.C ∧ c = q) ∨ (q = 0 ∧ f ≠ 0 ∧ X = ZM.C ∧ Y = ZM.C ∧ c = f)
theorem BothR.all {a b : Dv} {q f : Int} {X Y : Dv} {c : Int} (h : BothR a b q f X Y c) {P : Dv → Prop} (ha : P a) (hb : P b) (hz : P ZM.C) : P X ∧ P Y := by
 rcases h with ⟨_, _, rfl, rfl, _⟩ | ⟨_, rfl, rfl, _⟩ | ⟨_, _, rfl, rfl, _⟩
 · exact ⟨ha, hb⟩
 · exact ⟨hz, hz⟩
 · exact ⟨hz, hz⟩
/-- A row, in neither of two blocks. -/
def OffD (w : World) (lo g g' : Nat) (d : Dv) : Prop := Ints w lo w.heap.size .u32 d.A d.n d.xs ∧ (0 < d.n → ∀ b off, d.A = some ⟨b, off, none⟩ → b ≠ g ∧ b ≠ g')
theorem OffD.zero (w : World) (lo g g' : Nat) : OffD w lo g g' ZM.C := ⟨Ints.nil_ .., fun h => absurd h (Nat.lt_irrefl 0)⟩
theorem OffD.of {w : World} {lo l h g g' : Nat} {d : Dv} (hI : Ints w l h .u32 d.A d.n d.xs) (hl : lo ≤ l) (hh : h ≤ w.heap.size) (h1 : g < l ∨ h ≤ g) (h2 : g' < l ∨ h ≤ g') : OffD w lo g g' d :=
 ⟨hI.more hl hh, fun h0 b off e => by
  obtain ⟨b', off', e', k1, k2, _⟩ := hI.row h0
  rw [e] at e'
  injection e' with e'
  injection e' with e1 _ _
  subst e1
  exact ⟨by omega, by omega⟩⟩
theorem OffD.far {w w' : World} {lo g g' j : Nat} {d : Dv} (h : OffD w lo g g' d) (hf : ∀ k, k ≠ j → w'.heap[k]? = w.heap[k]?) (hs : w'.heap.size = w.heap.size) (hj : j = g ∨ j = g') : OffD w' lo g g' d :=
 ⟨by rw [hs]; exact ints_off h.1 h.2 hf hj, h.2⟩
end Ma
end Go.Proofs.Ytbbnbgllgomolaa
namespace Go.Proofs.Ytbbnbgllgomolaa
open Go.RowKit
namespace Ma
open Dp Dy
theorem BothR.two {a b : Dv} {q f : Int} {X Y : Dv} {c : Int} (h : BothR a b q f X Y c) {P Q : Dv → Prop} (ha : P a) (hb : Q b) (hz : P ZM.C) (hz' : Q ZM.C) : P X ∧ Q Y := by
 rcases h with ⟨_, _, rfl, rfl, _⟩ | ⟨_, rfl, rfl, _⟩ | ⟨_, _, rfl, rfl, _⟩
 · exact ⟨ha, hb⟩
 · exact ⟨hz, hz'⟩
 · exact ⟨hz, hz'⟩
end Ma
end Go.Proofs.Ytbbnbgllgomolaa
namespace Go.Proofs.Ytbbnbgllgomolaa
open Go.RowKit
section
variable {P : Program} {os : List Oper} {Q : Exit → Act → World → Prop} {md : Region.Mode} {S : World → Prop} {E : List Nat} {B : Act → World → Prop} {Lf : Array Bool} {m : Nat}
/-- A way that may end where B stands and Lf is listed. -/
def wpAnyC (B : Act → World → Prop) (Lf : Array Bool) (m : Nat) (P : Program) (md : Region.Mode) (ops : Array Oper) (Q : Exit → Act → World → Prop) (S : World → Prop) (E : List Nat) (n : Nat) (L : Array Bool) (a : Act) (w : World) : Prop :=
 (∀ a' w', B a' w' → wpAnyE P md ops Q S E m Lf a' w') → wpAnyE P md ops Q S E n L a w
theorem E_of_C {ops : Array Oper} (B : Act → Act → World → Prop) (Lf : Array Bool) (m : Nat) {k : Nat} {L : Array Bool} {a : Act} {w : World} (h : ∀ a' w', B a a' w' → wpAnyE P md ops Q S E m Lf a' w')
  (hg : wpAnyC (B a) Lf m P md ops Q S E k L a w) : wpAnyE P md ops Q S E k L a w := hg h
theorem leafC {ops : Array Oper} {a : Act} {w : World} (h : B a w) : wpAnyC B Lf m P md ops Q S E m Lf a w := fun hl => hl a w h
theorem pureC {i n : Nat} {oi : Oper} {v : Value} {listed L : Array Bool} {a : Act} {w : World} (hi : os[i]? = some oi) (hL : listed.setIfInBounds i true = L)
  (hs : Region.noSelect os.toArray = true) (hf : Region.free md os.toArray listed i = true) (hr : (Region.ready md os.toArray listed).contains i = true)
  (hQ : ∀ c a w, Q (.panic c) (a.put oi.dst v) w → Q (.panic c) a w) (hw : Region.wanted oi (yielded os.toArray a.tmps) = true) (hy : ∀ w, (execOp a.eval oi).run P w = .ok (.value v) w)
  (h : wpAnyC B Lf m P md os.toArray Q S E n L (a.put oi.dst v) w) : wpAnyC B Lf m P md os.toArray Q S E (n + 1) listed a w := fun hl => pureE hi hL hs hf hr hQ hw hy (h hl)
theorem zC (i : Nat) (L : Array Bool) (v : Value) {n : Nat} {oi : Oper} {listed : Array Bool} {a : Act} {w : World} (hi : os[i]? = some oi) (hy : ∀ w, (execOp a.eval oi).run P w = .ok (.value v) w)
  (h : wpAnyC B Lf m P md os.toArray Q S E n L (a.put oi.dst v) w) (hL : listed.setIfInBounds i true = L := by rfl)
  (hs : Region.noSelect os.toArray = true := by kernel_rfl) (hf : Region.free md os.toArray listed i = true := by kernel_rfl) (hr : (Region.ready md os.toArray listed).contains i = true := by kernel_rfl)
  (hQ : ∀ c a w, Q (.panic c) (a.put oi.dst v) w → Q (.panic c) a w := by exact fun _ _ _ h => h) (hw : Region.wanted oi (yielded os.toArray a.tmps) = true := by rfl) : wpAnyC B Lf m P md os.toArray Q S E (n + 1) listed a w := pureC hi hL hs hf hr hQ hw hy h
theorem stepC {i n : Nat} {oi : Oper} {listed L : Array Bool} {a : Act} {w : World} (hi : os[i]? = some oi) (hL : listed.setIfInBounds i true = L)
  (hr : Region.ready md os.toArray listed = [i]) (hw : Region.wanted oi (yielded os.toArray a.tmps) = true)
  (h : ∀ K' : Act → World → Prop, Shut (∀ a w', ((E.contains i = false → S w → S w') ∧ wpAnyC B Lf m P md os.toArray Q S E n L a w') → K' a w') → Oper.wp P oi a w K' Q) :
  wpAnyC B Lf m P md os.toArray Q S E (n + 1) listed a w := fun hl => stepK hi hL hr hw fun K' hK => h K' fun a w' hh => hK a w' ⟨hh.1, hh.2 hl⟩
theorem stepC2 {i j n : Nat} {oi oj : Oper} {listed Li Lj : Array Bool} {a : Act} {w : World} (hi : os[i]? = some oi) (hj : os[j]? = some oj) (hLi : listed.setIfInBounds i true = Li) (hLj : listed.setIfInBounds j true = Lj)
  (hr : Region.ready md os.toArray listed = [i, j]) (hwi : Region.wanted oi (yielded os.toArray a.tmps) = true) (hwj : Region.wanted oj (yielded os.toArray a.tmps) = true)
  (h : ∀ K' : Act → World → Prop, Shut (∀ a w', ((E.contains i = false → S w → S w') ∧ wpAnyC B Lf m P md os.toArray Q S E n Li a w') → K' a w') → Oper.wp P oi a w K' Q)
  (h' : ∀ K' : Act → World → Prop, Shut (∀ a w', ((E.contains j = false → S w → S w') ∧ wpAnyC B Lf m P md os.toArray Q S E n Lj a w') → K' a w') → Oper.wp P oj a w K' Q) :
  wpAnyC B Lf m P md os.toArray Q S E (n + 1) listed a w := fun hl => stepK2 hi hj hLi hLj hr hwi hwj (fun K' hK => h K' fun a w' hh => hK a w' ⟨hh.1, hh.2 hl⟩) (fun K' hK => h' K' fun a w' hh => hK a w' ⟨hh.1, hh.2 hl⟩)
end
end Go.Proofs.Ytbbnbgllgomolaa
namespace Go.Proofs.Ytbbnbgllgomolaa
open Go.RowKit
namespace Ma
open Dp Dy
theorem xs_nil {w : World} {lo hi : Nat} {A : Option Addr} {n : Nat} {xs : List Int} (h : Ints w lo hi .u32 A n xs) : n = 0 ↔ xs = [] := by
 have := h.len
 constructor
 · intro h0
   exact List.length_eq_zero_iff.1 (by omega)
 · intro h0
   rw [h0] at this
   exact this.symm
end Ma
end Go.Proofs.Ytbbnbgllgomolaa
namespace Go.Proofs.Ytbbnbgllgomolaa
open Go.RowKit
namespace Ma
open Dp Dy
theorem IsM.dn {R : Nat → Dn} {m : Mv} (h : IsM R m) {x : Nat} (hx : x < 4) : dnM m x = R x := by
 obtain ⟨h1, h2, h3⟩ := h x hx
 unfold dnM
 rw [h1, h2, h3]
 exact dn_of
theorem can_nil {r : Dn} (h : canon 4294967296 r.m = []) : r.m = 0 := by
 have e : (Dy.dn r.neg (canon 4294967296 r.m) r.e).m = r.m := by rw [dn_of]
 rw [h] at e
 exact e.symm
theorem Is.len {w : World} {lo hi : Nat} {r : Dn} {d : Dv} (h : Is r d) (hI : Ints w lo hi .u32 d.A d.n d.xs) : d.n = 0 ↔ r.m = 0 := by
 rw [xs_nil hI, h.2.2]
 exact ⟨can_nil, fun h0 => by rw [h0]; rfl⟩
end Ma
end Go.Proofs.Ytbbnbgllgomolaa
namespace Go.Proofs.Ytbbnbgllgomolaa
open Go.RowKit
namespace Dy
open Dp
/-- Cells that may be written. -/
def WrS (w : World) (b off n : Nat) : Prop := ∀ j, j < n → (∃ u, w.cell? ⟨b, off + j, none⟩ = some u) ∧ w.frozen? ⟨b, off + j, none⟩ = false
theorem WrS.set_ {w : World} {b off n : Nat} (h : WrS w b off n) (p : Addr) (v : Value) : WrS (w.setCell p v) b off n := fun j hj => by
 obtain ⟨⟨u, h1⟩, h2⟩ := h j hj
 refine ⟨?_, by rw [World.frozen?_setCell]; exact h2⟩
 by_cases e : p = ⟨b, off + j, none⟩
 · subst e
   exact ⟨v, World.cell?_setCell_same' _ _ _ (by rw [h1]; rfl)⟩
 · exact ⟨u, (World.cell?_setCell_other _ _ _ _ e).trans h1⟩
theorem WrS.blk {w w' : World} {b off n : Nat} (h : WrS w b off n) (hk : w'.heap[b]? = w.heap[b]?) : WrS w' b off n := fun j hj => by
 obtain ⟨⟨u, h1⟩, h2⟩ := h j hj
 exact ⟨⟨u, by rw [World.cell?_of_block hk]; exact h1⟩, by rw [World.frozen?_of_block hk]; exact h2⟩
/-- A row that may be written. -/
def WrR (w : World) (lo hi : Nat) (A : Option Addr) (n : Nat) : Prop := 0 < n → ∃ b off, A = some ⟨b, off, none⟩ ∧ lo ≤ b ∧ b < hi ∧ WrS w b off n
theorem WrR.of {w : World} {lo hi n : Nat} {A : Option Addr} {xs : List Int} (h : Ints w lo hi .u32 A n xs) : WrR w lo hi A n := fun h0 => by
 obtain ⟨b, off, e, h1, h2, hc⟩ := h.row h0
 exact ⟨b, off, e, h1, h2, fun j hj => ⟨⟨_, (hc j hj).1⟩, (hc j hj).2⟩⟩
theorem WrR.below {w w' : World} {lo hi B n : Nat} {A : Option Addr} (h : WrR w lo hi A n) (hb : Below B w w') (hB : hi ≤ B) : WrR w' lo hi A n := fun h0 => by
 obtain ⟨b, off, e, h1, h2, hW⟩ := h h0
 exact ⟨b, off, e, h1, h2, hW.blk (hb.block b (by omega))⟩
theorem WrR.keep {w w' : World} {lo hi n : Nat} {A : Option Addr} (h : WrR w lo hi A n) (hk : ∀ b off k, WrS w b off k → WrS w' b off k) : WrR w' lo hi A n := fun h0 => by
 obtain ⟨b, off, e, h1, h2, hW⟩ := h h0
 exact ⟨b, off, e, h1, h2, hk _ _ _ hW⟩
end Dy
end Go.Proofs.Ytbbnbgllgomolaa