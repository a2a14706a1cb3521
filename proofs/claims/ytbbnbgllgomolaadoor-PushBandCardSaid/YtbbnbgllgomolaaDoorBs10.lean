/- A mass's value and rows; mass.Check: a walk (printed by a program of mine). -/
/- mass.Same: a walk (printed by a program of mine). -/
/- mass.Twin: a walk (printed by a program of mine). -/
import Derived.Test.YtbbnbgllgomolaaDoorBs09
import Derived.Test.YtbbnbgllgomolaaDoorBs08
import Derived.Test.YtbbnbgllgomolaaDoorBs07
import Derived.Test.YtbbnbgllgomolaaDoorBs03
namespace Go.Proofs.YtbbnbgllgomolaaDoor
open Go.RowKit
namespace Ma
open Dp Dy
attribute [local go_sem] Oper.semAt_some
/-- A dyad's value, and what its row holds. -/
structure Dv where
 s : Bool
 A : Option Addr
 n : Nat
 c : Nat
 e : Int
 xs : List Int
structure Mv where
 S : Dv
 W : Dv
 C : Dv
 A : Dv
def Mv.get (m : Mv) : Nat → Dv
 | 0 => m.S
 | 1 => m.W
 | 2 => m.C
 | _ => m.A
def Dv.Row (w : World) (lo hi : Nat) (d : Dv) : Prop := Ints w lo hi .u32 d.A d.n d.xs
def Dv.may (d : Dv) : Prop := MayD d.s d.xs d.e
structure MRows (w : World) (lo hi : Nat) (m : Mv) : Prop where
 S : m.S.Row w lo hi
 W : m.W.Row w lo hi
 C : m.C.Row w lo hi
 A : m.A.Row w lo hi
theorem MRows.get {w : World} {lo hi : Nat} {m : Mv} (h : MRows w lo hi m) (x : Nat) : Ints w lo hi .u32 (m.get x).A (m.get x).n (m.get x).xs := by
 unfold Mv.get
 split
 · exact h.S
 · exact h.W
 · exact h.C
 · exact h.A
theorem MRows.below {w w' : World} {lo hi B : Nat} {m : Mv} (h : MRows w lo hi m) (hb : Below B w w') (hB : hi ≤ B) : MRows w' lo hi m := ⟨Ints.below h.S hb hB, Ints.below h.W hb hB, Ints.below h.C hb hB, Ints.below h.A hb hB⟩
theorem MRows.more {w : World} {lo hi lo' hi' : Nat} {m : Mv} (h : MRows w lo hi m) (hl : lo' ≤ lo) (hh : hi ≤ hi') : MRows w lo' hi' m := ⟨Ints.more h.S hl hh, Ints.more h.W hl hh, Ints.more h.C hl hh, Ints.more h.A hl hh⟩
/-- A mass in a block. -/
def MBox (w : World) (g : Nat) (m : Mv) : Prop := w.heap[g]? = some (.cells #[.bool m.S.s, .slice m.S.A m.S.n m.S.c, .int .i64 m.S.e, .bool m.W.s, .slice m.W.A m.W.n m.W.c, .int .i64 m.W.e, .bool m.C.s, .slice m.C.A m.C.n m.C.c, .int .i64 m.C.e, .bool m.A.s, .slice m.A.A m.A.n m.A.c, .int .i64 m.A.e] 26 (0, 0))
theorem MBox.at_ {w : World} {g : Nat} {m : Mv} (h : MBox w g m) {x : Nat} (hx : x < 4) :
  (w.cell? ⟨g, 3 * x, none⟩ = some (.bool (m.get x).s) ∧ w.cell? ⟨g, 3 * x + 1, none⟩ = some (.slice (m.get x).A (m.get x).n (m.get x).c) ∧ w.cell? ⟨g, 3 * x + 2, none⟩ = some (.int .i64 (m.get x).e)) ∧
   (w.frozen? ⟨g, 3 * x, none⟩ = false ∧ w.frozen? ⟨g, 3 * x + 1, none⟩ = false ∧ w.frozen? ⟨g, 3 * x + 2, none⟩ = false) := by
 have hf : ∀ k, w.frozen? ⟨g, k, none⟩ = false := fun k => frozen_of_row w g k _ _ h
 refine ⟨?_, hf _, hf _, hf _⟩
 have hc : ∀ k v, (#[.bool m.S.s, .slice m.S.A m.S.n m.S.c, .int .i64 m.S.e, .bool m.W.s, .slice m.W.A m.W.n m.W.c, .int .i64 m.W.e, .bool m.C.s, .slice m.C.A m.C.n m.C.c, .int .i64 m.C.e, .bool m.A.s, .slice m.A.A m.A.n m.A.c, .int .i64 m.A.e] : Array Value)[k]? = some v → w.cell? ⟨g, k, none⟩ = some v := fun k v hk => by
  unfold MBox at h
  simp [World.cell?, h]
  simpa using hk
 have hx' : x = 0 ∨ x = 1 ∨ x = 2 ∨ x = 3 := by omega
 rcases hx' with rfl | rfl | rfl | rfl <;> exact ⟨hc _ _ rfl, hc _ _ rfl, hc _ _ rfl⟩
def Mv.may (m : Mv) : Prop := ∀ x, x < 4 → (m.get x).may
open Classical in
noncomputable def chkM (m : Mv) : Int := if m.may then 0 else 8
theorem box_on {w w' : World} {g B : Nat} {o : Obj} (h : w.heap[g]? = some o) (hb : Below B w w') (hB : g < B) : w'.heap[g]? = some o := (hb.block g hB).trans h
theorem gain_below {O : Nat → Prop} {w w' : World} (hb : Below w.heap.size w w') : Gain O O w w' := ⟨hb.size, fun k _ _ _ _ h => (hb.block k (lt_of_heap h)).trans h, fun _ h => .inl h⟩
theorem keeps_below {w w' : World} {B : Nat} (hb : Below w.heap.size w w') : KeepsFrom B w w' := ⟨hb.size, fun k _ _ hk _ => (hb.block k (lt_of_heap hk)).trans hk⟩
theorem gain_set {O : Nat → Prop} {w : World} {p : Addr} (hp : O p.block) (v : Value) : Gain O O w (w.setCell p v) := ⟨by simp [World.setCell], fun k _ _ _ hk h => by
  have : p.block ≠ k := fun e => hk (e ▸ hp)
  rw [← h]
  simp [World.setCell, Array.getElem?_modify, this], fun _ h => .inl h⟩
theorem heap_own {W W' : World} {row : Option Nat} {g : Nat} {cs : Array Value} {t : TypeId} {z : Nat × Nat} (h : W.heap[g]? = some (.cells cs t z)) (hg : W.grownBy W' row) (hr : ∀ r, row = some r → ∃ o : Obj, W.heap[r]? = some o ∧ o.isCells = false) : W'.heap[g]? = some (.cells cs t z) := by
 refine (hg.block g (lt_of_heap h) (fun e => ?_)).trans h
 obtain ⟨o, h1, h2⟩ := hr g e.symm
 rw [h] at h1
 cases h1
 cases h2
theorem heap_loose {W W' : World} {row : Option Nat} {g gl : Nat} {o : Obj} (h : W.heap[g]? = some o) (hg : W.grownBy W' row) (hr : ∀ r, row = some r → r = gl) (hne : g ≠ gl) : W'.heap[g]? = some o :=
 (hg.block g (lt_of_heap h) (fun e => hne (hr g e.symm))).trans h
theorem below_loose {W0 W W' : World} {B gl : Nat} {row : Option Nat} (h : Below B W0 W) (hB : B ≤ W0.heap.size) (hg : W.grownBy W' row) (hr : ∀ r, row = some r → r = gl) (hle : B ≤ gl) : Below B W0 W' :=
 h.grown hg (Nat.le_trans hB h.size) (fun k e => by have := hr k e; omega)
theorem set1 {w : World} {g : Nat} {x : Value} {t : TypeId} (h : w.heap[g]? = some (.cells #[x] t (0, 0))) (v : Value) : (w.setCell ⟨g, 0, none⟩ v).heap[g]? = some (.cells #[v] t (0, 0)) := by
 simp [World.setCell, Array.getElem?_modify, h]
set_option maxHeartbeats 3200000 in
set_option maxRecDepth 100000 in
/-- mass.Check. -/
theorem MCheck_any (w : World) (m : Mv) (hR : MRows w 0 w.heap.size m) (k : Int) (hk : chkM m = k) :
  Calls Tryd.prog 57 #[.agg #[.bool m.S.s, .slice m.S.A m.S.n m.S.c, .int .i64 m.S.e, .bool m.W.s, .slice m.W.A m.W.n m.W.c, .int .i64 m.W.e, .bool m.C.s, .slice m.C.A m.C.n m.C.c, .int .i64 m.C.e, .bool m.A.s, .slice m.A.A m.A.n m.A.c, .int .i64 m.A.e]] w fun e w' => e = .returned (.int .i64 k) ∧ Below w.heap.size w w' := by
 have HK := Lib.hid hk
 clear hk
 refine (callsIn_wide (n := 5)).1 ?_
 refine callsIn_of_wp_marks Tryd.func57 rfl trivial ?_ rfl
 simp only [Tryd.ntmps57, List.size_toArray, List.length_cons, List.length_nil, Nat.reduceAdd, Nat.reduceSub, Array.replicate_succ, Array.replicate_zero, List.push_toArray, List.append_toArray, List.nil_append, List.cons_append]
 gi_wp2_with fail
 refine ⟨trivial, (callsIn_wide.2 (parts_any _ _ _)).mono ?_⟩
 rintro e w2 ⟨rfl, rfl⟩
 gi_wp2_with fail
 obtain ⟨W0, hW0⟩ : ∃ W0, ((((w.alloc (.cells #[.bool m.S.s, .slice m.S.A m.S.n m.S.c, .int .i64 m.S.e, .bool m.W.s, .slice m.W.A m.W.n m.W.c, .int .i64 m.W.e, .bool m.C.s, .slice m.C.A m.C.n m.C.c, .int .i64 m.C.e, .bool m.A.s, .slice m.A.A m.A.n m.A.c, .int .i64 m.A.e] 26)).alloc (.cells #[.int .i64 0] 29)).alloc (.cells #[.pointer (some ⟨w.heap.size, 0, none⟩)] 86)).alloc (.cells #[.pointer (some ⟨w.heap.size, 0, none⟩)] 86)) = W0 := ⟨_, rfl⟩
 have hsz : W0.heap.size = w.heap.size + 4 := by rw [← hW0]; simp
 have hB0 : Below w.heap.size w W0 := by rw [← hW0]; exact ((((Below.refl _ w).alloc (Nat.le_refl _) _).alloc (by simp) _).alloc (by simp <;> omega) _).alloc (by simp <;> omega) _
 have hM0 : MBox W0 w.heap.size m := by rw [← hW0]; exact (Below.heap_alloc _ _ _ (by simp <;> omega)).trans ((Below.heap_alloc _ _ _ (by simp <;> omega)).trans ((Below.heap_alloc _ _ _ (by simp)).trans (heap_alloc_last _ _)))
 have hE0 : W0.heap[w.heap.size + 1]? = some (.cells #[.int .i64 0] 29 (0, 0)) := by rw [← hW0]; exact (Below.heap_alloc _ _ _ (by simp <;> omega)).trans ((Below.heap_alloc _ _ _ (by simp)).trans (heap_alloc2_new _ _ _))
 have hS0 : Two (w.heap.size + 1 + 1) (w.heap.size + 1 + 1 + 1) w.heap.size w.heap.size W0 := by
  rw [← hW0]
  refine ⟨(Below.heap_alloc _ _ _ (by simp)).trans ?_, ?_⟩
  · have := heap_alloc_last ((w.alloc (.cells #[.bool m.S.s, .slice m.S.A m.S.n m.S.c, .int .i64 m.S.e, .bool m.W.s, .slice m.W.A m.W.n m.W.c, .int .i64 m.W.e, .bool m.C.s, .slice m.C.A m.C.n m.C.c, .int .i64 m.C.e, .bool m.A.s, .slice m.A.A m.A.n m.A.c, .int .i64 m.A.e] 26)).alloc (.cells #[.int .i64 0] 29)) (.cells #[.pointer (some ⟨w.heap.size, 0, none⟩)] 86)
    simpa using this
  · have := heap_alloc_last (((w.alloc (.cells #[.bool m.S.s, .slice m.S.A m.S.n m.S.c, .int .i64 m.S.e, .bool m.W.s, .slice m.W.A m.W.n m.W.c, .int .i64 m.W.e, .bool m.C.s, .slice m.C.A m.C.n m.C.c, .int .i64 m.C.e, .bool m.A.s, .slice m.A.A m.A.n m.A.c, .int .i64 m.A.e] 26)).alloc (.cells #[.int .i64 0] 29)).alloc (.cells #[.pointer (some ⟨w.heap.size, 0, none⟩)] 86)) (.cells #[.pointer (some ⟨w.heap.size, 0, none⟩)] 86)
    simpa using this
 have HSZ := Lib.hid hsz
 have hlo : w.heap.size + 4 ≤ W0.heap.size := by omega
 have hhi : W0.heap.size ≤ w.heap.size + 4 := by omega
 rw [hW0]
 clear hW0 hsz
 refine wpIn_rangeFunc_sep2 (F := Fence.wide) rfl (by decide) (gf := 80) (lb := #[.pointer (some ⟨w.heap.size + 1 + 1, 0, none⟩), .pointer (some ⟨w.heap.size + 1 + 1 + 1, 0, none⟩)]) rfl trivial (enters_of Tryd.func80 (by kernel_rfl) rfl)
  (parts_seq _ _ _ _ _ W0 hS0) (by omega) (fun _ => rfl)
  (fun pre O W => O (w.heap.size + 1) ∧ (∀ x, x ∈ pre → x < 4 → (m.get x).may) ∧ MBox W w.heap.size m ∧ W.heap[w.heap.size + 1]? = some (.cells #[.int .i64 0] 29 (0, 0)) ∧ Below w.heap.size w W)
  (fun j pre O W => j = .ret ∧ (¬ m.may) ∧ W.heap[w.heap.size + 1]? = some (.cells #[.int .i64 8] 29 (0, 0)) ∧ Below w.heap.size w W)
  (fun O s A B row hs hg hr => ⟨hs.1, hs.2.1, heap_own hs.2.2.1 hg (fun r e => (hr r e).2), heap_own hs.2.2.2.1 hg (fun r e => (hr r e).2), hs.2.2.2.2.grown hg hs.2.2.2.2.size (fun k e => by have := (hr k e).1; omega)⟩)
  (fun j O s A B row hs hg hr => ⟨hs.1, hs.2.1, heap_own hs.2.2.1 hg (fun r e => (hr r e).2), hs.2.2.2.grown hg hs.2.2.2.size (fun k e => by have := (hr k e).1; omega)⟩)
  (fun s O A B row hs hg hr => ⟨hs.1, hs.2.1, heap_loose hs.2.2.1 hg hr (by omega), heap_loose hs.2.2.2.1 hg hr (by omega), below_loose hs.2.2.2.2 (Nat.le_refl _) hg hr (by omega)⟩)
  (fun j s O A B row hs hg hr => ⟨hs.1, hs.2.1, heap_loose hs.2.2.1 hg hr (by omega), below_loose hs.2.2.2 (Nat.le_refl _) hg hr (by omega)⟩)
  (fun k => k = w.heap.size + 1) (fun k hk e => by omega) (fun k e => by omega) ⟨rfl, (fun x hx => absurd hx (List.not_mem_nil)), hM0, hE0, hB0⟩
  (fun x a' W => a' = { tmps := #[.agg #[.bool m.S.s, .slice m.S.A m.S.n m.S.c, .int .i64 m.S.e, .bool m.W.s, .slice m.W.A m.W.n m.W.c, .int .i64 m.W.e, .bool m.C.s, .slice m.C.A m.C.n m.C.c, .int .i64 m.C.e, .bool m.A.s, .slice m.A.A m.A.n m.A.c, .int .i64 m.A.e], .pointer (some ⟨w.heap.size, 0, none⟩), .pointer (some ⟨w.heap.size + 1, 0, none⟩), .pointer (some ⟨w.heap.size, 3 * x, none⟩), undef,
   .func (.func 80) #[] #[.pointer (some ⟨w.heap.size + 1 + 1, 0, none⟩), .pointer (some ⟨w.heap.size + 1 + 1 + 1, 0, none⟩)], .pointer (some ⟨w.heap.size, 3 * x, none⟩), .pointer (some ⟨w.heap.size, 3 * x, none⟩), undef, undef, undef, undef, undef, undef, undef], defers := [] })
  (fun x a' _ _ _ _ h _ _ => h) ?assign ?body ?done ?stop
 case assign =>
  intro l pre x O W K hgx hsW hi hK
  unfold encM
  gi_wp2
  exact hK _ _ (KeepsFrom.refl _ _) (Gain.refl _ _) hi rfl
 case body =>
  rintro l pre x O a' W ⟨hx4, hpre⟩ hsW ⟨hO, hall, hM, hE, hb⟩ rfl _
  obtain ⟨⟨k1, k2, k3⟩, _⟩ := MBox.at_ hM hx4
  have hrow : Ints W 0 W.heap.size .u32 (m.get x).A (m.get x).n (m.get x).xs := ((hR.get x).below hb (Nat.le_refl _)).more (Nat.le_refl _) hb.size
  generalize hd : m.get x = d at k1 k2 k3 hrow
  have HD := Lib.hid hd
  clear hd
  obtain ⟨e1, e2⟩ := cells1 hE
  by_cases hm : d.may
  · have hc : chkX d.s d.xs d.e = 0 := if_pos hm
    have HC := Lib.hid hc
    have HM := Lib.hid hm
    clear hc hm
    gi_wp2_with fail
    refine ⟨trivial, (CallsIn.inRound l (callsIn_wide.2 (Check_all W d.s d.A d.n d.c d.xs d.e hrow 0 HC.out))).mono ?_⟩
    rintro e W2 ⟨rfl, hB⟩
    gi_wp2
    refine ⟨keeps_below hB, O, gain_below hB, hO, fun y hy hy4 => ?_, box_on hM hB (by omega), box_on hE hB (by omega), hb.trans (hB.mono hb.size)⟩
    rcases List.mem_append.1 hy with h | h
    · exact hall y h hy4
    · rw [List.mem_singleton.1 h, HD.out]
      exact HM.out
  · have hc : chkX d.s d.xs d.e = 8 := if_neg hm
    have HC := Lib.hid hc
    have HM := Lib.hid hm
    clear hc hm
    gi_wp2_with fail
    refine ⟨trivial, (CallsIn.inRound l (callsIn_wide.2 (Check_all W d.s d.A d.n d.c d.xs d.e hrow 8 HC.out))).mono ?_⟩
    rintro e W2 ⟨rfl, hB⟩
    have hE2 := box_on hE hB (by omega)
    obtain ⟨e3, e4⟩ := cells1 hE2
    clear e1 e2
    gi_wp2
    exact ⟨(keeps_below hB).trans ((KeepsOthers.setCell _ _ _).from _), O, (gain_below hB).trans (gain_set hO _), rfl, fun h => HM.out (by have := h x hx4; rw [HD.out] at this; exact this), set1 hE2 _, (hb.trans (hB.mono hb.size)).setCell (by simp) _⟩
 case done =>
  rintro D ys O W hD hS ⟨hO, hall, hM, hE, hb⟩ hK
  obtain ⟨e1, e2⟩ := cells1 hE
  have hm : m.may := fun x hx => hall x (by rw [hS]; simp; omega) hx
  have hk := HK.out
  rw [chkM, if_pos hm] at hk
  subst hk
  clear hm hS hall
  gi_wp2
  have hK' := (KeepsOthers.setCell W ⟨w.heap.size + 1, 0, none⟩ (.int .i64 0)).same D _ hK rfl
  have c1 := cells1 ((World.putObj_heap_other (o := .deferred none) (by omega : w.heap.size + 1 ≠ D)).trans (set1 hE (.int .i64 0)))
  refine ⟨by simp, .inl ⟨_, _, rfl, run_takeDeferred hK', ?_⟩⟩
  refine ⟨.int .i64 0, ?_, rfl, ?_⟩
  · simp [results, Tryd.f57, go_sem, c1.1]
  · exact (hb.setCell (by simp) _).trans (belowK_b (w := w) (Nat.le_refl _) _ D _ _ (by omega) hK' rfl rfl)
 case stop =>
  rintro D j pre O W hD hSp ⟨rfl, hm, hE, hb⟩ hK
  have hk := HK.out
  rw [chkM, if_neg hm] at hk
  subst hk
  gi_wp2
  have c1 := cells1 ((World.putObj_heap_other (o := .deferred none) (by omega : w.heap.size + 1 ≠ D)).trans hE)
  refine ⟨by simp, .inl ⟨_, _, rfl, run_takeDeferred hK, ?_⟩⟩
  refine ⟨.int .i64 8, ?_, rfl, ?_⟩
  · simp [results, Tryd.f57, go_sem, c1.1]
  · exact hb.trans (belowK_b (w := w) (Nat.le_refl _) _ D _ _ (by omega) hK rfl rfl)
end Ma
end Go.Proofs.YtbbnbgllgomolaaDoor
namespace Go.Proofs.YtbbnbgllgomolaaDoor
open Go.RowKit
namespace Ma
open Dp Dy
attribute [local go_sem] Oper.semAt_some
def sameV (d d' : Dv) : Bool := Pa.Dy.same ⟨d.s, d.xs, d.e⟩ ⟨d'.s, d'.xs, d'.e⟩
def sameM (a b : Mv) : Bool := sameV a.S b.S && sameV a.W b.W && sameV a.C b.C && sameV a.A b.A
theorem four {p : Nat → Prop} (h0 : p 0) (h1 : p 1) (h2 : p 2) (h3 : p 3) : ∀ x, x < 4 → p x := fun x hx => by
 have hx' : x = 0 ∨ x = 1 ∨ x = 2 ∨ x = 3 := by omega
 rcases hx' with rfl | rfl | rfl | rfl
 · exact h0
 · exact h1
 · exact h2
 · exact h3
theorem sameM_iff (a b : Mv) : sameM a b = true ↔ ∀ x, x < 4 → sameV (a.get x) (b.get x) = true := by
 unfold sameM
 simp only [Bool.and_eq_true]
 exact ⟨fun h => four h.1.1.1 h.1.1.2 h.1.2 h.2, fun h => ⟨⟨⟨h 0 (by decide), h 1 (by decide)⟩, h 2 (by decide)⟩, h 3 (by decide)⟩⟩
theorem heapN {w w' : World} {g : Nat} {o : Obj} (hb : Below w.heap.size w w') (h : w.heap[g]? = some o) : w'.heap[g]? = some o := (hb.block g (lt_of_heap h)).trans h
theorem boxes5 (w : World) (o1 o2 o3 o4 o5 : Obj) {w1 : World} (hw : ((((w.alloc o1).alloc o2).alloc o3).alloc o4).alloc o5 = w1) :
  (w1.heap[w.heap.size]? = some o1 ∧ w1.heap[w.heap.size + 1]? = some o2 ∧ w1.heap[w.heap.size + 1 + 1]? = some o3 ∧ w1.heap[w.heap.size + 1 + 1 + 1]? = some o4 ∧ w1.heap[w.heap.size + 1 + 1 + 1 + 1]? = some o5) ∧ Below w.heap.size w w1 ∧ w.heap.size + 5 ≤ w1.heap.size ∧ w1.heap.size ≤ w.heap.size + 5 := by
 obtain ⟨h1, h2, h3, h4, h5, h6⟩ := boxes3 w o1 o2 o3 rfl
 obtain ⟨k1, k2, k3, k4, k5⟩ := boxes2 (((w.alloc o1).alloc o2).alloc o3) o4 o5 rfl
 subst hw
 have e : (((w.alloc o1).alloc o2).alloc o3).heap.size = w.heap.size + 1 + 1 + 1 := by simp
 rw [e] at k1 k2
 exact ⟨⟨heapN k3 h1, heapN k3 h2, heapN k3 h3, k1, k2⟩, h4.trans (k3.mono (by omega)), by omega, by omega⟩
set_option maxHeartbeats 3200000 in
set_option maxRecDepth 100000 in
/-- mass.Same. -/
theorem MSame_any (w : World) (a b : Mv) (hA : MRows w 0 w.heap.size a) (hBb : MRows w 0 w.heap.size b) (k : Bool) (hk : sameM a b = k) :
  Calls Tryd.prog 32 #[.agg #[.bool a.S.s, .slice a.S.A a.S.n a.S.c, .int .i64 a.S.e, .bool a.W.s, .slice a.W.A a.W.n a.W.c, .int .i64 a.W.e, .bool a.C.s, .slice a.C.A a.C.n a.C.c, .int .i64 a.C.e, .bool a.A.s, .slice a.A.A a.A.n a.A.c, .int .i64 a.A.e], .agg #[.bool b.S.s, .slice b.S.A b.S.n b.S.c, .int .i64 b.S.e, .bool b.W.s, .slice b.W.A b.W.n b.W.c, .int .i64 b.W.e, .bool b.C.s, .slice b.C.A b.C.n b.C.c, .int .i64 b.C.e, .bool b.A.s, .slice b.A.A b.A.n b.A.c, .int .i64 b.A.e]] w fun e w' => e = .returned (.bool k) ∧ Below w.heap.size w w' := by
 have HK := Lib.hid hk
 clear hk
 have hmx : Tryd.prog.follows .mixedOrders = true := by kernel_rfl
 refine (callsIn_wide (n := 5)).1 ?_
 refine callsIn_of_wp_marks Tryd.func32 rfl trivial ?_ rfl
 simp only [Tryd.ntmps32, List.size_toArray, List.length_cons, List.length_nil, Nat.reduceAdd, Nat.reduceSub, Array.replicate_succ, Array.replicate_zero, List.push_toArray, List.append_toArray, List.nil_append, List.cons_append]
 gi_wp2_with fail
 refine ⟨trivial, (callsIn_wide.2 (parts_any _ _ _)).mono ?_⟩
 rintro e w2 ⟨rfl, rfl⟩
 gi_wp2_with fail
 obtain ⟨W0, hW0⟩ : ∃ W0, ((((w.alloc (.cells #[.bool a.S.s, .slice a.S.A a.S.n a.S.c, .int .i64 a.S.e, .bool a.W.s, .slice a.W.A a.W.n a.W.c, .int .i64 a.W.e, .bool a.C.s, .slice a.C.A a.C.n a.C.c, .int .i64 a.C.e, .bool a.A.s, .slice a.A.A a.A.n a.A.c, .int .i64 a.A.e] 26)).alloc (.cells #[.bool b.S.s, .slice b.S.A b.S.n b.S.c, .int .i64 b.S.e, .bool b.W.s, .slice b.W.A b.W.n b.W.c, .int .i64 b.W.e, .bool b.C.s, .slice b.C.A b.C.n b.C.c, .int .i64 b.C.e, .bool b.A.s, .slice b.A.A b.A.n b.A.c, .int .i64 b.A.e] 26)).alloc (.cells #[.bool false] 4)).alloc (.cells #[.pointer (some ⟨w.heap.size, 0, none⟩)] 86)).alloc (.cells #[.pointer (some ⟨w.heap.size + 1, 0, none⟩)] 86) = W0 := ⟨_, rfl⟩
 obtain ⟨⟨hM0, hN0, hE0, hS1, hS2⟩, hB0, hlo, hhi⟩ := boxes5 w _ _ _ _ _ hW0
 rw [hW0]
 clear hW0
 refine wpIn_rangeFunc_sep2 (F := Fence.wide) rfl (by decide) (gf := 80) (lb := #[.pointer (some ⟨w.heap.size + 1 + 1 + 1, 0, none⟩), .pointer (some ⟨w.heap.size + 1 + 1 + 1 + 1, 0, none⟩)]) rfl trivial (enters_of Tryd.func80 (by kernel_rfl) rfl)
  (parts_seq _ _ _ w.heap.size (w.heap.size + 1) W0 ⟨hS1, hS2⟩) (by omega) (fun _ => rfl)
  (fun pre O W => O (w.heap.size + 1 + 1) ∧ (∀ x, x ∈ pre → x < 4 → sameV (a.get x) (b.get x) = true) ∧ MBox W w.heap.size a ∧ MBox W (w.heap.size + 1) b ∧ W.heap[w.heap.size + 1 + 1]? = some (.cells #[.bool false] 4 (0, 0)) ∧ Below w.heap.size w W)
  (fun j pre O W => j = .ret ∧ sameM a b = false ∧ W.heap[w.heap.size + 1 + 1]? = some (.cells #[.bool false] 4 (0, 0)) ∧ Below w.heap.size w W)
  (fun O s A B row hs hg hr => ⟨hs.1, hs.2.1, heap_own hs.2.2.1 hg (fun r e => (hr r e).2), heap_own hs.2.2.2.1 hg (fun r e => (hr r e).2), heap_own hs.2.2.2.2.1 hg (fun r e => (hr r e).2), hs.2.2.2.2.2.grown hg hs.2.2.2.2.2.size (fun k e => by have := (hr k e).1; omega)⟩)
  (fun j O s A B row hs hg hr => ⟨hs.1, hs.2.1, heap_own hs.2.2.1 hg (fun r e => (hr r e).2), hs.2.2.2.grown hg hs.2.2.2.size (fun k e => by have := (hr k e).1; omega)⟩)
  (fun s O A B row hs hg hr => ⟨hs.1, hs.2.1, heap_loose hs.2.2.1 hg hr (by omega), heap_loose hs.2.2.2.1 hg hr (by omega), heap_loose hs.2.2.2.2.1 hg hr (by omega), below_loose hs.2.2.2.2.2 (Nat.le_refl _) hg hr (by omega)⟩)
  (fun j s O A B row hs hg hr => ⟨hs.1, hs.2.1, heap_loose hs.2.2.1 hg hr (by omega), below_loose hs.2.2.2 (Nat.le_refl _) hg hr (by omega)⟩)
  (fun k => k = w.heap.size + 1 + 1) (fun k hk e => by omega) (fun k e => by omega) ⟨rfl, (fun x hx => absurd hx (List.not_mem_nil)), hM0, hN0, hE0, hB0⟩
  (fun x a' W => a' = { tmps := #[.agg #[.bool a.S.s, .slice a.S.A a.S.n a.S.c, .int .i64 a.S.e, .bool a.W.s, .slice a.W.A a.W.n a.W.c, .int .i64 a.W.e, .bool a.C.s, .slice a.C.A a.C.n a.C.c, .int .i64 a.C.e, .bool a.A.s, .slice a.A.A a.A.n a.A.c, .int .i64 a.A.e], .agg #[.bool b.S.s, .slice b.S.A b.S.n b.S.c, .int .i64 b.S.e, .bool b.W.s, .slice b.W.A b.W.n b.W.c, .int .i64 b.W.e, .bool b.C.s, .slice b.C.A b.C.n b.C.c, .int .i64 b.C.e, .bool b.A.s, .slice b.A.A b.A.n b.A.c, .int .i64 b.A.e], .pointer (some ⟨w.heap.size, 0, none⟩), .pointer (some ⟨w.heap.size + 1, 0, none⟩), .pointer (some ⟨w.heap.size + 1 + 1, 0, none⟩), .pointer (some ⟨w.heap.size, 3 * x, none⟩), .pointer (some ⟨w.heap.size + 1, 3 * x, none⟩),
   .func (.func 80) #[] #[.pointer (some ⟨w.heap.size + 1 + 1 + 1, 0, none⟩), .pointer (some ⟨w.heap.size + 1 + 1 + 1 + 1, 0, none⟩)], .pointer (some ⟨w.heap.size, 3 * x, none⟩), .pointer (some ⟨w.heap.size + 1, 3 * x, none⟩), undef, undef, undef, undef, undef, undef, undef, undef], defers := [] })
  (fun x a' _ _ _ _ h _ _ => h) ?assign ?body ?done ?stop
 case assign =>
  intro l pre x O W K hgx hsW hi hK
  unfold encM
  gi_wp2
  exact hK _ _ (KeepsFrom.refl _ _) (Gain.refl _ _) hi rfl
 case body =>
  rintro l pre x O a' W ⟨hx4, hpre⟩ hsW ⟨hO, hall, hM, hN, hE, hb⟩ rfl _
  have hrow : Ints W 0 W.heap.size .u32 (a.get x).A (a.get x).n (a.get x).xs := ((hA.get x).below hb (Nat.le_refl _)).more (Nat.le_refl _) hb.size
  have hrow2 : Ints W 0 W.heap.size .u32 (b.get x).A (b.get x).n (b.get x).xs := ((hBb.get x).below hb (Nat.le_refl _)).more (Nat.le_refl _) hb.size
  have hcm := MBox.at_ hM hx4
  have hcn := MBox.at_ hN hx4
  generalize hd : a.get x = d at hcm hrow
  generalize hd' : b.get x = d' at hcn hrow2
  have HD := Lib.hid hd
  have HD' := Lib.hid hd'
  clear hd hd'
  obtain ⟨r, hr⟩ : ∃ r, sameV d d' = r := ⟨_, rfl⟩
  have HR := Lib.hid hr
  clear hr
  gi_wp2
  refine roundRegion_E (Keeps W) [] (m := 8) (L := #[zF,zF,zF,zF,zF,zF,zF,zF]) hmx (by kernel_rfl) (fun _ _ h => h) (by rfl) (by rfl) ?_
  have kD : Keeps W W.drew := fun _ _ => rfl
  refine zE 0 #[zT,zF,zF,zF,zF,zF,zF,zF] ?_ rfl ?hy1 ?rest1
  case hy1 => intro w; go_simp; (try with_reducible rfl)
  try simp only [Act.put, zp]
  refine zE 1 #[zT,zT,zF,zF,zF,zF,zF,zF] ?_ rfl ?hy2 ?rest2
  case hy2 => intro w; go_simp; (try with_reducible rfl)
  try simp only [Act.put, zp]
  refine readE (i := 2) (L := #[zT,zT,zT,zF,zF,zF,zF,zF]) (v := .agg #[.bool d.s, .slice d.A d.n d.c, .int .i64 d.e]) rfl (by rfl) (by kernel_rfl) (by kernel_rfl) (by kernel_rfl) (fun _ _ _ h => h) (by assumption) (by rfl) ?ry2 ?rr2
  case ry2 =>
   intro w' h1
   obtain ⟨⟨k1, k2, k3⟩, _⟩ := MBox.at_ ((h1 _ (by omega)).trans hM) hx4
   rw [HD.out] at k1 k2 k3
   go_simp
  try simp only [Act.put, zp]
  refine zE 3 #[zT,zT,zT,zT,zF,zF,zF,zF] ?_ rfl ?hy4 ?rest4
  case hy4 => intro w; go_simp; (try with_reducible rfl)
  try simp only [Act.put, zp]
  refine zE 4 #[zT,zT,zT,zT,zT,zF,zF,zF] ?_ rfl ?hy5 ?rest5
  case hy5 => intro w; go_simp; (try with_reducible rfl)
  try simp only [Act.put, zp]
  refine readE (i := 5) (L := #[zT,zT,zT,zT,zT,zT,zF,zF]) (v := .agg #[.bool d'.s, .slice d'.A d'.n d'.c, .int .i64 d'.e]) rfl (by rfl) (by kernel_rfl) (by kernel_rfl) (by kernel_rfl) (fun _ _ _ h => h) (by assumption) (by rfl) ?ry5 ?rr5
  case ry5 =>
   intro w' h1
   obtain ⟨⟨k1, k2, k3⟩, _⟩ := MBox.at_ ((h1 _ (by omega)).trans hN) hx4
   rw [HD'.out] at k1 k2 k3
   go_simp
  try simp only [Act.put, zp]
  refine stepK (i := 6) (L := #[zT,zT,zT,zT,zT,zT,zT,zF]) rfl (by rfl) (by kernel_rfl) (by rfl) (fun K hK => ?_)
  go_simp
  go_at_call 23
  refine (Pa.dyadSame_any W.drew _ _ _ _ _ _ _ _ _ _ _ _ (hrow.drewN 1) (hrow2.drewN 1) r HR.out).mono ?_
  rintro e W2 ⟨rfl, hB'⟩
  have hB : Below W.heap.size W W2 := (Below.refl _ W).drew.trans hB'
  clear hB'
  refine hK _ _ ⟨fun _ _ p hp => hB.block p hp, ?_⟩
  clear hK K
  try simp only [Act.put, zp]
  refine zE 7 #[zT,zT,zT,zT,zT,zT,zT,zT] ?_ rfl ?hy8 ?rest8
  case hy8 => intro w; go_simp; (try with_reducible rfl)
  try simp only [Act.put, zp]
  refine doneE (by kernel_rfl) ?_ _
  have hE2 := box_on hE hB (by omega)
  obtain ⟨e3, e4⟩ := cells1 hE2
  cases r
  · gi_wp2
    refine ⟨(keeps_below hB).trans ((KeepsOthers.setCell _ _ _).from _), O, (gain_below hB).trans (gain_set hO _), rfl, ?_, set1 hE2 _, (hb.trans (hB.mono hb.size)).setCell (by simp <;> omega) _⟩
    refine Bool.eq_false_iff.2 fun h => ?_
    have := (sameM_iff a b).1 h x hx4
    rw [HD.out, HD'.out, HR.out] at this
    cases this
  · gi_wp2
    refine ⟨keeps_below hB, O, gain_below hB, hO, fun y hy hy4 => ?_, box_on hM hB (by omega), box_on hN hB (by omega), hE2, hb.trans (hB.mono hb.size)⟩
    rcases List.mem_append.1 hy with h | h
    · exact hall y h hy4
    · rw [List.mem_singleton.1 h, HD.out, HD'.out]
      exact HR.out
 case done =>
  rintro D ys O W hD hS ⟨hO, hall, hM, hN, hE, hb⟩ hK
  obtain ⟨e1, e2⟩ := cells1 hE
  have hk := HK.out
  rw [show sameM a b = true from (sameM_iff a b).2 fun x hx => hall x (by rw [hS]; simp; omega) hx] at hk
  subst hk
  clear hS hall
  gi_wp2
  have hK' := (KeepsOthers.setCell W ⟨w.heap.size + 1 + 1, 0, none⟩ (.bool true)).same D _ hK rfl
  have c1 := cells1 ((World.putObj_heap_other (o := .deferred none) (by omega : w.heap.size + 1 + 1 ≠ D)).trans (set1 hE (.bool true)))
  refine ⟨by simp, .inl ⟨_, _, rfl, run_takeDeferred hK', ?_⟩⟩
  refine ⟨.bool true, ?_, rfl, ?_⟩
  · simp [results, Tryd.f32, go_sem, c1.1]
  · exact (hb.setCell (by simp <;> omega) _).trans (belowK_b (w := w) (Nat.le_refl _) _ D _ _ (by omega) hK' rfl rfl)
 case stop =>
  rintro D j pre O W hD hSp ⟨rfl, hm, hE, hb⟩ hK
  have hk := HK.out
  rw [hm] at hk
  subst hk
  gi_wp2
  have c1 := cells1 ((World.putObj_heap_other (o := .deferred none) (by omega : w.heap.size + 1 + 1 ≠ D)).trans hE)
  refine ⟨by simp, .inl ⟨_, _, rfl, run_takeDeferred hK, ?_⟩⟩
  refine ⟨.bool false, ?_, rfl, ?_⟩
  · simp [results, Tryd.f32, go_sem, c1.1]
  · exact hb.trans (belowK_b (w := w) (Nat.le_refl _) _ D _ _ (by omega) hK rfl rfl)
end Ma
end Go.Proofs.YtbbnbgllgomolaaDoor
namespace Go.Proofs.YtbbnbgllgomolaaDoor
open Go.RowKit
namespace Ma
open Dp Dy
attribute [local go_sem] Oper.semAt_some
def Mv.put (m : Mv) (x : Nat) (d : Dv) : Mv := match x with
 | 0 => { m with S := d }
 | 1 => { m with W := d }
 | 2 => { m with C := d }
 | _ => { m with A := d }
theorem put_get {m : Mv} {x y : Nat} {d : Dv} (hx : x < 4) (hy : y < 4) : (m.put x d).get y = if y = x then d else m.get y := by
 have hx' : x = 0 ∨ x = 1 ∨ x = 2 ∨ x = 3 := by omega
 have hy' : y = 0 ∨ y = 1 ∨ y = 2 ∨ y = 3 := by omega
 rcases hx' with rfl | rfl | rfl | rfl <;> rcases hy' with rfl | rfl | rfl | rfl <;> rfl
theorem MBox.put {w : World} {g : Nat} {m : Mv} (h : MBox w g m) {x : Nat} (hx : x < 4) (d : Dv) :
  MBox (((w.setCell ⟨g, 3 * x, none⟩ (.bool d.s)).setCell ⟨g, 3 * x + 1, none⟩ (.slice d.A d.n d.c)).setCell ⟨g, 3 * x + 2, none⟩ (.int .i64 d.e)) g (m.put x d) := by
 have hx' : x = 0 ∨ x = 1 ∨ x = 2 ∨ x = 3 := by omega
 unfold MBox at *
 rcases hx' with rfl | rfl | rfl | rfl <;> simp [World.setCell, Array.getElem?_modify, h, Mv.put]
theorem MBox.cells {w : World} {g : Nat} {m : Mv} (h : MBox w g m) : (w.cell? ⟨g, 0, none⟩ = some (.bool m.S.s) ∧ w.cell? ⟨g, 1, none⟩ = some (.slice m.S.A m.S.n m.S.c) ∧ w.cell? ⟨g, 2, none⟩ = some (.int .i64 m.S.e) ∧ w.cell? ⟨g, 3, none⟩ = some (.bool m.W.s) ∧ w.cell? ⟨g, 4, none⟩ = some (.slice m.W.A m.W.n m.W.c) ∧ w.cell? ⟨g, 5, none⟩ = some (.int .i64 m.W.e) ∧ w.cell? ⟨g, 6, none⟩ = some (.bool m.C.s) ∧ w.cell? ⟨g, 7, none⟩ = some (.slice m.C.A m.C.n m.C.c) ∧ w.cell? ⟨g, 8, none⟩ = some (.int .i64 m.C.e) ∧ w.cell? ⟨g, 9, none⟩ = some (.bool m.A.s) ∧ w.cell? ⟨g, 10, none⟩ = some (.slice m.A.A m.A.n m.A.c) ∧ w.cell? ⟨g, 11, none⟩ = some (.int .i64 m.A.e)) ∧ ∀ k, w.frozen? ⟨g, k, none⟩ = false := by
 refine ⟨?_, fun k => frozen_of_row w g k _ _ h⟩
 have hc : ∀ k v, (#[.bool m.S.s, .slice m.S.A m.S.n m.S.c, .int .i64 m.S.e, .bool m.W.s, .slice m.W.A m.W.n m.W.c, .int .i64 m.W.e, .bool m.C.s, .slice m.C.A m.C.n m.C.c, .int .i64 m.C.e, .bool m.A.s, .slice m.A.A m.A.n m.A.c, .int .i64 m.A.e] : Array Value)[k]? = some v → w.cell? ⟨g, k, none⟩ = some v := fun k v hk => by
  unfold MBox at h
  simp [World.cell?, h]
  simpa using hk
 exact ⟨hc _ _ rfl, hc _ _ rfl, hc _ _ rfl, hc _ _ rfl, hc _ _ rfl, hc _ _ rfl, hc _ _ rfl, hc _ _ rfl, hc _ _ rfl, hc _ _ rfl, hc _ _ rfl, hc _ _ rfl⟩
/-- A whole mass is laid into a block of 12 cells. -/
theorem MBox.all {w : World} {g : Nat} {m0 : Mv} (h : MBox w g m0) (m : Mv) : MBox ((((((((((((w.setCell ⟨g, 0, none⟩ (.bool m.S.s)).setCell ⟨g, 1, none⟩ (.slice m.S.A m.S.n m.S.c)).setCell ⟨g, 2, none⟩ (.int .i64 m.S.e)).setCell ⟨g, 3, none⟩ (.bool m.W.s)).setCell ⟨g, 4, none⟩ (.slice m.W.A m.W.n m.W.c)).setCell ⟨g, 5, none⟩ (.int .i64 m.W.e)).setCell ⟨g, 6, none⟩ (.bool m.C.s)).setCell ⟨g, 7, none⟩ (.slice m.C.A m.C.n m.C.c)).setCell ⟨g, 8, none⟩ (.int .i64 m.C.e)).setCell ⟨g, 9, none⟩ (.bool m.A.s)).setCell ⟨g, 10, none⟩ (.slice m.A.A m.A.n m.A.c)).setCell ⟨g, 11, none⟩ (.int .i64 m.A.e)) g m :=
 ((((h.put (x := 0) (by decide) m.S).put (x := 1) (by decide) m.W).put (x := 2) (by decide) m.C).put (x := 3) (by decide) m.A)
theorem below_all {w0 w : World} {B g : Nat} (h : Below B w0 w) (hg : B ≤ g) (m : Mv) : Below B w0 ((((((((((((w.setCell ⟨g, 0, none⟩ (.bool m.S.s)).setCell ⟨g, 1, none⟩ (.slice m.S.A m.S.n m.S.c)).setCell ⟨g, 2, none⟩ (.int .i64 m.S.e)).setCell ⟨g, 3, none⟩ (.bool m.W.s)).setCell ⟨g, 4, none⟩ (.slice m.W.A m.W.n m.W.c)).setCell ⟨g, 5, none⟩ (.int .i64 m.W.e)).setCell ⟨g, 6, none⟩ (.bool m.C.s)).setCell ⟨g, 7, none⟩ (.slice m.C.A m.C.n m.C.c)).setCell ⟨g, 8, none⟩ (.int .i64 m.C.e)).setCell ⟨g, 9, none⟩ (.bool m.A.s)).setCell ⟨g, 10, none⟩ (.slice m.A.A m.A.n m.A.c)).setCell ⟨g, 11, none⟩ (.int .i64 m.A.e)) :=
 ((((((((((((h.setCell hg _).setCell hg _).setCell hg _).setCell hg _).setCell hg _).setCell hg _).setCell hg _).setCell hg _).setCell hg _).setCell hg _).setCell hg _).setCell hg _)
theorem size_set (w : World) (p : Addr) (v : Value) : (w.setCell p v).heap.size = w.heap.size := by simp [World.setCell]
theorem size_all {w : World} {g : Nat} (m : Mv) : (((((((((((((w.setCell ⟨g, 0, none⟩ (.bool m.S.s)).setCell ⟨g, 1, none⟩ (.slice m.S.A m.S.n m.S.c)).setCell ⟨g, 2, none⟩ (.int .i64 m.S.e)).setCell ⟨g, 3, none⟩ (.bool m.W.s)).setCell ⟨g, 4, none⟩ (.slice m.W.A m.W.n m.W.c)).setCell ⟨g, 5, none⟩ (.int .i64 m.W.e)).setCell ⟨g, 6, none⟩ (.bool m.C.s)).setCell ⟨g, 7, none⟩ (.slice m.C.A m.C.n m.C.c)).setCell ⟨g, 8, none⟩ (.int .i64 m.C.e)).setCell ⟨g, 9, none⟩ (.bool m.A.s)).setCell ⟨g, 10, none⟩ (.slice m.A.A m.A.n m.A.c)).setCell ⟨g, 11, none⟩ (.int .i64 m.A.e))).heap.size = w.heap.size := by simp only [size_set]
theorem far_all {w : World} {g g' : Nat} (hne : g' ≠ g) (m : Mv) : (((((((((((((w.setCell ⟨g, 0, none⟩ (.bool m.S.s)).setCell ⟨g, 1, none⟩ (.slice m.S.A m.S.n m.S.c)).setCell ⟨g, 2, none⟩ (.int .i64 m.S.e)).setCell ⟨g, 3, none⟩ (.bool m.W.s)).setCell ⟨g, 4, none⟩ (.slice m.W.A m.W.n m.W.c)).setCell ⟨g, 5, none⟩ (.int .i64 m.W.e)).setCell ⟨g, 6, none⟩ (.bool m.C.s)).setCell ⟨g, 7, none⟩ (.slice m.C.A m.C.n m.C.c)).setCell ⟨g, 8, none⟩ (.int .i64 m.C.e)).setCell ⟨g, 9, none⟩ (.bool m.A.s)).setCell ⟨g, 10, none⟩ (.slice m.A.A m.A.n m.A.c)).setCell ⟨g, 11, none⟩ (.int .i64 m.A.e))).heap[g']? = w.heap[g']? := by
 exact (Below.heap_setCell _ _ _ _ hne).trans ((Below.heap_setCell _ _ _ _ hne).trans ((Below.heap_setCell _ _ _ _ hne).trans ((Below.heap_setCell _ _ _ _ hne).trans ((Below.heap_setCell _ _ _ _ hne).trans ((Below.heap_setCell _ _ _ _ hne).trans ((Below.heap_setCell _ _ _ _ hne).trans ((Below.heap_setCell _ _ _ _ hne).trans ((Below.heap_setCell _ _ _ _ hne).trans ((Below.heap_setCell _ _ _ _ hne).trans ((Below.heap_setCell _ _ _ _ hne).trans (Below.heap_setCell _ _ _ _ hne)))))))))))
theorem keeps_all {w : World} {g : Nat} (m : Mv) : KeepsOthers w ((((((((((((w.setCell ⟨g, 0, none⟩ (.bool m.S.s)).setCell ⟨g, 1, none⟩ (.slice m.S.A m.S.n m.S.c)).setCell ⟨g, 2, none⟩ (.int .i64 m.S.e)).setCell ⟨g, 3, none⟩ (.bool m.W.s)).setCell ⟨g, 4, none⟩ (.slice m.W.A m.W.n m.W.c)).setCell ⟨g, 5, none⟩ (.int .i64 m.W.e)).setCell ⟨g, 6, none⟩ (.bool m.C.s)).setCell ⟨g, 7, none⟩ (.slice m.C.A m.C.n m.C.c)).setCell ⟨g, 8, none⟩ (.int .i64 m.C.e)).setCell ⟨g, 9, none⟩ (.bool m.A.s)).setCell ⟨g, 10, none⟩ (.slice m.A.A m.A.n m.A.c)).setCell ⟨g, 11, none⟩ (.int .i64 m.A.e)) :=
 ((((((((((((KeepsOthers.refl _).trans (KeepsOthers.setCell _ _ _)).trans (KeepsOthers.setCell _ _ _)).trans (KeepsOthers.setCell _ _ _)).trans (KeepsOthers.setCell _ _ _)).trans (KeepsOthers.setCell _ _ _)).trans (KeepsOthers.setCell _ _ _)).trans (KeepsOthers.setCell _ _ _)).trans (KeepsOthers.setCell _ _ _)).trans (KeepsOthers.setCell _ _ _)).trans (KeepsOthers.setCell _ _ _)).trans (KeepsOthers.setCell _ _ _)).trans (KeepsOthers.setCell _ _ _)
theorem rows_all {w : World} {g lo hi : Nat} {m' : Mv} (h : MRows w lo hi m') (hg : g < lo ∨ hi ≤ g) (m : Mv) : MRows ((((((((((((w.setCell ⟨g, 0, none⟩ (.bool m.S.s)).setCell ⟨g, 1, none⟩ (.slice m.S.A m.S.n m.S.c)).setCell ⟨g, 2, none⟩ (.int .i64 m.S.e)).setCell ⟨g, 3, none⟩ (.bool m.W.s)).setCell ⟨g, 4, none⟩ (.slice m.W.A m.W.n m.W.c)).setCell ⟨g, 5, none⟩ (.int .i64 m.W.e)).setCell ⟨g, 6, none⟩ (.bool m.C.s)).setCell ⟨g, 7, none⟩ (.slice m.C.A m.C.n m.C.c)).setCell ⟨g, 8, none⟩ (.int .i64 m.C.e)).setCell ⟨g, 9, none⟩ (.bool m.A.s)).setCell ⟨g, 10, none⟩ (.slice m.A.A m.A.n m.A.c)).setCell ⟨g, 11, none⟩ (.int .i64 m.A.e)) lo hi m' :=
 ⟨ints_far (ints_far (ints_far (ints_far (ints_far (ints_far (ints_far (ints_far (ints_far (ints_far (ints_far (ints_far (show Ints _ _ _ _ _ _ _ from h.S) hg _) hg _) hg _) hg _) hg _) hg _) hg _) hg _) hg _) hg _) hg _) hg _, ints_far (ints_far (ints_far (ints_far (ints_far (ints_far (ints_far (ints_far (ints_far (ints_far (ints_far (ints_far (show Ints _ _ _ _ _ _ _ from h.W) hg _) hg _) hg _) hg _) hg _) hg _) hg _) hg _) hg _) hg _) hg _) hg _, ints_far (ints_far (ints_far (ints_far (ints_far (ints_far (ints_far (ints_far (ints_far (ints_far (ints_far (ints_far (show Ints _ _ _ _ _ _ _ from h.C) hg _) hg _) hg _) hg _) hg _) hg _) hg _) hg _) hg _) hg _) hg _) hg _, ints_far (ints_far (ints_far (ints_far (ints_far (ints_far (ints_far (ints_far (ints_far (ints_far (ints_far (ints_far (show Ints _ _ _ _ _ _ _ from h.A) hg _) hg _) hg _) hg _) hg _) hg _) hg _) hg _) hg _) hg _) hg _) hg _⟩
def ZM : Mv := ⟨⟨false, none, 0, 0, 0, []⟩, ⟨false, none, 0, 0, 0, []⟩, ⟨false, none, 0, 0, 0, []⟩, ⟨false, none, 0, 0, 0, []⟩⟩
/-- A twin: the same but for where it lies. -/
def TwinV (d d' : Dv) : Prop := d'.s = d.s ∧ d'.n = d.n ∧ d'.e = d.e ∧ d'.xs = d.xs ∧ d'.n ≤ d'.c
theorem ints_own {W W' : World} {row : Option Nat} {lo hi : Nat} {k : IntKind} {A : Option Addr} {n : Nat} {xs : List Int} (h : Ints W lo hi k A n xs) (hg : W.grownBy W' row) (hr : ∀ r, row = some r → (∃ o : Obj, W.heap[r]? = some o ∧ o.isCells = false) ∨ r < lo) : Ints W' lo hi k A n xs :=
 ⟨h.len, h.wf, h.big, fun h0 => by
  obtain ⟨b, off, e, h1, h2, hc⟩ := h.row h0
  have hlt := World.block_lt_of_cell? W _ (hc 0 h0).1
  have h3 : W'.heap[b]? = W.heap[b]? := hg.block b hlt fun e' => by
   rcases hr b e'.symm with ⟨o, h4, h5⟩ | h4
   · have := (hc 0 h0).1
     rw [World.cell?] at this
     simp only [h4] at this
     cases o <;> simp_all [Obj.isCells]
   · omega
  exact ⟨b, off, e, h1, h2, fun j hj => ⟨by rw [World.cell?_of_block h3]; exact (hc j hj).1, by rw [World.frozen?_of_block h3]; exact (hc j hj).2⟩⟩⟩
theorem boxes4 (w : World) (o1 o2 o3 o4 : Obj) {w1 : World} (hw : (((w.alloc o1).alloc o2).alloc o3).alloc o4 = w1) :
  (w1.heap[w.heap.size]? = some o1 ∧ w1.heap[w.heap.size + 1]? = some o2 ∧ w1.heap[w.heap.size + 1 + 1]? = some o3 ∧ w1.heap[w.heap.size + 1 + 1 + 1]? = some o4) ∧ Below w.heap.size w w1 ∧ w.heap.size + 4 ≤ w1.heap.size ∧ w1.heap.size ≤ w.heap.size + 4 := by
 obtain ⟨h1, h2, h3, h4, h5⟩ := boxes2 w o1 o2 rfl
 obtain ⟨k1, k2, k3, k4, k5⟩ := boxes2 ((w.alloc o1).alloc o2) o3 o4 rfl
 subst hw
 have e : ((w.alloc o1).alloc o2).heap.size = w.heap.size + 1 + 1 := by simp
 rw [e] at k1 k2
 exact ⟨⟨heapN k3 h1, heapN k3 h2, k1, k2⟩, h3.trans (k3.mono (by omega)), by omega, by omega⟩
theorem grown_putD (w : World) (D : Nat) : w.grownBy (w.putObj D (.deferred none)) (some D) := ⟨rfl, rfl, rfl, by simp, fun k _ hk => World.putObj_heap_other (fun e => hk (by rw [e]))⟩
/-- What stands amid mass.Twin's rounds. -/
structure TwI (w : World) (B : Nat) (m : Mv) (pre : List Nat) (O : Nat → Prop) (W : World) (m' : Mv) : Prop where
 own : O w.heap.size
 box : MBox W w.heap.size m'
 res : MBox W (w.heap.size + 1) ZM
 done : ∀ j, j ∈ pre → j < 4 → TwinV (m.get j) (m'.get j) ∧ Ints W B W.heap.size .u32 (m'.get j).A (m'.get j).n (m'.get j).xs
 rest : ∀ j, j ∉ pre → j < 4 → m'.get j = m.get j
 bel : Below w.heap.size w W
set_option maxHeartbeats 6400000 in
set_option maxRecDepth 100000 in
/-- mass.Twin. -/
theorem MTwin_any (w : World) (m : Mv) (hR : MRows w 0 w.heap.size m) (hn : ∀ x, x < 4 → (m.get x).n ≤ 1000000) :
  Calls Tryd.prog 37 #[.agg #[.bool m.S.s, .slice m.S.A m.S.n m.S.c, .int .i64 m.S.e, .bool m.W.s, .slice m.W.A m.W.n m.W.c, .int .i64 m.W.e, .bool m.C.s, .slice m.C.A m.C.n m.C.c, .int .i64 m.C.e, .bool m.A.s, .slice m.A.A m.A.n m.A.c, .int .i64 m.A.e]] w fun e w' => ∃ m', e = .returned (.agg #[.bool m'.S.s, .slice m'.S.A m'.S.n m'.S.c, .int .i64 m'.S.e, .bool m'.W.s, .slice m'.W.A m'.W.n m'.W.c, .int .i64 m'.W.e, .bool m'.C.s, .slice m'.C.A m'.C.n m'.C.c, .int .i64 m'.C.e, .bool m'.A.s, .slice m'.A.A m'.A.n m'.A.c, .int .i64 m'.A.e]) ∧ (∀ x, x < 4 → TwinV (m.get x) (m'.get x)) ∧ Below w.heap.size w w' ∧ MRows w' w.heap.size w'.heap.size m' := by
 refine (callsIn_wide (n := 5)).1 ?_
 refine callsIn_of_wp_marks Tryd.func37 rfl trivial ?_ rfl
 simp only [Tryd.ntmps37, List.size_toArray, List.length_cons, List.length_nil, Nat.reduceAdd, Nat.reduceSub, Array.replicate_succ, Array.replicate_zero, List.push_toArray, List.append_toArray, List.nil_append, List.cons_append]
 gi_wp2_with fail
 refine ⟨trivial, (callsIn_wide.2 (parts_any _ _ _)).mono ?_⟩
 rintro e w2 ⟨rfl, rfl⟩
 gi_wp2_with fail
 obtain ⟨W0, hW0⟩ : ∃ W0, (((w.alloc (.cells #[.bool m.S.s, .slice m.S.A m.S.n m.S.c, .int .i64 m.S.e, .bool m.W.s, .slice m.W.A m.W.n m.W.c, .int .i64 m.W.e, .bool m.C.s, .slice m.C.A m.C.n m.C.c, .int .i64 m.C.e, .bool m.A.s, .slice m.A.A m.A.n m.A.c, .int .i64 m.A.e] 26)).alloc (.cells #[.bool false, .slice none 0 0, .int .i64 0, .bool false, .slice none 0 0, .int .i64 0, .bool false, .slice none 0 0, .int .i64 0, .bool false, .slice none 0 0, .int .i64 0] 26)).alloc (.cells #[.pointer (some ⟨w.heap.size, 0, none⟩)] 86)).alloc (.cells #[.pointer (some ⟨w.heap.size, 0, none⟩)] 86) = W0 := ⟨_, rfl⟩
 obtain ⟨⟨hM0, hE0, hS1, hS2⟩, hB0, hlo, hhi⟩ := boxes4 w _ _ _ _ hW0
 rw [hW0]
 clear hW0
 refine wpIn_rangeFunc_sep2 (F := Fence.wide) rfl (by decide) (gf := 80) (lb := #[.pointer (some ⟨w.heap.size + 1 + 1, 0, none⟩), .pointer (some ⟨w.heap.size + 1 + 1 + 1, 0, none⟩)]) rfl trivial (enters_of Tryd.func80 (by kernel_rfl) rfl)
  (parts_seq _ _ _ w.heap.size w.heap.size W0 ⟨hS1, hS2⟩) (by omega) (fun _ => rfl)
  (fun pre O W => W0.heap.size ≤ W.heap.size ∧ ∃ m', TwI w W0.heap.size m pre O W m')
  (fun _ _ _ _ => False)
  (fun O s A B row hs hg hr => by
   obtain ⟨hsz, m', h⟩ := hs
   exact ⟨Nat.le_trans hsz hg.size, m', h.own, heap_own h.box hg (fun r e => (hr r e).2), heap_own h.res hg (fun r e => (hr r e).2), fun j h1 h2 => ⟨(h.done j h1 h2).1, (ints_own (h.done j h1 h2).2 hg (fun r e => .inl (hr r e).2)).more (Nat.le_refl _) hg.size⟩, h.rest, h.bel.grown hg h.bel.size (fun k e => by have := (hr k e).1; omega)⟩)
  (fun j O s A B row hs hg hr => hs)
  (fun s O A B row hs hg hr => by
   obtain ⟨hsz, m', h⟩ := hs
   exact ⟨Nat.le_trans hsz hg.size, m', h.own, heap_loose h.box hg hr (by omega), heap_loose h.res hg hr (by omega), fun j h1 h2 => ⟨(h.done j h1 h2).1, (ints_own (h.done j h1 h2).2 hg (fun r e => .inr (by have := hr r e; omega))).more (Nat.le_refl _) hg.size⟩, h.rest, below_loose h.bel (Nat.le_refl _) hg hr (by omega)⟩)
  (fun j s O A B row hs hg hr => hs)
  (fun k => k = w.heap.size) (fun k hk e => by omega) (fun k e => by omega) ⟨Nat.le_refl _, m, rfl, hM0, hE0, (fun x hx => absurd hx (List.not_mem_nil)), fun _ _ _ => rfl, hB0⟩
  (fun x a' W => a' = { tmps := #[.agg #[.bool m.S.s, .slice m.S.A m.S.n m.S.c, .int .i64 m.S.e, .bool m.W.s, .slice m.W.A m.W.n m.W.c, .int .i64 m.W.e, .bool m.C.s, .slice m.C.A m.C.n m.C.c, .int .i64 m.C.e, .bool m.A.s, .slice m.A.A m.A.n m.A.c, .int .i64 m.A.e], .pointer (some ⟨w.heap.size, 0, none⟩), .pointer (some ⟨w.heap.size + 1, 0, none⟩), .pointer (some ⟨w.heap.size, 3 * x, none⟩),
   .func (.func 80) #[] #[.pointer (some ⟨w.heap.size + 1 + 1, 0, none⟩), .pointer (some ⟨w.heap.size + 1 + 1 + 1, 0, none⟩)], .pointer (some ⟨w.heap.size, 3 * x, none⟩), .pointer (some ⟨w.heap.size, 3 * x, none⟩), undef, undef, undef, undef, undef, undef, undef], defers := [] })
  (fun x a' _ _ _ _ h _ _ => h) ?assign ?body ?done ?stop
 case assign =>
  intro l pre x O W K hgx hsW hi hK
  unfold encM
  gi_wp2
  exact hK _ _ (KeepsFrom.refl _ _) (Gain.refl _ _) hi rfl
 case body =>
  rintro l pre x O a' W ⟨hx4, hpre⟩ hsW ⟨hsz, m', h⟩ rfl _
  have hnin : x ∉ pre := fun hin => by
   rw [hpre] at hin
   exact Nat.lt_irrefl x (List.mem_range.1 hin)
  have hmx := h.rest x hnin hx4
  have hrow : Ints W 0 W.heap.size .u32 (m.get x).A (m.get x).n (m.get x).xs := ((hR.get x).below h.bel (Nat.le_refl _)).more (Nat.le_refl _) h.bel.size
  have hn' := hn x hx4
  have hcm := MBox.at_ h.box hx4
  rw [hmx] at hcm
  generalize hd : m.get x = d at hcm hrow hn' hmx
  have HD := Lib.hid hd
  have HMX := Lib.hid hmx
  clear hd hmx
  obtain ⟨⟨k1, k2, k3⟩, k4, k5, k6⟩ := hcm
  gi_wp2_with fail
  refine ⟨trivial, (CallsIn.inRound l (callsIn_wide.2 (Pa.dyadTwin_any W d.s d.A d.n d.c d.xs d.e hrow hn'))).mono ?_⟩
  rintro e W2 ⟨A', c', rfl, hc', hB, hlt, hI⟩
  have hM2 := box_on h.box hB (by omega)
  have hcm2 := MBox.at_ (m := m') hM2 hx4
  rw [HMX.out] at hcm2
  obtain ⟨⟨j1, j2, j3⟩, j4, j5, j6⟩ := hcm2
  clear k1 k2 k3 k4 k5 k6
  gi_wp2
  have hb2 := h.bel.trans (hB.mono h.bel.size)
  have hs2 := h.bel.size
  have hs3 := hB.size
  refine ⟨(keeps_below hB).trans (((KeepsOthers.setCell _ _ _).trans (KeepsOthers.setCell _ _ _)).trans (KeepsOthers.setCell _ _ _) |>.from _), O, (gain_below hB).trans (((gain_set h.own _).trans (gain_set h.own _)).trans (gain_set h.own _)), by simp [World.setCell]; omega, m'.put x ⟨d.s, A', d.n, c', d.e, d.xs⟩, h.own, MBox.put hM2 hx4 ⟨d.s, A', d.n, c', d.e, d.xs⟩, ?_, fun j hj hj4 => ?_, fun j hj hj4 => ?_, ((hb2.setCell (Nat.le_refl _) _).setCell (Nat.le_refl _) _).setCell (Nat.le_refl _) _⟩
  · exact (Below.heap_setCell _ _ _ _ (by simp)).trans ((Below.heap_setCell _ _ _ _ (by simp)).trans ((Below.heap_setCell _ _ _ _ (by simp)).trans (box_on h.res hB (by omega))))
  · rw [put_get hx4 hj4]
    have hsz3 : (((W2.setCell ⟨w.heap.size, 3 * x, none⟩ (.bool d.s)).setCell ⟨w.heap.size, 3 * x + 1, none⟩ (.slice A' d.n c')).setCell ⟨w.heap.size, 3 * x + 2, none⟩ (.int .i64 d.e)).heap.size = W2.heap.size := by simp [World.setCell]
    by_cases e : j = x
    · rw [if_pos e, e, HD.out]
      refine ⟨⟨rfl, rfl, rfl, rfl, hc'⟩, ?_⟩
      exact (ints_far (ints_far (ints_far (hI.more (by omega) (Nat.le_refl _)) (.inl (by show w.heap.size < W0.heap.size; omega)) _) (.inl (by show w.heap.size < W0.heap.size; omega)) _) (.inl (by show w.heap.size < W0.heap.size; omega)) _).more (Nat.le_refl _) (by rw [hsz3]; exact Nat.le_refl _)
    · rw [if_neg e]
      have hjp : j ∈ pre := by
       rcases List.mem_append.1 hj with h1 | h1
       · exact h1
       · exact absurd (List.mem_singleton.1 h1) e
      refine ⟨(h.done j hjp hj4).1, ?_⟩
      exact (ints_far (ints_far (ints_far ((h.done j hjp hj4).2.below hB (Nat.le_refl _)) (.inl (by show w.heap.size < W0.heap.size; omega)) _) (.inl (by show w.heap.size < W0.heap.size; omega)) _) (.inl (by show w.heap.size < W0.heap.size; omega)) _).more (Nat.le_refl _) (by rw [hsz3]; omega)
  · have h1 : j ∉ pre := fun h1 => hj (List.mem_append_left _ h1)
    have e : j ≠ x := fun e => hj (by rw [e]; exact List.mem_append_right _ (List.mem_singleton.2 rfl))
    rw [put_get hx4 hj4, if_neg e]
    exact h.rest j h1 hj4
 case done =>
  rintro D ys O W hD hS ⟨hsz, m', h⟩ hK
  obtain ⟨⟨k0, k1, k2, k3, k4, k5, k6, k7, k8, k9, k10, k11⟩, kf⟩ := MBox.cells h.box
  obtain ⟨⟨z0, z1, z2, z3, z4, z5, z6, z7, z8, z9, z10, z11⟩, zf⟩ := MBox.cells h.res
  have hall : ∀ x, x < 4 → TwinV (m.get x) (m'.get x) ∧ Ints W W0.heap.size W.heap.size .u32 (m'.get x).A (m'.get x).n (m'.get x).xs := fun x hx => h.done x (by rw [hS]; simp; omega) hx
  have hbel := h.bel
  have hres := h.res
  clear h hS
  gi_wp2
  have hK' := (keeps_all (w := W) (g := w.heap.size + 1) m').same D _ hK rfl
  have hR' : MRows W W0.heap.size W.heap.size m' := ⟨(hall 0 (by decide)).2, (hall 1 (by decide)).2, (hall 2 (by decide)).2, (hall 3 (by decide)).2⟩
  have hX := MBox.all hres m'
  have hY := below_all hbel (show w.heap.size ≤ w.heap.size + 1 by omega) m'
  have hZ := rows_all hR' (g := w.heap.size + 1) (.inl (by omega)) m'
  have hs := size_all (w := W) (g := w.heap.size + 1) m'
  clear k0 k1 k2 k3 k4 k5 k6 k7 k8 k9 k10 k11 kf z0 z1 z2 z3 z4 z5 z6 z7 z8 z9 z10 z11 zf
  generalize ((((((((((((W.setCell ⟨w.heap.size + 1, 0, none⟩ (.bool m'.S.s)).setCell ⟨w.heap.size + 1, 1, none⟩ (.slice m'.S.A m'.S.n m'.S.c)).setCell ⟨w.heap.size + 1, 2, none⟩ (.int .i64 m'.S.e)).setCell ⟨w.heap.size + 1, 3, none⟩ (.bool m'.W.s)).setCell ⟨w.heap.size + 1, 4, none⟩ (.slice m'.W.A m'.W.n m'.W.c)).setCell ⟨w.heap.size + 1, 5, none⟩ (.int .i64 m'.W.e)).setCell ⟨w.heap.size + 1, 6, none⟩ (.bool m'.C.s)).setCell ⟨w.heap.size + 1, 7, none⟩ (.slice m'.C.A m'.C.n m'.C.c)).setCell ⟨w.heap.size + 1, 8, none⟩ (.int .i64 m'.C.e)).setCell ⟨w.heap.size + 1, 9, none⟩ (.bool m'.A.s)).setCell ⟨w.heap.size + 1, 10, none⟩ (.slice m'.A.A m'.A.n m'.A.c)).setCell ⟨w.heap.size + 1, 11, none⟩ (.int .i64 m'.A.e)) = V at *
  have hX2 : MBox (V.putObj D (.deferred none)) (w.heap.size + 1) m' := (World.putObj_heap_other (o := .deferred none) (by omega : w.heap.size + 1 ≠ D)).trans hX
  obtain ⟨⟨k0, k1, k2, k3, k4, k5, k6, k7, k8, k9, k10, k11⟩, kf⟩ := MBox.cells hX2
  refine ⟨by simp, .inl ⟨_, _, rfl, run_takeDeferred hK', ?_⟩⟩
  refine ⟨.agg #[.bool m'.S.s, .slice m'.S.A m'.S.n m'.S.c, .int .i64 m'.S.e, .bool m'.W.s, .slice m'.W.A m'.W.n m'.W.c, .int .i64 m'.W.e, .bool m'.C.s, .slice m'.C.A m'.C.n m'.C.c, .int .i64 m'.C.e, .bool m'.A.s, .slice m'.A.A m'.A.n m'.A.c, .int .i64 m'.A.e], ?_, m', rfl, ?_⟩
  · simp [results, Tryd.f37, go_sem, k0, k1, k2, k3, k4, k5, k6, k7, k8, k9, k10, k11]
  · refine ⟨fun x hx => (hall x hx).1, hY.trans (belowK_b (w := w) (Nat.le_refl _) _ D _ _ (by omega) hK' rfl rfl), ?_⟩
    have hp : ∀ k, k ≠ D → (V.putObj D (.deferred none)).heap[k]? = V.heap[k]? := fun k hk => World.putObj_heap_other hk
    have hdD : D < V.heap.size := lt_of_heap hK'
    have rr : ∀ x, x < 4 → Ints (V.putObj D (.deferred none)) W0.heap.size W.heap.size .u32 (m'.get x).A (m'.get x).n (m'.get x).xs := fun x _ => ints_own (hZ.get x) (grown_putD V D) (fun r e => by
     injection e with e
     exact .inl ⟨_, e ▸ hK', rfl⟩)
    have hsz2 : (V.putObj D (.deferred none)).heap.size = V.heap.size := by simp
    have hs' : V.heap.size = W.heap.size := hs
    exact MRows.more ⟨rr 0 (by decide), rr 1 (by decide), rr 2 (by decide), rr 3 (by decide)⟩ (by omega) (by omega)
 case stop =>
  rintro D j pre O W hD hSp hf hK
  exact hf.elim
end Ma
end Go.Proofs.YtbbnbgllgomolaaDoor