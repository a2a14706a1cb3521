/- A mass's value and rows; mass.Check: a walk (printed by a program of mine). -/
/- mass.Same: a walk (printed by a program of mine). -/
/- mass.Twin: a walk (printed by a program of mine). -/
/- mass.each, with Add and with Sub: walks (printed by a program of mine). -/
/- mass.Add and mass.Sub: walks (printed by a program of mine). -/
/- mass.Seed: a walk (printed by a program of mine). -/
/- mass.Split: a walk (printed by a program of mine). -/
/- Plain laws about masses' values, and contracts that say the numbers (printed by a program of mine). -/
import Derived.Test.YtbbnbgllgomolaaBy05
import Derived.Test.YtbbnbgllgomolaaBy04
import Derived.Test.YtbbnbgllgomolaaBy03
import Derived.Test.YtbbnbgllgomolaaBy02
namespace Go.Proofs.Ytbbnbgllgomolaa
open Go.RowKit
namespace Ma
open Dp Dy
attribute [local go_sem] Oper.semAt_some
/-- A dyad's value, and what its row holds. -/
structure Dv where
 s : Bool
 A : Option Addr
 n : Nat
 c : Nat
 e : Int
 xs : List Int
structure Mv where
 S : Dv
 W : Dv
 C : Dv
 A : Dv
def Mv.get (m : Mv) : Nat → Dv
 | 0 => m.S
 | 1 => m.W
 | 2 => m.C
 | _ => m.A
def Dv.Row (w : World) (lo hi : Nat) (d : Dv) : Prop := Ints w lo hi .u32 d.A d.n d.xs
def Dv.may (d : Dv) : Prop := MayD d.s d.xs d.e
structure MRows (w : World) (lo hi : Nat) (m : Mv) : Prop where
 S : m.S.Row w lo hi
 W : m.W.Row w lo hi
 C : m.C.Row w lo hi
 A : m.A.Row w lo hi
theorem MRows.get {w : World} {lo hi : Nat} {m : Mv} (h : MRows w lo hi m) (x : Nat) : Ints w lo hi .u32 (m.get x).A (m.get x).n (m.get x).xs := by
 unfold Mv.get
 split
 · exact h.S
 · exact h.W
 · exact h.C
 · exact h.A
theorem MRows.below {w w' : World} {lo hi B : Nat} {m : Mv} (h : MRows w lo hi m) (hb : Below B w w') (hB : hi ≤ B) : MRows w' lo hi m := ⟨Ints.below h.S hb hB, Ints.below h.W hb hB, Ints.below h.C hb hB, Ints.below h.A hb hB⟩
theorem MRows.more {w : World} {lo hi lo' hi' : Nat} {m : Mv} (h : MRows w lo hi m) (hl : lo' ≤ lo) (hh : hi ≤ hi') : MRows w lo' hi' m := ⟨Ints.more h.S hl hh, Ints.more h.W hl hh, Ints.more h.C hl hh, Ints.more h.A hl hh⟩
/-- A mass in a block. -/
def MBox (w : World) (g : Nat) (m : Mv) : Prop := w.heap[g]? = some (.cells #[.bool m.S.s, .slice m.S.A m.S.n m.S.c, .int .i64 m.S.e, .bool m.W.s, .slice m.W.A m.W.n m.W.c, .int .i64 m.W.e, .bool m.C.s, .slice m.C.A m.C.n m.C.c, .int .i64 m.C.e, .bool m.A.s, .slice m.A.A m.A.n m.A.c, .int .i64 m.A.e] 27 (0, 0))
theorem MBox.at_ {w : World} {g : Nat} {m : Mv} (h : MBox w g m) {x : Nat} (hx : x < 4) :
  (w.cell? ⟨g, 3 * x, none⟩ = some (.bool (m.get x).s) ∧ w.cell? ⟨g, 3 * x + 1, none⟩ = some (.slice (m.get x).A (m.get x).n (m.get x).c) ∧ w.cell? ⟨g, 3 * x + 2, none⟩ = some (.int .i64 (m.get x).e)) ∧
   (w.frozen? ⟨g, 3 * x, none⟩ = false ∧ w.frozen? ⟨g, 3 * x + 1, none⟩ = false ∧ w.frozen? ⟨g, 3 * x + 2, none⟩ = false) := by
 have hf : ∀ k, w.frozen? ⟨g, k, none⟩ = false := fun k => frozen_of_row w g k _ _ h
 refine ⟨?_, hf _, hf _, hf _⟩
 have hc : ∀ k v, (#[.bool m.S.s, .slice m.S.A m.S.n m.S.c, .int .i64 m.S.e, .bool m.W.s, .slice m.W.A m.W.n m.W.c, .int .i64 m.W.e, .bool m.C.s, .slice m.C.A m.C.n m.C.c, .int .i64 m.C.e, .bool m.A.s, .slice m.A.A m.A.n m.A.c, .int .i64 m.A.e] : Array Value)[k]? = some v → w.cell? ⟨g, k, none⟩ = some v := fun k v hk => by
  unfold MBox at h
  simp [World.cell?, h]
  simpa using hk
 have hx' : x = 0 ∨ x = 1 ∨ x = 2 ∨ x = 3 := by omega
 rcases hx' with rfl | rfl | rfl | rfl <;> exact ⟨hc _ _ rfl, hc _ _ rfl, hc _ _ rfl⟩
def Mv.may (m : Mv) : Prop := ∀ x, x < 4 → (m.get x).may
open Classical in
noncomputable def chkM (m : Mv) : Int := if m.may then 0 else 8
theorem box_on {w w' : World} {g B : Nat} {o : Obj} (h : w.heap[g]? = some o) (hb : Below B w w') (hB : g < B) : w'.heap[g]? = some o := (hb.block g hB).trans h
theorem gain_below {O : Nat → Prop} {w w' : World} (hb : Below w.heap.size w w') : Gain O O w w' := ⟨hb.size, fun k _ _ _ _ h => (hb.block k (lt_of_heap h)).trans h, fun _ h => .inl h⟩
theorem keeps_below {w w' : World} {B : Nat} (hb : Below w.heap.size w w') : KeepsFrom B w w' := ⟨hb.size, fun k _ _ hk _ => (hb.block k (lt_of_heap hk)).trans hk⟩
theorem gain_set {O : Nat → Prop} {w : World} {p : Addr} (hp : O p.block) (v : Value) : Gain O O w (w.setCell p v) := ⟨by simp [World.setCell], fun k _ _ _ hk h => by
  have : p.block ≠ k := fun e => hk (e ▸ hp)
  rw [← h]
  simp [World.setCell, Array.getElem?_modify, this], fun _ h => .inl h⟩
theorem heap_own {W W' : World} {row : Option Nat} {g : Nat} {cs : Array Value} {t : TypeId} {z : Nat × Nat} (h : W.heap[g]? = some (.cells cs t z)) (hg : W.grownBy W' row) (hr : ∀ r, row = some r → ∃ o : Obj, W.heap[r]? = some o ∧ o.isCells = false) : W'.heap[g]? = some (.cells cs t z) := by
 refine (hg.block g (lt_of_heap h) (fun e => ?_)).trans h
 obtain ⟨o, h1, h2⟩ := hr g e.symm
 rw [h] at h1
 cases h1
 cases h2
theorem heap_loose {W W' : World} {row : Option Nat} {g gl : Nat} {o : Obj} (h : W.heap[g]? = some o) (hg : W.grownBy W' row) (hr : ∀ r, row = some r → r = gl) (hne : g ≠ gl) : W'.heap[g]? = some o :=
 (hg.block g (lt_of_heap h) (fun e => hne (hr g e.symm))).trans h
theorem below_loose {W0 W W' : World} {B gl : Nat} {row : Option Nat} (h : Below B W0 W) (hB : B ≤ W0.heap.size) (hg : W.grownBy W' row) (hr : ∀ r, row = some r → r = gl) (hle : B ≤ gl) : Below B W0 W' :=
 h.grown hg (Nat.le_trans hB h.size) (fun k e => by have := hr k e; omega)
theorem set1 {w : World} {g : Nat} {x : Value} {t : TypeId} (h : w.heap[g]? = some (.cells #[x] t (0, 0))) (v : Value) : (w.setCell ⟨g, 0, none⟩ v).heap[g]? = some (.cells #[v] t (0, 0)) := by
 simp [World.setCell, Array.getElem?_modify, h]
set_option maxHeartbeats 3200000 in
set_option maxRecDepth 100000 in
/-- mass.Check. -/
theorem MCheck_any (w : World) (m : Mv) (hR : MRows w 0 w.heap.size m) (k : Int) (hk : chkM m = k) :
  Calls Try.prog 116 #[.agg #[.bool m.S.s, .slice m.S.A m.S.n m.S.c, .int .i64 m.S.e, .bool m.W.s, .slice m.W.A m.W.n m.W.c, .int .i64 m.W.e, .bool m.C.s, .slice m.C.A m.C.n m.C.c, .int .i64 m.C.e, .bool m.A.s, .slice m.A.A m.A.n m.A.c, .int .i64 m.A.e]] w fun e w' => e = .returned (.int .i64 k) ∧ Below w.heap.size w w' := by
 have HK := Lib.hid hk
 clear hk
 refine (callsIn_wide (n := 5)).1 ?_
 refine callsIn_of_wp_marks Try.func116 rfl trivial ?_ rfl
 simp only [Try.ntmps116, List.size_toArray, List.length_cons, List.length_nil, Nat.reduceAdd, Nat.reduceSub, Array.replicate_succ, Array.replicate_zero, List.push_toArray, List.append_toArray, List.nil_append, List.cons_append]
 gi_wp2_with fail
 refine ⟨trivial, (callsIn_wide.2 (parts_any _ _ _)).mono ?_⟩
 rintro e w2 ⟨rfl, rfl⟩
 gi_wp2_with fail
 obtain ⟨W0, hW0⟩ : ∃ W0, ((((w.alloc (.cells #[.bool m.S.s, .slice m.S.A m.S.n m.S.c, .int .i64 m.S.e, .bool m.W.s, .slice m.W.A m.W.n m.W.c, .int .i64 m.W.e, .bool m.C.s, .slice m.C.A m.C.n m.C.c, .int .i64 m.C.e, .bool m.A.s, .slice m.A.A m.A.n m.A.c, .int .i64 m.A.e] 27)).alloc (.cells #[.int .i64 0] 41)).alloc (.cells #[.pointer (some ⟨w.heap.size, 0, none⟩)] 134)).alloc (.cells #[.pointer (some ⟨w.heap.size, 0, none⟩)] 134)) = W0 := ⟨_, rfl⟩
 have hsz : W0.heap.size = w.heap.size + 4 := by rw [← hW0]; simp
 have hB0 : Below w.heap.size w W0 := by rw [← hW0]; exact ((((Below.refl _ w).alloc (Nat.le_refl _) _).alloc (by simp) _).alloc (by simp <;> omega) _).alloc (by simp <;> omega) _
 have hM0 : MBox W0 w.heap.size m := by rw [← hW0]; exact (Below.heap_alloc _ _ _ (by simp <;> omega)).trans ((Below.heap_alloc _ _ _ (by simp <;> omega)).trans ((Below.heap_alloc _ _ _ (by simp)).trans (heap_alloc_last _ _)))
 have hE0 : W0.heap[w.heap.size + 1]? = some (.cells #[.int .i64 0] 41 (0, 0)) := by rw [← hW0]; exact (Below.heap_alloc _ _ _ (by simp <;> omega)).trans ((Below.heap_alloc _ _ _ (by simp)).trans (heap_alloc2_new _ _ _))
 have hS0 : Two (w.heap.size + 1 + 1) (w.heap.size + 1 + 1 + 1) w.heap.size w.heap.size W0 := by
  rw [← hW0]
  refine ⟨(Below.heap_alloc _ _ _ (by simp)).trans ?_, ?_⟩
  · have := heap_alloc_last ((w.alloc (.cells #[.bool m.S.s, .slice m.S.A m.S.n m.S.c, .int .i64 m.S.e, .bool m.W.s, .slice m.W.A m.W.n m.W.c, .int .i64 m.W.e, .bool m.C.s, .slice m.C.A m.C.n m.C.c, .int .i64 m.C.e, .bool m.A.s, .slice m.A.A m.A.n m.A.c, .int .i64 m.A.e] 27)).alloc (.cells #[.int .i64 0] 41)) (.cells #[.pointer (some ⟨w.heap.size, 0, none⟩)] 134)
    simpa using this
  · have := heap_alloc_last (((w.alloc (.cells #[.bool m.S.s, .slice m.S.A m.S.n m.S.c, .int .i64 m.S.e, .bool m.W.s, .slice m.W.A m.W.n m.W.c, .int .i64 m.W.e, .bool m.C.s, .slice m.C.A m.C.n m.C.c, .int .i64 m.C.e, .bool m.A.s, .slice m.A.A m.A.n m.A.c, .int .i64 m.A.e] 27)).alloc (.cells #[.int .i64 0] 41)).alloc (.cells #[.pointer (some ⟨w.heap.size, 0, none⟩)] 134)) (.cells #[.pointer (some ⟨w.heap.size, 0, none⟩)] 134)
    simpa using this
 have HSZ := Lib.hid hsz
 have hlo : w.heap.size + 4 ≤ W0.heap.size := by omega
 have hhi : W0.heap.size ≤ w.heap.size + 4 := by omega
 rw [hW0]
 clear hW0 hsz
 refine wpIn_rangeFunc_sep2 (F := Fence.wide) rfl (by decide) (gf := 125) (lb := #[.pointer (some ⟨w.heap.size + 1 + 1, 0, none⟩), .pointer (some ⟨w.heap.size + 1 + 1 + 1, 0, none⟩)]) rfl trivial (enters_of Try.func125 (by kernel_rfl) rfl)
  (parts_seq _ _ _ _ _ W0 hS0) (by omega) (fun _ => rfl)
  (fun pre O W => O (w.heap.size + 1) ∧ (∀ x, x ∈ pre → x < 4 → (m.get x).may) ∧ MBox W w.heap.size m ∧ W.heap[w.heap.size + 1]? = some (.cells #[.int .i64 0] 41 (0, 0)) ∧ Below w.heap.size w W)
  (fun j pre O W => j = .ret ∧ (¬ m.may) ∧ W.heap[w.heap.size + 1]? = some (.cells #[.int .i64 8] 41 (0, 0)) ∧ Below w.heap.size w W)
  (fun O s A B row hs hg hr => ⟨hs.1, hs.2.1, heap_own hs.2.2.1 hg (fun r e => (hr r e).2), heap_own hs.2.2.2.1 hg (fun r e => (hr r e).2), hs.2.2.2.2.grown hg hs.2.2.2.2.size (fun k e => by have := (hr k e).1; omega)⟩)
  (fun j O s A B row hs hg hr => ⟨hs.1, hs.2.1, heap_own hs.2.2.1 hg (fun r e => (hr r e).2), hs.2.2.2.grown hg hs.2.2.2.size (fun k e => by have := (hr k e).1; omega)⟩)
  (fun s O A B row hs hg hr => ⟨hs.1, hs.2.1, heap_loose hs.2.2.1 hg hr (by omega), heap_loose hs.2.2.2.1 hg hr (by omega), below_loose hs.2.2.2.2 (Nat.le_refl _) hg hr (by omega)⟩)
  (fun j s O A B row hs hg hr => ⟨hs.1, hs.2.1, heap_loose hs.2.2.1 hg hr (by omega), below_loose hs.2.2.2 (Nat.le_refl _) hg hr (by omega)⟩)
  (fun k => k = w.heap.size + 1) (fun k hk e => by omega) (fun k e => by omega) ⟨rfl, (fun x hx => absurd hx (List.not_mem_nil)), hM0, hE0, hB0⟩
  (fun x a' W => a' = { tmps := #[.agg #[.bool m.S.s, .slice m.S.A m.S.n m.S.c, .int .i64 m.S.e, .bool m.W.s, .slice m.W.A m.W.n m.W.c, .int .i64 m.W.e, .bool m.C.s, .slice m.C.A m.C.n m.C.c, .int .i64 m.C.e, .bool m.A.s, .slice m.A.A m.A.n m.A.c, .int .i64 m.A.e], .pointer (some ⟨w.heap.size, 0, none⟩), .pointer (some ⟨w.heap.size + 1, 0, none⟩), .pointer (some ⟨w.heap.size, 3 * x, none⟩), undef,
   .func (.func 125) #[] #[.pointer (some ⟨w.heap.size + 1 + 1, 0, none⟩), .pointer (some ⟨w.heap.size + 1 + 1 + 1, 0, none⟩)], .pointer (some ⟨w.heap.size, 3 * x, none⟩), .pointer (some ⟨w.heap.size, 3 * x, none⟩), undef, undef, undef, undef, undef, undef, undef], defers := [] })
  (fun x a' _ _ _ _ h _ _ => h) ?assign ?body ?done ?stop
 case assign =>
  intro l pre x O W K hgx hsW hi hK
  unfold encM
  gi_wp2
  exact hK _ _ (KeepsFrom.refl _ _) (Gain.refl _ _) hi rfl
 case body =>
  rintro l pre x O a' W ⟨hx4, hpre⟩ hsW ⟨hO, hall, hM, hE, hb⟩ rfl _
  obtain ⟨⟨k1, k2, k3⟩, _⟩ := MBox.at_ hM hx4
  have hrow : Ints W 0 W.heap.size .u32 (m.get x).A (m.get x).n (m.get x).xs := ((hR.get x).below hb (Nat.le_refl _)).more (Nat.le_refl _) hb.size
  generalize hd : m.get x = d at k1 k2 k3 hrow
  have HD := Lib.hid hd
  clear hd
  obtain ⟨e1, e2⟩ := cells1 hE
  by_cases hm : d.may
  · have hc : chkX d.s d.xs d.e = 0 := if_pos hm
    have HC := Lib.hid hc
    have HM := Lib.hid hm
    clear hc hm
    gi_wp2_with fail
    refine ⟨trivial, (CallsIn.inRound l (callsIn_wide.2 (Check_all W d.s d.A d.n d.c d.xs d.e hrow 0 HC.out))).mono ?_⟩
    rintro e W2 ⟨rfl, hB⟩
    gi_wp2
    refine ⟨keeps_below hB, O, gain_below hB, hO, fun y hy hy4 => ?_, box_on hM hB (by omega), box_on hE hB (by omega), hb.trans (hB.mono hb.size)⟩
    rcases List.mem_append.1 hy with h | h
    · exact hall y h hy4
    · rw [List.mem_singleton.1 h, HD.out]
      exact HM.out
  · have hc : chkX d.s d.xs d.e = 8 := if_neg hm
    have HC := Lib.hid hc
    have HM := Lib.hid hm
    clear hc hm
    gi_wp2_with fail
    refine ⟨trivial, (CallsIn.inRound l (callsIn_wide.2 (Check_all W d.s d.A d.n d.c d.xs d.e hrow 8 HC.out))).mono ?_⟩
    rintro e W2 ⟨rfl, hB⟩
    have hE2 := box_on hE hB (by omega)
    obtain ⟨e3, e4⟩ := cells1 hE2
    clear e1 e2
    gi_wp2
    exact ⟨(keeps_below hB).trans ((KeepsOthers.setCell _ _ _).from _), O, (gain_below hB).trans (gain_set hO _), rfl, fun h => HM.out (by have := h x hx4; rw [HD.out] at this; exact this), set1 hE2 _, (hb.trans (hB.mono hb.size)).setCell (by simp) _⟩
 case done =>
  rintro D ys O W hD hS ⟨hO, hall, hM, hE, hb⟩ hK
  obtain ⟨e1, e2⟩ := cells1 hE
  have hm : m.may := fun x hx => hall x (by rw [hS]; simp; omega) hx
  have hk := HK.out
  rw [chkM, if_pos hm] at hk
  subst hk
  clear hm hS hall
  gi_wp2
  have hK' := (KeepsOthers.setCell W ⟨w.heap.size + 1, 0, none⟩ (.int .i64 0)).same D _ hK rfl
  have c1 := cells1 ((World.putObj_heap_other (o := .deferred none) (by omega : w.heap.size + 1 ≠ D)).trans (set1 hE (.int .i64 0)))
  refine ⟨by simp, .inl ⟨_, _, rfl, run_takeDeferred hK', ?_⟩⟩
  refine ⟨.int .i64 0, ?_, rfl, ?_⟩
  · simp [results, Try.f116, go_sem, c1.1]
  · exact (hb.setCell (by simp) _).trans (belowK_b (w := w) (Nat.le_refl _) _ D _ _ (by omega) hK' rfl rfl)
 case stop =>
  rintro D j pre O W hD hSp ⟨rfl, hm, hE, hb⟩ hK
  have hk := HK.out
  rw [chkM, if_neg hm] at hk
  subst hk
  gi_wp2
  have c1 := cells1 ((World.putObj_heap_other (o := .deferred none) (by omega : w.heap.size + 1 ≠ D)).trans hE)
  refine ⟨by simp, .inl ⟨_, _, rfl, run_takeDeferred hK, ?_⟩⟩
  refine ⟨.int .i64 8, ?_, rfl, ?_⟩
  · simp [results, Try.f116, go_sem, c1.1]
  · exact hb.trans (belowK_b (w := w) (Nat.le_refl _) _ D _ _ (by omega) hK rfl rfl)
end Ma
end Go.Proofs.Ytbbnbgllgomolaa
namespace Go.Proofs.Ytbbnbgllgomolaa
open Go.RowKit
namespace Ma
open Dp Dy
attribute [local go_sem] Oper.semAt_some
def sameV (d d' : Dv) : Bool := Pa.Dy.same ⟨d.s, d.xs, d.e⟩ ⟨d'.s, d'.xs, d'.e⟩
def sameM (a b : Mv) : Bool := sameV a.S b.S && sameV a.W b.W && sameV a.C b.C && sameV a.A b.A
theorem four {p : Nat → Prop} (h0 : p 0) (h1 : p 1) (h2 : p 2) (h3 : p 3) : ∀ x, x < 4 → p x := fun x hx => by
 have hx' : x = 0 ∨ x = 1 ∨ x = 2 ∨ x = 3 := by omega
 rcases hx' with rfl | rfl | rfl | rfl
 · exact h0
 · exact h1
 · exact h2
 · exact h3
theorem sameM_iff (a b : Mv) : sameM a b = true ↔ ∀ x, x < 4 → sameV (a.get x) (b.get x) = true := by
 unfold sameM
 simp only [Bool.and_eq_true]
 exact ⟨fun h => four h.1.1.1 h.1.1.2 h.1.2 h.2, fun h => ⟨⟨⟨h 0 (by decide), h 1 (by decide)⟩, h 2 (by decide)⟩, h 3 (by decide)⟩⟩
theorem heapN {w w' : World} {g : Nat} {o : Obj} (hb : Below w.heap.size w w') (h : w.heap[g]? = some o) : w'.heap[g]? = some o := (hb.block g (lt_of_heap h)).trans h
theorem boxes5 (w : World) (o1 o2 o3 o4 o5 : Obj) {w1 : World} (hw : ((((w.alloc o1).alloc o2).alloc o3).alloc o4).alloc o5 = w1) :
  (w1.heap[w.heap.size]? = some o1 ∧ w1.heap[w.heap.size + 1]? = some o2 ∧ w1.heap[w.heap.size + 1 + 1]? = some o3 ∧ w1.heap[w.heap.size + 1 + 1 + 1]? = some o4 ∧ w1.heap[w.heap.size + 1 + 1 + 1 + 1]? = some o5) ∧ Below w.heap.size w w1 ∧ w.heap.size + 5 ≤ w1.heap.size ∧ w1.heap.size ≤ w.heap.size + 5 := by
 obtain ⟨h1, h2, h3, h4, h5, h6⟩ := boxes3 w o1 o2 o3 rfl
 obtain ⟨k1, k2, k3, k4, k5⟩ := boxes2 (((w.alloc o1).alloc o2).alloc o3) o4 o5 rfl
 subst hw
 have e : (((w.alloc o1).alloc o2).alloc o3).heap.size = w.heap.size + 1 + 1 + 1 := by simp
 rw [e] at k1 k2
 exact ⟨⟨heapN k3 h1, heapN k3 h2, heapN k3 h3, k1, k2⟩, h4.trans (k3.mono (by omega)), by omega, by omega⟩
end Ma
end Go.Proofs.Ytbbnbgllgomolaa
namespace Go.Proofs.Ytbbnbgllgomolaa
open Go.RowKit
namespace Ma
open Dp Dy
attribute [local go_sem] Oper.semAt_some
def Mv.put (m : Mv) (x : Nat) (d : Dv) : Mv := match x with
 | 0 => { m with S := d }
 | 1 => { m with W := d }
 | 2 => { m with C := d }
 | _ => { m with A := d }
theorem MBox.put {w : World} {g : Nat} {m : Mv} (h : MBox w g m) {x : Nat} (hx : x < 4) (d : Dv) :
  MBox (((w.setCell ⟨g, 3 * x, none⟩ (.bool d.s)).setCell ⟨g, 3 * x + 1, none⟩ (.slice d.A d.n d.c)).setCell ⟨g, 3 * x + 2, none⟩ (.int .i64 d.e)) g (m.put x d) := by
 have hx' : x = 0 ∨ x = 1 ∨ x = 2 ∨ x = 3 := by omega
 unfold MBox at *
 rcases hx' with rfl | rfl | rfl | rfl <;> simp [World.setCell, Array.getElem?_modify, h, Mv.put]
theorem MBox.cells {w : World} {g : Nat} {m : Mv} (h : MBox w g m) : (w.cell? ⟨g, 0, none⟩ = some (.bool m.S.s) ∧ w.cell? ⟨g, 1, none⟩ = some (.slice m.S.A m.S.n m.S.c) ∧ w.cell? ⟨g, 2, none⟩ = some (.int .i64 m.S.e) ∧ w.cell? ⟨g, 3, none⟩ = some (.bool m.W.s) ∧ w.cell? ⟨g, 4, none⟩ = some (.slice m.W.A m.W.n m.W.c) ∧ w.cell? ⟨g, 5, none⟩ = some (.int .i64 m.W.e) ∧ w.cell? ⟨g, 6, none⟩ = some (.bool m.C.s) ∧ w.cell? ⟨g, 7, none⟩ = some (.slice m.C.A m.C.n m.C.c) ∧ w.cell? ⟨g, 8, none⟩ = some (.int .i64 m.C.e) ∧ w.cell? ⟨g, 9, none⟩ = some (.bool m.A.s) ∧ w.cell? ⟨g, 10, none⟩ = some (.slice m.A.A m.A.n m.A.c) ∧ w.cell? ⟨g, 11, none⟩ = some (.int .i64 m.A.e)) ∧ ∀ k, w.frozen? ⟨g, k, none⟩ = false := by
 refine ⟨?_, fun k => frozen_of_row w g k _ _ h⟩
 have hc : ∀ k v, (#[.bool m.S.s, .slice m.S.A m.S.n m.S.c, .int .i64 m.S.e, .bool m.W.s, .slice m.W.A m.W.n m.W.c, .int .i64 m.W.e, .bool m.C.s, .slice m.C.A m.C.n m.C.c, .int .i64 m.C.e, .bool m.A.s, .slice m.A.A m.A.n m.A.c, .int .i64 m.A.e] : Array Value)[k]? = some v → w.cell? ⟨g, k, none⟩ = some v := fun k v hk => by
  unfold MBox at h
  simp [World.cell?, h]
  simpa using hk
 exact ⟨hc _ _ rfl, hc _ _ rfl, hc _ _ rfl, hc _ _ rfl, hc _ _ rfl, hc _ _ rfl, hc _ _ rfl, hc _ _ rfl, hc _ _ rfl, hc _ _ rfl, hc _ _ rfl, hc _ _ rfl⟩
/-- A whole mass is laid into a block of 12 cells. -/
theorem MBox.all {w : World} {g : Nat} {m0 : Mv} (h : MBox w g m0) (m : Mv) : MBox ((((((((((((w.setCell ⟨g, 0, none⟩ (.bool m.S.s)).setCell ⟨g, 1, none⟩ (.slice m.S.A m.S.n m.S.c)).setCell ⟨g, 2, none⟩ (.int .i64 m.S.e)).setCell ⟨g, 3, none⟩ (.bool m.W.s)).setCell ⟨g, 4, none⟩ (.slice m.W.A m.W.n m.W.c)).setCell ⟨g, 5, none⟩ (.int .i64 m.W.e)).setCell ⟨g, 6, none⟩ (.bool m.C.s)).setCell ⟨g, 7, none⟩ (.slice m.C.A m.C.n m.C.c)).setCell ⟨g, 8, none⟩ (.int .i64 m.C.e)).setCell ⟨g, 9, none⟩ (.bool m.A.s)).setCell ⟨g, 10, none⟩ (.slice m.A.A m.A.n m.A.c)).setCell ⟨g, 11, none⟩ (.int .i64 m.A.e)) g m :=
 ((((h.put (x := 0) (by decide) m.S).put (x := 1) (by decide) m.W).put (x := 2) (by decide) m.C).put (x := 3) (by decide) m.A)
theorem below_all {w0 w : World} {B g : Nat} (h : Below B w0 w) (hg : B ≤ g) (m : Mv) : Below B w0 ((((((((((((w.setCell ⟨g, 0, none⟩ (.bool m.S.s)).setCell ⟨g, 1, none⟩ (.slice m.S.A m.S.n m.S.c)).setCell ⟨g, 2, none⟩ (.int .i64 m.S.e)).setCell ⟨g, 3, none⟩ (.bool m.W.s)).setCell ⟨g, 4, none⟩ (.slice m.W.A m.W.n m.W.c)).setCell ⟨g, 5, none⟩ (.int .i64 m.W.e)).setCell ⟨g, 6, none⟩ (.bool m.C.s)).setCell ⟨g, 7, none⟩ (.slice m.C.A m.C.n m.C.c)).setCell ⟨g, 8, none⟩ (.int .i64 m.C.e)).setCell ⟨g, 9, none⟩ (.bool m.A.s)).setCell ⟨g, 10, none⟩ (.slice m.A.A m.A.n m.A.c)).setCell ⟨g, 11, none⟩ (.int .i64 m.A.e)) :=
 ((((((((((((h.setCell hg _).setCell hg _).setCell hg _).setCell hg _).setCell hg _).setCell hg _).setCell hg _).setCell hg _).setCell hg _).setCell hg _).setCell hg _).setCell hg _)
theorem size_set (w : World) (p : Addr) (v : Value) : (w.setCell p v).heap.size = w.heap.size := by simp [World.setCell]
theorem size_all {w : World} {g : Nat} (m : Mv) : (((((((((((((w.setCell ⟨g, 0, none⟩ (.bool m.S.s)).setCell ⟨g, 1, none⟩ (.slice m.S.A m.S.n m.S.c)).setCell ⟨g, 2, none⟩ (.int .i64 m.S.e)).setCell ⟨g, 3, none⟩ (.bool m.W.s)).setCell ⟨g, 4, none⟩ (.slice m.W.A m.W.n m.W.c)).setCell ⟨g, 5, none⟩ (.int .i64 m.W.e)).setCell ⟨g, 6, none⟩ (.bool m.C.s)).setCell ⟨g, 7, none⟩ (.slice m.C.A m.C.n m.C.c)).setCell ⟨g, 8, none⟩ (.int .i64 m.C.e)).setCell ⟨g, 9, none⟩ (.bool m.A.s)).setCell ⟨g, 10, none⟩ (.slice m.A.A m.A.n m.A.c)).setCell ⟨g, 11, none⟩ (.int .i64 m.A.e))).heap.size = w.heap.size := by simp only [size_set]
theorem far_all {w : World} {g g' : Nat} (hne : g' ≠ g) (m : Mv) : (((((((((((((w.setCell ⟨g, 0, none⟩ (.bool m.S.s)).setCell ⟨g, 1, none⟩ (.slice m.S.A m.S.n m.S.c)).setCell ⟨g, 2, none⟩ (.int .i64 m.S.e)).setCell ⟨g, 3, none⟩ (.bool m.W.s)).setCell ⟨g, 4, none⟩ (.slice m.W.A m.W.n m.W.c)).setCell ⟨g, 5, none⟩ (.int .i64 m.W.e)).setCell ⟨g, 6, none⟩ (.bool m.C.s)).setCell ⟨g, 7, none⟩ (.slice m.C.A m.C.n m.C.c)).setCell ⟨g, 8, none⟩ (.int .i64 m.C.e)).setCell ⟨g, 9, none⟩ (.bool m.A.s)).setCell ⟨g, 10, none⟩ (.slice m.A.A m.A.n m.A.c)).setCell ⟨g, 11, none⟩ (.int .i64 m.A.e))).heap[g']? = w.heap[g']? := by
 exact (Below.heap_setCell _ _ _ _ hne).trans ((Below.heap_setCell _ _ _ _ hne).trans ((Below.heap_setCell _ _ _ _ hne).trans ((Below.heap_setCell _ _ _ _ hne).trans ((Below.heap_setCell _ _ _ _ hne).trans ((Below.heap_setCell _ _ _ _ hne).trans ((Below.heap_setCell _ _ _ _ hne).trans ((Below.heap_setCell _ _ _ _ hne).trans ((Below.heap_setCell _ _ _ _ hne).trans ((Below.heap_setCell _ _ _ _ hne).trans ((Below.heap_setCell _ _ _ _ hne).trans (Below.heap_setCell _ _ _ _ hne)))))))))))
def ZM : Mv := ⟨⟨false, none, 0, 0, 0, []⟩, ⟨false, none, 0, 0, 0, []⟩, ⟨false, none, 0, 0, 0, []⟩, ⟨false, none, 0, 0, 0, []⟩⟩
/-- A twin: the same but for where it lies. -/
def TwinV (d d' : Dv) : Prop := d'.s = d.s ∧ d'.n = d.n ∧ d'.e = d.e ∧ d'.xs = d.xs ∧ d'.n ≤ d'.c
theorem boxes4 (w : World) (o1 o2 o3 o4 : Obj) {w1 : World} (hw : (((w.alloc o1).alloc o2).alloc o3).alloc o4 = w1) :
  (w1.heap[w.heap.size]? = some o1 ∧ w1.heap[w.heap.size + 1]? = some o2 ∧ w1.heap[w.heap.size + 1 + 1]? = some o3 ∧ w1.heap[w.heap.size + 1 + 1 + 1]? = some o4) ∧ Below w.heap.size w w1 ∧ w.heap.size + 4 ≤ w1.heap.size ∧ w1.heap.size ≤ w.heap.size + 4 := by
 obtain ⟨h1, h2, h3, h4, h5⟩ := boxes2 w o1 o2 rfl
 obtain ⟨k1, k2, k3, k4, k5⟩ := boxes2 ((w.alloc o1).alloc o2) o3 o4 rfl
 subst hw
 have e : ((w.alloc o1).alloc o2).heap.size = w.heap.size + 1 + 1 := by simp
 rw [e] at k1 k2
 exact ⟨⟨heapN k3 h1, heapN k3 h2, k1, k2⟩, h3.trans (k3.mono (by omega)), by omega, by omega⟩
end Ma
end Go.Proofs.Ytbbnbgllgomolaa
namespace Go.Proofs.Ytbbnbgllgomolaa
open Go.RowKit
namespace Ma
open Dp Dy
attribute [local go_sem] Oper.semAt_some
def ResV (W : World) (lo : Nat) (r : Dn) (d : Dv) : Prop := d.s = r.neg ∧ d.e = r.e ∧ d.xs = canon 4294967296 r.m ∧ d.n ≤ d.c ∧ Ints W lo W.heap.size .u32 d.A d.n d.xs
noncomputable def xAdd (a b : Mv) (j : Nat) : Dn × Int := addX (a.get j).s (a.get j).xs (a.get j).e (b.get j).s (b.get j).xs (b.get j).e
end Ma
end Go.Proofs.Ytbbnbgllgomolaa
namespace Go.Proofs.Ytbbnbgllgomolaa
open Go.RowKit
namespace Ma
open Dp Dy
theorem chk_may {m : Mv} (h : m.may) : chkM m = 0 := if_pos h
theorem chk_not {m : Mv} (h : ¬ m.may) : chkM m = 8 := if_neg h
end Ma
end Go.Proofs.Ytbbnbgllgomolaa
namespace Go.Proofs.Ytbbnbgllgomolaa
open Go.RowKit
namespace Ma
open Dp Dy
theorem ints_rng {w w' : World} {lo hi n : Nat} {k : IntKind} {A : Option Addr} {xs : List Int} (h : Ints w lo hi k A n xs) (hk : ∀ b, lo ≤ b → b < hi → w'.heap[b]? = w.heap[b]?) : Ints w' lo hi k A n xs :=
 ⟨h.len, h.wf, h.big, fun h0 => by
  obtain ⟨b, off, e, h1, h2, hc⟩ := h.row h0
  have h3 := hk b h1 h2
  exact ⟨b, off, e, h1, h2, fun j hj => ⟨by rw [World.cell?_of_block h3]; exact (hc j hj).1, by rw [World.frozen?_of_block h3]; exact (hc j hj).2⟩⟩⟩
end Ma
end Go.Proofs.Ytbbnbgllgomolaa
namespace Go.Proofs.Ytbbnbgllgomolaa
open Go.RowKit
namespace Ma
open Dp Dy
theorem rows_rng {w w' : World} {lo hi : Nat} {m : Mv} (h : MRows w lo hi m) (hk : ∀ b, lo ≤ b → b < hi → w'.heap[b]? = w.heap[b]?) : MRows w' lo hi m := ⟨ints_rng h.S hk, ints_rng h.W hk, ints_rng h.C hk, ints_rng h.A hk⟩
end Ma
end Go.Proofs.Ytbbnbgllgomolaa
namespace Go.Proofs.Ytbbnbgllgomolaa
open Go.RowKit
namespace Ma
open Dp Dy
/-- d is the form of the number r. -/
def Is (r : Dn) (d : Dv) : Prop := d.s = r.neg ∧ d.e = r.e ∧ d.xs = canon 4294967296 r.m
theorem ResV.is {W : World} {lo : Nat} {r : Dn} {d : Dv} (h : ResV W lo r d) : Is r d := ⟨h.1, h.2.1, h.2.2.1⟩
theorem ResV.row {W : World} {lo : Nat} {r : Dn} {d : Dv} (h : ResV W lo r d) : Ints W lo W.heap.size .u32 d.A d.n d.xs := h.2.2.2.2
theorem Is.may {r : Dn} {d : Dv} (h : Is r d) (hr : r.May) : d.may := by
 unfold Dv.may
 rw [h.1, h.2.1, h.2.2]
 exact dn_may hr
theorem Is.same {r : Dn} {d d' : Dv} (h : Is r d) (h' : Is r d') : sameV d d' = true := by
 unfold sameV
 rw [h.1, h.2.1, h.2.2, h'.1, h'.2.1, h'.2.2]
 exact Pa.Dy.same_refl _
theorem Is.of {d : Dv} (hd : Dig 4294967296 d.xs) (hm : d.may) : Is (dn d.s d.xs d.e) d := ⟨rfl, (dn_ok hd hm).2.2.symm, (dn_ok hd hm).2.1.symm⟩
theorem Is.twin {r : Dn} {d d' : Dv} (h : Is r d) (ht : TwinV d d') : Is r d' := ⟨ht.1.trans h.1, ht.2.2.1.trans h.2.1, ht.2.2.2.1.trans h.2.2⟩
theorem Is.zero : Is Dn.zero ⟨false, none, 0, 0, 0, []⟩ := ⟨rfl, rfl, rfl⟩
theorem Is.add {r r' : Dn} {d d' : Dv} (h : Is r d) (h' : Is r' d') (hr : r.May) (hr' : r'.May) : addX d.s d.xs d.e d'.s d'.xs d'.e = addD r r' := by
 rw [addX_ok (h.may hr) (h'.may hr'), h.1, h.2.1, h.2.2, h'.1, h'.2.1, h'.2.2, dn_of, dn_of]
theorem add_zero {a : Dn} (ha : a.May) : addD a Dn.zero = (a, 0) :=
 add_of ha (K := a.e) (Nat.le_refl _) (Nat.zero_le _) (Nat.le_refl _) (by rw [vl_zero]; omega)
theorem zero_add {a : Dn} (ha : a.May) : addD Dn.zero a = (a, 0) := by rw [add_comm]; exact add_zero ha
/-- m is the form of the numbers R. -/
def IsM (R : Nat → Dn) (m : Mv) : Prop := ∀ x, x < 4 → Is (R x) (m.get x)
def MayR (R : Nat → Dn) : Prop := ∀ x, x < 4 → (R x).May
def dnM (m : Mv) (x : Nat) : Dn := dn (m.get x).s (m.get x).xs (m.get x).e
def zR (_ : Nat) : Dn := Dn.zero
theorem IsM.zero : IsM zR ZM := four Is.zero Is.zero Is.zero Is.zero
theorem IsM.same {R : Nat → Dn} {a b : Mv} (h : IsM R a) (h' : IsM R b) : sameM a b = true := (sameM_iff a b).2 fun x hx => (h x hx).same (h' x hx)
theorem IsM.may {R : Nat → Dn} {m : Mv} (h : IsM R m) (hr : MayR R) : m.may := fun x hx => (h x hx).may (hr x hx)
theorem IsM.of {w : World} {lo hi : Nat} {m : Mv} (hR : MRows w lo hi m) (h : m.may) : IsM (dnM m) m := fun x hx => Is.of (dig_ints (hR.get x)) (h x hx)
theorem IsM.add {R S : Nat → Dn} {a b : Mv} (h : IsM R a) (h' : IsM S b) (hr : MayR R) (hs : MayR S) {x : Nat} (hx : x < 4) : xAdd a b x = addD (R x) (S x) := (h x hx).add (h' x hx) (hr x hx) (hs x hx)
theorem IsM.twin {R : Nat → Dn} {a b : Mv} (h : IsM R a) (ht : ∀ x, x < 4 → TwinV (a.get x) (b.get x)) : IsM R b := fun x hx => (h x hx).twin (ht x hx)
end Ma
end Go.Proofs.Ytbbnbgllgomolaa