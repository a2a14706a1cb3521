/- mean.ends: a walk. -/
/- mean.ends$1, mean.ends$2: walks (printed by a program of mine). -/
/- mean.ends$2: a walk (printed by a program of mine). -/
/- mean.Meet: walks (printed by a program of mine). -/
import Derived.Test.YtlbkepiflhchdaaDoorBa11
import Derived.Test.YtlbkepiflhchdaaDoorBa01
import Derived.Test.YtlbkepiflhchdaaDoorBa10
namespace Go.Proofs.YtlbkepiflhchdaaDoor
open Go.RowKit
namespace Ma
open Dp Dy
set_option maxHeartbeats 3200000 in
set_option maxRecDepth 100000 in
/-- Two empty cells, and the functions that hold them. -/
theorem ends_any (w : World) :
    Calls Tryd.prog 77 #[] w fun e w' => e = .returned (.tuple #[.func (.func 105) #[] #[.pointer (some ⟨w.heap.size, 0, none⟩), .pointer (some ⟨w.heap.size + 1, 0, none⟩)], .func (.func 106) #[] #[.pointer (some ⟨w.heap.size, 0, none⟩), .pointer (some ⟨w.heap.size + 1, 0, none⟩)]]) ∧
      Below w.heap.size w w' ∧ w'.heap[w.heap.size]? = some (.cells #[.pointer none] 101 (0, 0)) ∧ w'.heap[w.heap.size + 1]? = some (.cells #[.pointer none] 101 (0, 0)) := by
  go_enter Tryd.func77, Tryd.ntmps77
  go_wp2
  go_ret2
  obtain ⟨h1, h2, h3, _, _⟩ := boxes2 w (.cells #[.pointer none] 101) (.cells #[.pointer none] 101) rfl
  exact ⟨rfl, h3, h1, h2⟩
end Ma
end Go.Proofs.YtlbkepiflhchdaaDoor
namespace Go.Proofs.YtlbkepiflhchdaaDoor
open Go.RowKit
namespace Ma
open Dp Dy
/-- A dyad in a box of its own. -/
def DBox (w : World) (g : Nat) (d : Dv) : Prop := w.heap[g]? = some (.cells #[.bool d.s, .slice d.A d.n d.c, .int .i64 d.e] 24 (0, 0))
/-- A pointer in a cell of its own. -/
def PBox (w : World) (g : Nat) (p : Option Addr) : Prop := w.heap[g]? = some (.cells #[.pointer p] 101 (0, 0))
/-- What the two cells of 'ends' hold. -/
def Ends (w : World) (B gl gh : Nat) : Option (Dn × Dn) → Prop
  | none => PBox w gl none ∧ PBox w gh none
  | some (lo, hi) => ∃ pl ph : Nat, ∃ L H : Dv, PBox w gl (some ⟨pl, 0, none⟩) ∧ PBox w gh (some ⟨ph, 0, none⟩) ∧ (DBox w pl L ∧ Is lo L ∧ lo.May ∧ Ints w 0 B .u32 L.A L.n L.xs) ∧ (DBox w ph H ∧ Is hi H ∧ hi.May ∧ Ints w 0 B .u32 H.A H.n H.xs)
theorem pset {w : World} {g : Nat} {p : Option Addr} (h : PBox w g p) (q : Option Addr) : PBox (w.setCell ⟨g, 0, none⟩ (.pointer q)) g q := set1 h _
theorem pbox_ne {w : World} {g g' : Nat} {p : Option Addr} {d : Dv} (h : PBox w g p) (h' : DBox w g' d) : g' ≠ g := fun e => by
  subst e
  unfold PBox at h
  unfold DBox at h'
  rw [h] at h'
  injection h' with h'
  injection h' with h'
  simp at h'
theorem is_cmp {r r' : Dn} {d d' : Dv} (h : Is r d) (h' : Is r' d') (hr : r.May) (hr' : r'.May) : cmpX d.s d.xs d.e d'.s d'.xs d'.e = (cmpD r r', 0) := by
  unfold cmpX
  rw [if_pos ⟨h.may hr, h'.may hr'⟩, h.1, h.2.1, h.2.2, h'.1, h'.2.1, h'.2.2, dn_of, dn_of]
/-- All blocks but the two cells stay. -/
def Stays (gl gh : Nat) (w w' : World) : Prop := ∀ j, j < w.heap.size → j ≠ gl → j ≠ gh → w'.heap[j]? = w.heap[j]?
theorem Stays.trans {gl gh : Nat} {w w' w'' : World} (h : Stays gl gh w w') (h' : Stays gl gh w' w'') (hs : w.heap.size ≤ w'.heap.size) : Stays gl gh w w'' :=
  fun j hj h1 h2 => (h' j (by omega) h1 h2).trans (h j hj h1 h2)
theorem Stays.below {gl gh : Nat} {w w' w'' : World} (h : Stays gl gh w w') (hb : Below w'.heap.size w' w'') (hs : w.heap.size ≤ w'.heap.size) : Stays gl gh w w'' :=
  fun j hj h1 h2 => (hb.block j (by omega)).trans (h j hj h1 h2)
theorem Stays.set {gl gh : Nat} {w w' : World} (h : Stays gl gh w w') (g : Nat) (v : Value) (hg : g = gl ∨ g = gh) : Stays gl gh w (w'.setCell ⟨g, 0, none⟩ v) :=
  fun j hj h1 h2 => (Below.heap_setCell _ _ _ _ (by rcases hg with rfl | rfl <;> simpa using (by assumption))).trans (h j hj h1 h2)
set_option maxHeartbeats 12800000 in
set_option maxRecDepth 100000 in
/-- One more: mean.ends$1. -/
theorem put_any (w : World) (B gl gh : Nat) (hBl : B ≤ gl) (hlh : gl < gh) (hgs : gh < w.heap.size) (P : Option (Dn × Dn)) (hE : Ends w B gl gh P) (a : Dv) (A : Dn) (ia : Is A a) (ma : A.May) (hI : Ints w 0 B .u32 a.A a.n a.xs) (hT : Tab w) (h0 : 0 < gl) :
    Calls Tryd.prog 105 #[.agg #[.bool a.s, .slice a.A a.n a.c, .int .i64 a.e], .pointer (some ⟨gl, 0, none⟩), .pointer (some ⟨gh, 0, none⟩)] w fun e w' => e = .returned (.tuple #[]) ∧ Below gl w w' ∧ Stays gl gh w w' ∧ Ends w' B gl gh (stepE P A) := by
  have IA := Lib.hid ia
  generalize hw : w.alloc (.cells #[.bool a.s, .slice a.A a.n a.c, .int .i64 a.e] 24) = w1
  have XA : DBox w1 w.heap.size a := by rw [← hw]; exact heap_alloc_last _ _
  have b1 : Below w.heap.size w w1 := by rw [← hw]; exact (Below.refl _ w).alloc (Nat.le_refl _) _
  have l1 : w.heap.size < w1.heap.size := by rw [← hw]; simp
  have I1 : Ints w1 0 B .u32 a.A a.n a.xs := hI.below b1 (by omega)
  have t1 := hT.below b1 hT.lt
  obtain ⟨g, hg⟩ : ∃ g, w.heap.size = g := ⟨_, rfl⟩
  have lg1 : gh < g := by omega
  have lg2 : g < w1.heap.size := by omega
  have q1 : ∀ {k : Nat} {ob : Obj}, w.heap[k]? = some ob → w1.heap[k]? = some ob := fun h => (b1.block _ (lt_of_heap h)).trans h
  have s1 : Stays gl gh w w1 := fun j hj _ _ => b1.block j hj
  replace b1 : Below gl w w1 := b1.mono (by omega)
  rw [hg] at XA
  go_enter Tryd.func105, Tryd.ntmps105
  rcases P with _ | ⟨lo, hi⟩
  · skip
    obtain ⟨Xgl, Xgh⟩ := hE
    replace Xgl : PBox w1 gl none := q1 Xgl
    replace Xgh : PBox w1 gh none := q1 Xgh
    clear q1
    have MA := Lib.hid ma
    have e0 := cell_of_row w1 gl 0 _ _ _ Xgl
    have e1 := cell_of_row w1 gh 0 _ _ _ Xgh
    have f0 := frozen_of_row w1 gl 0 _ _ Xgl
    have f1 := frozen_of_row w1 gh 0 _ _ Xgh
    go_wp2_with fail
    try clear hw
    clear e0 e1 f0 f1
    have e_far : ∀ j, j ≠ gl → j ≠ gh → ((w1.setCell ⟨gl, 0, none⟩ (.pointer (some ⟨g, 0, none⟩))).setCell ⟨gh, 0, none⟩ (.pointer (some ⟨g, 0, none⟩))).heap[j]? = w1.heap[j]? := fun j h0 h1 => (Below.heap_setCell _ _ _ _ h1).trans (Below.heap_setCell _ _ _ _ h0)
    have e_sz : ((w1.setCell ⟨gl, 0, none⟩ (.pointer (some ⟨g, 0, none⟩))).setCell ⟨gh, 0, none⟩ (.pointer (some ⟨g, 0, none⟩))).heap.size = w1.heap.size := by simp [World.setCell]
    have e_st : Stays gl gh w ((w1.setCell ⟨gl, 0, none⟩ (.pointer (some ⟨g, 0, none⟩))).setCell ⟨gh, 0, none⟩ (.pointer (some ⟨g, 0, none⟩))) := (s1.set gl _ (by simp)).set gh _ (by simp)
    have e_b : Below gl w ((w1.setCell ⟨gl, 0, none⟩ (.pointer (some ⟨g, 0, none⟩))).setCell ⟨gh, 0, none⟩ (.pointer (some ⟨g, 0, none⟩))) := (b1.setCell (by simp) _).setCell (by simp; omega) _
    have e_gl : PBox ((w1.setCell ⟨gl, 0, none⟩ (.pointer (some ⟨g, 0, none⟩))).setCell ⟨gh, 0, none⟩ (.pointer (some ⟨g, 0, none⟩))) gl (some ⟨g, 0, none⟩) := (Below.heap_setCell _ _ _ _ (by simp; omega)).trans (pset Xgl _)
    have e_gh : PBox ((w1.setCell ⟨gl, 0, none⟩ (.pointer (some ⟨g, 0, none⟩))).setCell ⟨gh, 0, none⟩ (.pointer (some ⟨g, 0, none⟩))) gh (some ⟨g, 0, none⟩) := pset (show PBox (w1.setCell ⟨gl, 0, none⟩ (.pointer (some ⟨g, 0, none⟩))) gh _ from (Below.heap_setCell _ _ _ _ (by simp; omega)).trans Xgh) _
    have e_A : DBox ((w1.setCell ⟨gl, 0, none⟩ (.pointer (some ⟨g, 0, none⟩))).setCell ⟨gh, 0, none⟩ (.pointer (some ⟨g, 0, none⟩))) g a := (e_far _ (by omega) (by omega)).trans XA
    generalize ((w1.setCell ⟨gl, 0, none⟩ (.pointer (some ⟨g, 0, none⟩))).setCell ⟨gh, 0, none⟩ (.pointer (some ⟨g, 0, none⟩))) = w2 at *
    have b2 := e_b
    have s2 := e_st
    have lw2 : w1.heap.size ≤ w2.heap.size := Nat.le_of_eq e_sz.symm
    replace Xgl := e_gl
    replace Xgh := e_gh
    replace XA := e_A
    have t2 := t1.keep (e_far 0 (by omega) (by omega))
    have I2 : Ints w2 0 B .u32 a.A a.n a.xs := ints_rng I1 (fun b _ h2 => e_far b (by omega) (by omega))
    clear e_b e_st e_sz e_gl e_gh e_A e_far b1 s1 t1 I1
    go_wp2_with fail
    refine region_E (Keeps w2) [] (m := 10) (L := #[false, false, false, false, false, false, false, false, false, false]) (by kernel_rfl) (by rfl) (by rfl) ?_
    have kp_ : Keeps w2 w2.drew := fun _ _ => rfl
    have hB : Below w2.heap.size w2 w2.drew := (Below.refl _ _).drew
    have bd : Below gl w w2.drew := b2.drew
    have td : Tab w2.drew := t2.below hB t2.lt
    have iad : Ints w2.drew 0 B .u32 a.A a.n a.xs := I2.below hB (by omega)
    have ild : Ints w2.drew 0 B .u32 a.A a.n a.xs := I2.below hB (by omega)
    have ld : w2.heap.size ≤ w2.drew.heap.size := Nat.le_refl _
    clear hB
    generalize w2.drew = d2 at *
    refine readE (i := 0) (L := #[true, false, false, false, false, false, false, false, false, false]) (v := .agg #[.bool a.s, .slice a.A a.n a.c, .int .i64 a.e]) rfl (by rfl) (by kernel_rfl) (by kernel_rfl) (by kernel_rfl) (fun _ _ _ h => h) (by assumption) (by rfl) ?ya3 ?za3
    case ya3 =>
      intro w' h1
      obtain ⟨⟨e0, e1, e2⟩, _⟩ := boxD ((h1 _ (lt_of_heap XA)).trans XA)
      go_simp
    try simp only [Act.put, List.setIfInBounds_toArray, List.set_cons_zero, List.set_cons_succ]
    refine readE (i := 1) (L := #[true, true, false, false, false, false, false, false, false, false]) (v := .pointer (some ⟨g, 0, none⟩)) rfl (by rfl) (by kernel_rfl) (by kernel_rfl) (by kernel_rfl) (fun _ _ _ h => h) (by assumption) (by rfl) ?yb3 ?zb3
    case yb3 =>
      intro w' h1
      have e0 := cell_of_row w' gl 0 _ _ _ ((h1 _ (lt_of_heap Xgl)).trans Xgl)
      go_simp
    try simp only [Act.put, List.setIfInBounds_toArray, List.set_cons_zero, List.set_cons_succ]
    refine pureE (i := 2) (L := #[true, true, true, false, false, false, false, false, false, false]) (v := ?_) rfl (by rfl) (by kernel_rfl) (by kernel_rfl) (by kernel_rfl) (fun _ _ _ h => h) (by rfl) ?hy3 ?rest3
    case hy3 => intro w; go_simp; (try with_reducible rfl)
    try simp only [Act.put, List.setIfInBounds_toArray, List.set_cons_zero, List.set_cons_succ]
    refine readE (i := 3) (L := #[true, true, true, true, false, false, false, false, false, false]) (v := .agg #[.bool a.s, .slice a.A a.n a.c, .int .i64 a.e]) rfl (by rfl) (by kernel_rfl) (by kernel_rfl) (by kernel_rfl) (fun _ _ _ h => h) (by assumption) (by rfl) ?yc3 ?zc3
    case yc3 =>
      intro w' h1
      obtain ⟨⟨e0, e1, e2⟩, _⟩ := boxD ((h1 _ (lt_of_heap XA)).trans XA)
      go_simp
    try simp only [Act.put, List.setIfInBounds_toArray, List.set_cons_zero, List.set_cons_succ]
    refine stepK (i := 4) (L := #[true, true, true, true, true, false, false, false, false, false]) rfl (by rfl) (by kernel_rfl) (by rfl) (fun K hK => ?_)
    go_simp
    go_at_call 39
    obtain ⟨z3, hz⟩ : ∃ z, cmpD A A = z := ⟨_, rfl⟩
    refine (Cmp_all d2 a.s a.s a.A a.A a.n a.c a.n a.c a.xs a.xs a.e a.e (iad.more (Nat.le_refl _) (by omega)) (ild.more (Nat.le_refl _) (by omega)) td z3 0 (by rw [is_cmp IA.out IA.out ma MA.out, hz])).mono ?_
    rintro e' w3 ⟨rfl, hB⟩
    have HZ3 := Lib.hid hz
    clear hz
    have lw3 := hB.size
    replace kp_ := Keeps.on kp_ (by omega) hB
    have b3 : Below gl w w3 := bd.trans (hB.mono (by omega))
    have t3 := td.below hB td.lt
    have I3 := iad.below hB (by omega)
    clear hB td iad ild bd
    refine hK _ _ ⟨fun _ _ => kp_, ?_⟩
    clear hK K
    try simp only [Act.put, List.setIfInBounds_toArray, List.set_cons_zero, List.set_cons_succ]
    refine pureE (i := 5) (L := #[true, true, true, true, true, true, false, false, false, false]) (v := ?_) rfl (by rfl) (by kernel_rfl) (by kernel_rfl) (by kernel_rfl) (fun _ _ _ h => h) (by rfl) ?hy6 ?rest6
    case hy6 => intro w; go_simp; (try with_reducible rfl)
    try simp only [Act.put, List.setIfInBounds_toArray, List.set_cons_zero, List.set_cons_succ]
    refine pureE (i := 6) (L := #[true, true, true, true, true, true, true, false, false, false]) (v := ?_) rfl (by rfl) (by kernel_rfl) (by kernel_rfl) (by kernel_rfl) (fun _ _ _ h => h) (by rfl) ?hy7 ?rest7
    case hy7 => intro w; go_simp; (try with_reducible rfl)
    try simp only [Act.put, List.setIfInBounds_toArray, List.set_cons_zero, List.set_cons_succ]
    refine pureE (i := 7) (L := #[true, true, true, true, true, true, true, true, false, false]) (v := ?_) rfl (by rfl) (by kernel_rfl) (by kernel_rfl) (by kernel_rfl) (fun _ _ _ h => h) (by rfl) ?hy8 ?rest8
    case hy8 => intro w; go_simp; (try with_reducible rfl)
    try simp only [Act.put, List.setIfInBounds_toArray, List.set_cons_zero, List.set_cons_succ]
    refine pureE (i := 8) (L := #[true, true, true, true, true, true, true, true, true, false]) (v := ?_) rfl (by rfl) (by kernel_rfl) (by kernel_rfl) (by kernel_rfl) (fun _ _ _ h => h) (by rfl) ?hy9 ?rest9
    case hy9 => intro w; go_simp; (try with_reducible rfl)
    try simp only [Act.put, List.setIfInBounds_toArray, List.set_cons_zero, List.set_cons_succ]
    refine pureE (i := 9) (L := #[true, true, true, true, true, true, true, true, true, true]) (v := ?_) rfl (by rfl) (by kernel_rfl) (by kernel_rfl) (by kernel_rfl) (fun _ _ _ h => h) (by rfl) ?hy10 ?rest10
    case hy10 => intro w; go_simp; (try with_reducible rfl)
    try simp only [Act.put, List.setIfInBounds_toArray, List.set_cons_zero, List.set_cons_succ]
    refine doneE (by kernel_rfl) ?_ _
    clear t2 I2 b2
    have s3 : Stays gl gh w w3 := fun j hj h1 h2 => (kp_ j (by omega)).trans (s2 j hj h1 h2)
    replace XA : DBox w3 g a := (kp_ _ (lt_of_heap XA)).trans XA
    replace Xgl : PBox w3 gl _ := (kp_ _ (lt_of_heap Xgl)).trans Xgl
    replace Xgh : PBox w3 gh _ := (kp_ _ (lt_of_heap Xgh)).trans Xgh
    clear s2
    clear kp_
    have z0 : z3 = 0 := by rw [← HZ3.out]; exact cmp_self A
    subst z0
    go_wp2_with fail
    refine region_E (Keeps w3) [] (m := 10) (L := #[false, false, false, false, false, false, false, false, false, false]) (by kernel_rfl) (by rfl) (by rfl) ?_
    have kp_ : Keeps w3 w3.drew := fun _ _ => rfl
    have hB : Below w3.heap.size w3 w3.drew := (Below.refl _ _).drew
    have bd : Below gl w w3.drew := b3.drew
    have td : Tab w3.drew := t3.below hB t3.lt
    have iad : Ints w3.drew 0 B .u32 a.A a.n a.xs := I3.below hB (by omega)
    have ild : Ints w3.drew 0 B .u32 a.A a.n a.xs := I3.below hB (by omega)
    have ld : w3.heap.size ≤ w3.drew.heap.size := Nat.le_refl _
    clear hB
    generalize w3.drew = d3 at *
    refine readE (i := 0) (L := #[true, false, false, false, false, false, false, false, false, false]) (v := .agg #[.bool a.s, .slice a.A a.n a.c, .int .i64 a.e]) rfl (by rfl) (by kernel_rfl) (by kernel_rfl) (by kernel_rfl) (fun _ _ _ h => h) (by assumption) (by rfl) ?ya4 ?za4
    case ya4 =>
      intro w' h1
      obtain ⟨⟨e0, e1, e2⟩, _⟩ := boxD ((h1 _ (lt_of_heap XA)).trans XA)
      go_simp
    try simp only [Act.put, List.setIfInBounds_toArray, List.set_cons_zero, List.set_cons_succ]
    refine readE (i := 1) (L := #[true, true, false, false, false, false, false, false, false, false]) (v := .pointer (some ⟨g, 0, none⟩)) rfl (by rfl) (by kernel_rfl) (by kernel_rfl) (by kernel_rfl) (fun _ _ _ h => h) (by assumption) (by rfl) ?yb4 ?zb4
    case yb4 =>
      intro w' h1
      have e0 := cell_of_row w' gh 0 _ _ _ ((h1 _ (lt_of_heap Xgh)).trans Xgh)
      go_simp
    try simp only [Act.put, List.setIfInBounds_toArray, List.set_cons_zero, List.set_cons_succ]
    refine pureE (i := 2) (L := #[true, true, true, false, false, false, false, false, false, false]) (v := ?_) rfl (by rfl) (by kernel_rfl) (by kernel_rfl) (by kernel_rfl) (fun _ _ _ h => h) (by rfl) ?hy13 ?rest13
    case hy13 => intro w; go_simp; (try with_reducible rfl)
    try simp only [Act.put, List.setIfInBounds_toArray, List.set_cons_zero, List.set_cons_succ]
    refine readE (i := 3) (L := #[true, true, true, true, false, false, false, false, false, false]) (v := .agg #[.bool a.s, .slice a.A a.n a.c, .int .i64 a.e]) rfl (by rfl) (by kernel_rfl) (by kernel_rfl) (by kernel_rfl) (fun _ _ _ h => h) (by assumption) (by rfl) ?yc4 ?zc4
    case yc4 =>
      intro w' h1
      obtain ⟨⟨e0, e1, e2⟩, _⟩ := boxD ((h1 _ (lt_of_heap XA)).trans XA)
      go_simp
    try simp only [Act.put, List.setIfInBounds_toArray, List.set_cons_zero, List.set_cons_succ]
    refine stepK (i := 4) (L := #[true, true, true, true, true, false, false, false, false, false]) rfl (by rfl) (by kernel_rfl) (by rfl) (fun K hK => ?_)
    go_simp
    go_at_call 39
    obtain ⟨z4, hz⟩ : ∃ z, cmpD A A = z := ⟨_, rfl⟩
    refine (Cmp_all d3 a.s a.s a.A a.A a.n a.c a.n a.c a.xs a.xs a.e a.e (iad.more (Nat.le_refl _) (by omega)) (ild.more (Nat.le_refl _) (by omega)) td z4 0 (by rw [is_cmp IA.out IA.out ma MA.out, hz])).mono ?_
    rintro e' w4 ⟨rfl, hB⟩
    have HZ4 := Lib.hid hz
    clear hz
    have lw4 := hB.size
    replace kp_ := Keeps.on kp_ (by omega) hB
    have b4 : Below gl w w4 := bd.trans (hB.mono (by omega))
    have t4 := td.below hB td.lt
    have I4 := iad.below hB (by omega)
    clear hB td iad ild bd
    refine hK _ _ ⟨fun _ _ => kp_, ?_⟩
    clear hK K
    try simp only [Act.put, List.setIfInBounds_toArray, List.set_cons_zero, List.set_cons_succ]
    refine pureE (i := 5) (L := #[true, true, true, true, true, true, false, false, false, false]) (v := ?_) rfl (by rfl) (by kernel_rfl) (by kernel_rfl) (by kernel_rfl) (fun _ _ _ h => h) (by rfl) ?hy16 ?rest16
    case hy16 => intro w; go_simp; (try with_reducible rfl)
    try simp only [Act.put, List.setIfInBounds_toArray, List.set_cons_zero, List.set_cons_succ]
    refine pureE (i := 6) (L := #[true, true, true, true, true, true, true, false, false, false]) (v := ?_) rfl (by rfl) (by kernel_rfl) (by kernel_rfl) (by kernel_rfl) (fun _ _ _ h => h) (by rfl) ?hy17 ?rest17
    case hy17 => intro w; go_simp; (try with_reducible rfl)
    try simp only [Act.put, List.setIfInBounds_toArray, List.set_cons_zero, List.set_cons_succ]
    refine pureE (i := 7) (L := #[true, true, true, true, true, true, true, true, false, false]) (v := ?_) rfl (by rfl) (by kernel_rfl) (by kernel_rfl) (by kernel_rfl) (fun _ _ _ h => h) (by rfl) ?hy18 ?rest18
    case hy18 => intro w; go_simp; (try with_reducible rfl)
    try simp only [Act.put, List.setIfInBounds_toArray, List.set_cons_zero, List.set_cons_succ]
    refine pureE (i := 8) (L := #[true, true, true, true, true, true, true, true, true, false]) (v := ?_) rfl (by rfl) (by kernel_rfl) (by kernel_rfl) (by kernel_rfl) (fun _ _ _ h => h) (by rfl) ?hy19 ?rest19
    case hy19 => intro w; go_simp; (try with_reducible rfl)
    try simp only [Act.put, List.setIfInBounds_toArray, List.set_cons_zero, List.set_cons_succ]
    refine pureE (i := 9) (L := #[true, true, true, true, true, true, true, true, true, true]) (v := ?_) rfl (by rfl) (by kernel_rfl) (by kernel_rfl) (by kernel_rfl) (fun _ _ _ h => h) (by rfl) ?hy20 ?rest20
    case hy20 => intro w; go_simp; (try with_reducible rfl)
    try simp only [Act.put, List.setIfInBounds_toArray, List.set_cons_zero, List.set_cons_succ]
    refine doneE (by kernel_rfl) ?_ _
    clear t3 I3 b3
    have s4 : Stays gl gh w w4 := fun j hj h1 h2 => (kp_ j (by omega)).trans (s3 j hj h1 h2)
    replace XA : DBox w4 g a := (kp_ _ (lt_of_heap XA)).trans XA
    replace Xgl : PBox w4 gl _ := (kp_ _ (lt_of_heap Xgl)).trans Xgl
    replace Xgh : PBox w4 gh _ := (kp_ _ (lt_of_heap Xgh)).trans Xgh
    clear s3
    clear kp_
    have z0 : z4 = 0 := by rw [← HZ4.out]; exact cmp_self A
    subst z0
    go_wp2_with fail
    go_end0
    refine ⟨rfl, b4, s4, ?_⟩
    rw [show stepE none A = some (A, A) from rfl]
    exact ⟨g, g, a, a, Xgl, Xgh, ⟨XA, IA.out, ma, I4⟩, ⟨XA, IA.out, ma, I4⟩⟩
  · skip
    obtain ⟨pl, ph, Lv, Hv, Xgl, Xgh, ⟨XL, IL, ML, IRL⟩, ⟨XH, IH, MH, IRH⟩⟩ := hE
    replace Xgl : PBox w1 gl _ := q1 Xgl
    replace Xgh : PBox w1 gh _ := q1 Xgh
    replace XL : DBox w1 pl Lv := q1 XL
    replace XH : DBox w1 ph Hv := q1 XH
    replace IRL := IRL.below ((Below.refl B w).trans (show Below B w w1 from b1.mono hBl)) (Nat.le_refl _)
    replace IRH := IRH.below ((Below.refl B w).trans (show Below B w w1 from b1.mono hBl)) (Nat.le_refl _)
    replace IL := Lib.hid IL
    replace IH := Lib.hid IH
    replace ML := Lib.hid ML
    replace MH := Lib.hid MH
    have MA := Lib.hid ma
    clear q1
    have e0 := cell_of_row w1 gl 0 _ _ _ Xgl
    go_wp2_with fail
    try clear hw
    clear e0
    go_wp2_with fail
    refine region_E (Keeps w1) [] (m := 10) (L := #[false, false, false, false, false, false, false, false, false, false]) (by kernel_rfl) (by rfl) (by rfl) ?_
    have kp_ : Keeps w1 w1.drew := fun _ _ => rfl
    have hB : Below w1.heap.size w1 w1.drew := (Below.refl _ _).drew
    have bd : Below gl w w1.drew := b1.drew
    have td : Tab w1.drew := t1.below hB t1.lt
    have iad : Ints w1.drew 0 B .u32 a.A a.n a.xs := I1.below hB (by omega)
    have ild : Ints w1.drew 0 B .u32 Lv.A Lv.n Lv.xs := IRL.below hB (by omega)
    have ld : w1.heap.size ≤ w1.drew.heap.size := Nat.le_refl _
    clear hB
    generalize w1.drew = d1 at *
    refine readE (i := 0) (L := #[true, false, false, false, false, false, false, false, false, false]) (v := .agg #[.bool a.s, .slice a.A a.n a.c, .int .i64 a.e]) rfl (by rfl) (by kernel_rfl) (by kernel_rfl) (by kernel_rfl) (fun _ _ _ h => h) (by assumption) (by rfl) ?ya5 ?za5
    case ya5 =>
      intro w' h1
      obtain ⟨⟨e0, e1, e2⟩, _⟩ := boxD ((h1 _ (lt_of_heap XA)).trans XA)
      go_simp
    try simp only [Act.put, List.setIfInBounds_toArray, List.set_cons_zero, List.set_cons_succ]
    refine readE (i := 1) (L := #[true, true, false, false, false, false, false, false, false, false]) (v := .pointer (some ⟨pl, 0, none⟩)) rfl (by rfl) (by kernel_rfl) (by kernel_rfl) (by kernel_rfl) (fun _ _ _ h => h) (by assumption) (by rfl) ?yb5 ?zb5
    case yb5 =>
      intro w' h1
      have e0 := cell_of_row w' gl 0 _ _ _ ((h1 _ (lt_of_heap Xgl)).trans Xgl)
      go_simp
    try simp only [Act.put, List.setIfInBounds_toArray, List.set_cons_zero, List.set_cons_succ]
    refine pureE (i := 2) (L := #[true, true, true, false, false, false, false, false, false, false]) (v := ?_) rfl (by rfl) (by kernel_rfl) (by kernel_rfl) (by kernel_rfl) (fun _ _ _ h => h) (by rfl) ?hy23 ?rest23
    case hy23 => intro w; go_simp; (try with_reducible rfl)
    try simp only [Act.put, List.setIfInBounds_toArray, List.set_cons_zero, List.set_cons_succ]
    refine readE (i := 3) (L := #[true, true, true, true, false, false, false, false, false, false]) (v := .agg #[.bool Lv.s, .slice Lv.A Lv.n Lv.c, .int .i64 Lv.e]) rfl (by rfl) (by kernel_rfl) (by kernel_rfl) (by kernel_rfl) (fun _ _ _ h => h) (by assumption) (by rfl) ?yc5 ?zc5
    case yc5 =>
      intro w' h1
      obtain ⟨⟨e0, e1, e2⟩, _⟩ := boxD ((h1 _ (lt_of_heap XL)).trans XL)
      go_simp
    try simp only [Act.put, List.setIfInBounds_toArray, List.set_cons_zero, List.set_cons_succ]
    refine stepK (i := 4) (L := #[true, true, true, true, true, false, false, false, false, false]) rfl (by rfl) (by kernel_rfl) (by rfl) (fun K hK => ?_)
    go_simp
    go_at_call 39
    obtain ⟨z5, hz⟩ : ∃ z, cmpD A lo = z := ⟨_, rfl⟩
    refine (Cmp_all d1 a.s Lv.s a.A Lv.A a.n a.c Lv.n Lv.c a.xs Lv.xs a.e Lv.e (iad.more (Nat.le_refl _) (by omega)) (ild.more (Nat.le_refl _) (by omega)) td z5 0 (by rw [is_cmp IA.out IL.out ma ML.out, hz])).mono ?_
    rintro e' w5 ⟨rfl, hB⟩
    have HZ5 := Lib.hid hz
    clear hz
    have lw5 := hB.size
    replace kp_ := Keeps.on kp_ (by omega) hB
    have b5 : Below gl w w5 := bd.trans (hB.mono (by omega))
    have t5 := td.below hB td.lt
    have I5 := iad.below hB (by omega)
    clear hB td iad ild bd
    refine hK _ _ ⟨fun _ _ => kp_, ?_⟩
    clear hK K
    try simp only [Act.put, List.setIfInBounds_toArray, List.set_cons_zero, List.set_cons_succ]
    refine pureE (i := 5) (L := #[true, true, true, true, true, true, false, false, false, false]) (v := ?_) rfl (by rfl) (by kernel_rfl) (by kernel_rfl) (by kernel_rfl) (fun _ _ _ h => h) (by rfl) ?hy26 ?rest26
    case hy26 => intro w; go_simp; (try with_reducible rfl)
    try simp only [Act.put, List.setIfInBounds_toArray, List.set_cons_zero, List.set_cons_succ]
    refine pureE (i := 6) (L := #[true, true, true, true, true, true, true, false, false, false]) (v := ?_) rfl (by rfl) (by kernel_rfl) (by kernel_rfl) (by kernel_rfl) (fun _ _ _ h => h) (by rfl) ?hy27 ?rest27
    case hy27 => intro w; go_simp; (try with_reducible rfl)
    try simp only [Act.put, List.setIfInBounds_toArray, List.set_cons_zero, List.set_cons_succ]
    refine pureE (i := 7) (L := #[true, true, true, true, true, true, true, true, false, false]) (v := ?_) rfl (by rfl) (by kernel_rfl) (by kernel_rfl) (by kernel_rfl) (fun _ _ _ h => h) (by rfl) ?hy28 ?rest28
    case hy28 => intro w; go_simp; (try with_reducible rfl)
    try simp only [Act.put, List.setIfInBounds_toArray, List.set_cons_zero, List.set_cons_succ]
    refine pureE (i := 8) (L := #[true, true, true, true, true, true, true, true, true, false]) (v := ?_) rfl (by rfl) (by kernel_rfl) (by kernel_rfl) (by kernel_rfl) (fun _ _ _ h => h) (by rfl) ?hy29 ?rest29
    case hy29 => intro w; go_simp; (try with_reducible rfl)
    try simp only [Act.put, List.setIfInBounds_toArray, List.set_cons_zero, List.set_cons_succ]
    refine pureE (i := 9) (L := #[true, true, true, true, true, true, true, true, true, true]) (v := ?_) rfl (by rfl) (by kernel_rfl) (by kernel_rfl) (by kernel_rfl) (fun _ _ _ h => h) (by rfl) ?hy30 ?rest30
    case hy30 => intro w; go_simp; (try with_reducible rfl)
    try simp only [Act.put, List.setIfInBounds_toArray, List.set_cons_zero, List.set_cons_succ]
    refine doneE (by kernel_rfl) ?_ _
    clear t1 I1 b1
    have s5 : Stays gl gh w w5 := fun j hj h1 h2 => (kp_ j (by omega)).trans (s1 j hj h1 h2)
    replace XA : DBox w5 g a := (kp_ _ (lt_of_heap XA)).trans XA
    replace Xgl : PBox w5 gl _ := (kp_ _ (lt_of_heap Xgl)).trans Xgl
    replace Xgh : PBox w5 gh _ := (kp_ _ (lt_of_heap Xgh)).trans Xgh
    clear s1
    replace XL : DBox w5 _ Lv := (kp_ _ (lt_of_heap XL)).trans XL
    replace XH : DBox w5 _ Hv := (kp_ _ (lt_of_heap XH)).trans XH
    replace IRL : Ints w5 0 B .u32 _ _ _ := ints_rng IRL (fun b _ h2 => kp_ b (by omega))
    replace IRH : Ints w5 0 B .u32 _ _ _ := ints_rng IRH (fun b _ h2 => kp_ b (by omega))
    clear kp_
    by_cases hz : z5 < 0
    · skip
      have X0gl := Xgl
      have XH0 := XH
      have e0 := cell_of_row w5 gl 0 _ _ _ Xgl
      have f0 := frozen_of_row w5 gl 0 _ _ Xgl
      go_wp2_with fail
      clear e0 f0
      have e_far : ∀ j, j ≠ gl → (w5.setCell ⟨gl, 0, none⟩ (.pointer (some ⟨g, 0, none⟩))).heap[j]? = w5.heap[j]? := fun j h0 => Below.heap_setCell _ _ _ _ h0
      have e_sz : (w5.setCell ⟨gl, 0, none⟩ (.pointer (some ⟨g, 0, none⟩))).heap.size = w5.heap.size := by simp [World.setCell]
      have e_st : Stays gl gh w (w5.setCell ⟨gl, 0, none⟩ (.pointer (some ⟨g, 0, none⟩))) := s5.set gl _ (by simp)
      have e_b : Below gl w (w5.setCell ⟨gl, 0, none⟩ (.pointer (some ⟨g, 0, none⟩))) := b5.setCell (by first | exact Nat.le_refl _ | exact Nat.le_of_lt hlh) _
      have e_gl : PBox (w5.setCell ⟨gl, 0, none⟩ (.pointer (some ⟨g, 0, none⟩))) gl (some ⟨g, 0, none⟩) := pset Xgl _
      have e_gh : PBox (w5.setCell ⟨gl, 0, none⟩ (.pointer (some ⟨g, 0, none⟩))) gh _ := (e_far _ (by omega)).trans Xgh
      have e_A : DBox (w5.setCell ⟨gl, 0, none⟩ (.pointer (some ⟨g, 0, none⟩))) g a := (e_far _ (by omega)).trans XA
      generalize (w5.setCell ⟨gl, 0, none⟩ (.pointer (some ⟨g, 0, none⟩))) = w6 at *
      have b6 := e_b
      have s6 := e_st
      have lw6 : w5.heap.size ≤ w6.heap.size := Nat.le_of_eq e_sz.symm
      replace Xgl := e_gl
      replace Xgh := e_gh
      replace XA := e_A
      have t6 := t5.keep (e_far 0 (by omega))
      have I6 : Ints w6 0 B .u32 a.A a.n a.xs := ints_rng I5 (fun b _ h2 => e_far b (by omega))
      replace XH : DBox w6 _ Hv := (e_far _ (pbox_ne X0gl XH0)).trans XH
      replace IRH : Ints w6 0 B .u32 _ _ _ := ints_rng IRH (fun b _ h2 => e_far b (by omega))
      clear e_b e_st e_sz e_gl e_gh e_A e_far b5 s5 t5 I5
      clear X0gl XH0
      go_wp2_with fail
      refine region_E (Keeps w6) [] (m := 10) (L := #[false, false, false, false, false, false, false, false, false, false]) (by kernel_rfl) (by rfl) (by rfl) ?_
      have kp_ : Keeps w6 w6.drew := fun _ _ => rfl
      have hB : Below w6.heap.size w6 w6.drew := (Below.refl _ _).drew
      have bd : Below gl w w6.drew := b6.drew
      have td : Tab w6.drew := t6.below hB t6.lt
      have iad : Ints w6.drew 0 B .u32 a.A a.n a.xs := I6.below hB (by omega)
      have ild : Ints w6.drew 0 B .u32 Hv.A Hv.n Hv.xs := IRH.below hB (by omega)
      have ld : w6.heap.size ≤ w6.drew.heap.size := Nat.le_refl _
      clear hB
      generalize w6.drew = d6 at *
      refine readE (i := 0) (L := #[true, false, false, false, false, false, false, false, false, false]) (v := .agg #[.bool a.s, .slice a.A a.n a.c, .int .i64 a.e]) rfl (by rfl) (by kernel_rfl) (by kernel_rfl) (by kernel_rfl) (fun _ _ _ h => h) (by assumption) (by rfl) ?ya7 ?za7
      case ya7 =>
        intro w' h1
        obtain ⟨⟨e0, e1, e2⟩, _⟩ := boxD ((h1 _ (lt_of_heap XA)).trans XA)
        go_simp
      try simp only [Act.put, List.setIfInBounds_toArray, List.set_cons_zero, List.set_cons_succ]
      refine readE (i := 1) (L := #[true, true, false, false, false, false, false, false, false, false]) (v := .pointer (some ⟨ph, 0, none⟩)) rfl (by rfl) (by kernel_rfl) (by kernel_rfl) (by kernel_rfl) (fun _ _ _ h => h) (by assumption) (by rfl) ?yb7 ?zb7
      case yb7 =>
        intro w' h1
        have e0 := cell_of_row w' gh 0 _ _ _ ((h1 _ (lt_of_heap Xgh)).trans Xgh)
        go_simp
      try simp only [Act.put, List.setIfInBounds_toArray, List.set_cons_zero, List.set_cons_succ]
      refine pureE (i := 2) (L := #[true, true, true, false, false, false, false, false, false, false]) (v := ?_) rfl (by rfl) (by kernel_rfl) (by kernel_rfl) (by kernel_rfl) (fun _ _ _ h => h) (by rfl) ?hy33 ?rest33
      case hy33 => intro w; go_simp; (try with_reducible rfl)
      try simp only [Act.put, List.setIfInBounds_toArray, List.set_cons_zero, List.set_cons_succ]
      refine readE (i := 3) (L := #[true, true, true, true, false, false, false, false, false, false]) (v := .agg #[.bool Hv.s, .slice Hv.A Hv.n Hv.c, .int .i64 Hv.e]) rfl (by rfl) (by kernel_rfl) (by kernel_rfl) (by kernel_rfl) (fun _ _ _ h => h) (by assumption) (by rfl) ?yc7 ?zc7
      case yc7 =>
        intro w' h1
        obtain ⟨⟨e0, e1, e2⟩, _⟩ := boxD ((h1 _ (lt_of_heap XH)).trans XH)
        go_simp
      try simp only [Act.put, List.setIfInBounds_toArray, List.set_cons_zero, List.set_cons_succ]
      refine stepK (i := 4) (L := #[true, true, true, true, true, false, false, false, false, false]) rfl (by rfl) (by kernel_rfl) (by rfl) (fun K hK => ?_)
      go_simp
      go_at_call 39
      obtain ⟨z7, hz⟩ : ∃ z, cmpD A hi = z := ⟨_, rfl⟩
      refine (Cmp_all d6 a.s Hv.s a.A Hv.A a.n a.c Hv.n Hv.c a.xs Hv.xs a.e Hv.e (iad.more (Nat.le_refl _) (by omega)) (ild.more (Nat.le_refl _) (by omega)) td z7 0 (by rw [is_cmp IA.out IH.out ma MH.out, hz])).mono ?_
      rintro e' w7 ⟨rfl, hB⟩
      have HZ7 := Lib.hid hz
      clear hz
      have lw7 := hB.size
      replace kp_ := Keeps.on kp_ (by omega) hB
      have b7 : Below gl w w7 := bd.trans (hB.mono (by omega))
      have t7 := td.below hB td.lt
      have I7 := iad.below hB (by omega)
      clear hB td iad ild bd
      refine hK _ _ ⟨fun _ _ => kp_, ?_⟩
      clear hK K
      try simp only [Act.put, List.setIfInBounds_toArray, List.set_cons_zero, List.set_cons_succ]
      refine pureE (i := 5) (L := #[true, true, true, true, true, true, false, false, false, false]) (v := ?_) rfl (by rfl) (by kernel_rfl) (by kernel_rfl) (by kernel_rfl) (fun _ _ _ h => h) (by rfl) ?hy36 ?rest36
      case hy36 => intro w; go_simp; (try with_reducible rfl)
      try simp only [Act.put, List.setIfInBounds_toArray, List.set_cons_zero, List.set_cons_succ]
      refine pureE (i := 6) (L := #[true, true, true, true, true, true, true, false, false, false]) (v := ?_) rfl (by rfl) (by kernel_rfl) (by kernel_rfl) (by kernel_rfl) (fun _ _ _ h => h) (by rfl) ?hy37 ?rest37
      case hy37 => intro w; go_simp; (try with_reducible rfl)
      try simp only [Act.put, List.setIfInBounds_toArray, List.set_cons_zero, List.set_cons_succ]
      refine pureE (i := 7) (L := #[true, true, true, true, true, true, true, true, false, false]) (v := ?_) rfl (by rfl) (by kernel_rfl) (by kernel_rfl) (by kernel_rfl) (fun _ _ _ h => h) (by rfl) ?hy38 ?rest38
      case hy38 => intro w; go_simp; (try with_reducible rfl)
      try simp only [Act.put, List.setIfInBounds_toArray, List.set_cons_zero, List.set_cons_succ]
      refine pureE (i := 8) (L := #[true, true, true, true, true, true, true, true, true, false]) (v := ?_) rfl (by rfl) (by kernel_rfl) (by kernel_rfl) (by kernel_rfl) (fun _ _ _ h => h) (by rfl) ?hy39 ?rest39
      case hy39 => intro w; go_simp; (try with_reducible rfl)
      try simp only [Act.put, List.setIfInBounds_toArray, List.set_cons_zero, List.set_cons_succ]
      refine pureE (i := 9) (L := #[true, true, true, true, true, true, true, true, true, true]) (v := ?_) rfl (by rfl) (by kernel_rfl) (by kernel_rfl) (by kernel_rfl) (fun _ _ _ h => h) (by rfl) ?hy40 ?rest40
      case hy40 => intro w; go_simp; (try with_reducible rfl)
      try simp only [Act.put, List.setIfInBounds_toArray, List.set_cons_zero, List.set_cons_succ]
      refine doneE (by kernel_rfl) ?_ _
      clear t6 I6 b6
      have s7 : Stays gl gh w w7 := fun j hj h1 h2 => (kp_ j (by omega)).trans (s6 j hj h1 h2)
      replace XA : DBox w7 g a := (kp_ _ (lt_of_heap XA)).trans XA
      replace Xgl : PBox w7 gl _ := (kp_ _ (lt_of_heap Xgl)).trans Xgl
      replace Xgh : PBox w7 gh _ := (kp_ _ (lt_of_heap Xgh)).trans Xgh
      clear s6
      replace XH : DBox w7 _ Hv := (kp_ _ (lt_of_heap XH)).trans XH
      replace IRH : Ints w7 0 B .u32 _ _ _ := ints_rng IRH (fun b _ h2 => kp_ b (by omega))
      clear kp_
      by_cases hy : 0 < z7
      · skip
        have X0gh := Xgh
        have e0 := cell_of_row w7 gh 0 _ _ _ Xgh
        have f0 := frozen_of_row w7 gh 0 _ _ Xgh
        go_wp2_with fail
        clear e0 f0
        have e_far : ∀ j, j ≠ gh → (w7.setCell ⟨gh, 0, none⟩ (.pointer (some ⟨g, 0, none⟩))).heap[j]? = w7.heap[j]? := fun j h0 => Below.heap_setCell _ _ _ _ h0
        have e_sz : (w7.setCell ⟨gh, 0, none⟩ (.pointer (some ⟨g, 0, none⟩))).heap.size = w7.heap.size := by simp [World.setCell]
        have e_st : Stays gl gh w (w7.setCell ⟨gh, 0, none⟩ (.pointer (some ⟨g, 0, none⟩))) := s7.set gh _ (by simp)
        have e_b : Below gl w (w7.setCell ⟨gh, 0, none⟩ (.pointer (some ⟨g, 0, none⟩))) := b7.setCell (by first | exact Nat.le_refl _ | exact Nat.le_of_lt hlh) _
        have e_gl : PBox (w7.setCell ⟨gh, 0, none⟩ (.pointer (some ⟨g, 0, none⟩))) gl _ := (e_far _ (by omega)).trans Xgl
        have e_gh : PBox (w7.setCell ⟨gh, 0, none⟩ (.pointer (some ⟨g, 0, none⟩))) gh (some ⟨g, 0, none⟩) := pset Xgh _
        have e_A : DBox (w7.setCell ⟨gh, 0, none⟩ (.pointer (some ⟨g, 0, none⟩))) g a := (e_far _ (by omega)).trans XA
        generalize (w7.setCell ⟨gh, 0, none⟩ (.pointer (some ⟨g, 0, none⟩))) = w8 at *
        have b8 := e_b
        have s8 := e_st
        have lw8 : w7.heap.size ≤ w8.heap.size := Nat.le_of_eq e_sz.symm
        replace Xgl := e_gl
        replace Xgh := e_gh
        replace XA := e_A
        have t8 := t7.keep (e_far 0 (by omega))
        have I8 : Ints w8 0 B .u32 a.A a.n a.xs := ints_rng I7 (fun b _ h2 => e_far b (by omega))
        clear e_b e_st e_sz e_gl e_gh e_A e_far b7 s7 t7 I7
        clear X0gh 
        go_end0
        refine ⟨rfl, b8, s8, ?_⟩
        rw [show stepE (some (lo, hi)) A = some (A, A) from by simp only [stepE]; rw [if_pos (by rw [HZ5.out]; omega), if_pos (by rw [HZ7.out]; omega)]]
        exact ⟨g, g, a, a, Xgl, Xgh, ⟨XA, IA.out, ma, I8⟩, ⟨XA, IA.out, ma, I8⟩⟩
      · skip
        go_wp2_with fail
        go_end0
        refine ⟨rfl, b7, s7, ?_⟩
        rw [show stepE (some (lo, hi)) A = some (A, hi) from by simp only [stepE]; rw [if_pos (by rw [HZ5.out]; omega), if_neg (by rw [HZ7.out]; omega)]]
        exact ⟨g, ph, a, Hv, Xgl, Xgh, ⟨XA, IA.out, ma, I7⟩, ⟨XH, IH.out, MH.out, IRH⟩⟩
    · skip
      go_wp2_with fail
      refine region_E (Keeps w5) [] (m := 10) (L := #[false, false, false, false, false, false, false, false, false, false]) (by kernel_rfl) (by rfl) (by rfl) ?_
      have kp_ : Keeps w5 w5.drew := fun _ _ => rfl
      have hB : Below w5.heap.size w5 w5.drew := (Below.refl _ _).drew
      have bd : Below gl w w5.drew := b5.drew
      have td : Tab w5.drew := t5.below hB t5.lt
      have iad : Ints w5.drew 0 B .u32 a.A a.n a.xs := I5.below hB (by omega)
      have ild : Ints w5.drew 0 B .u32 Hv.A Hv.n Hv.xs := IRH.below hB (by omega)
      have ld : w5.heap.size ≤ w5.drew.heap.size := Nat.le_refl _
      clear hB
      generalize w5.drew = d5 at *
      refine readE (i := 0) (L := #[true, false, false, false, false, false, false, false, false, false]) (v := .agg #[.bool a.s, .slice a.A a.n a.c, .int .i64 a.e]) rfl (by rfl) (by kernel_rfl) (by kernel_rfl) (by kernel_rfl) (fun _ _ _ h => h) (by assumption) (by rfl) ?ya9 ?za9
      case ya9 =>
        intro w' h1
        obtain ⟨⟨e0, e1, e2⟩, _⟩ := boxD ((h1 _ (lt_of_heap XA)).trans XA)
        go_simp
      try simp only [Act.put, List.setIfInBounds_toArray, List.set_cons_zero, List.set_cons_succ]
      refine readE (i := 1) (L := #[true, true, false, false, false, false, false, false, false, false]) (v := .pointer (some ⟨ph, 0, none⟩)) rfl (by rfl) (by kernel_rfl) (by kernel_rfl) (by kernel_rfl) (fun _ _ _ h => h) (by assumption) (by rfl) ?yb9 ?zb9
      case yb9 =>
        intro w' h1
        have e0 := cell_of_row w' gh 0 _ _ _ ((h1 _ (lt_of_heap Xgh)).trans Xgh)
        go_simp
      try simp only [Act.put, List.setIfInBounds_toArray, List.set_cons_zero, List.set_cons_succ]
      refine pureE (i := 2) (L := #[true, true, true, false, false, false, false, false, false, false]) (v := ?_) rfl (by rfl) (by kernel_rfl) (by kernel_rfl) (by kernel_rfl) (fun _ _ _ h => h) (by rfl) ?hy43 ?rest43
      case hy43 => intro w; go_simp; (try with_reducible rfl)
      try simp only [Act.put, List.setIfInBounds_toArray, List.set_cons_zero, List.set_cons_succ]
      refine readE (i := 3) (L := #[true, true, true, true, false, false, false, false, false, false]) (v := .agg #[.bool Hv.s, .slice Hv.A Hv.n Hv.c, .int .i64 Hv.e]) rfl (by rfl) (by kernel_rfl) (by kernel_rfl) (by kernel_rfl) (fun _ _ _ h => h) (by assumption) (by rfl) ?yc9 ?zc9
      case yc9 =>
        intro w' h1
        obtain ⟨⟨e0, e1, e2⟩, _⟩ := boxD ((h1 _ (lt_of_heap XH)).trans XH)
        go_simp
      try simp only [Act.put, List.setIfInBounds_toArray, List.set_cons_zero, List.set_cons_succ]
      refine stepK (i := 4) (L := #[true, true, true, true, true, false, false, false, false, false]) rfl (by rfl) (by kernel_rfl) (by rfl) (fun K hK => ?_)
      go_simp
      go_at_call 39
      obtain ⟨z9, hz⟩ : ∃ z, cmpD A hi = z := ⟨_, rfl⟩
      refine (Cmp_all d5 a.s Hv.s a.A Hv.A a.n a.c Hv.n Hv.c a.xs Hv.xs a.e Hv.e (iad.more (Nat.le_refl _) (by omega)) (ild.more (Nat.le_refl _) (by omega)) td z9 0 (by rw [is_cmp IA.out IH.out ma MH.out, hz])).mono ?_
      rintro e' w9 ⟨rfl, hB⟩
      have HZ9 := Lib.hid hz
      clear hz
      have lw9 := hB.size
      replace kp_ := Keeps.on kp_ (by omega) hB
      have b9 : Below gl w w9 := bd.trans (hB.mono (by omega))
      have t9 := td.below hB td.lt
      have I9 := iad.below hB (by omega)
      clear hB td iad ild bd
      refine hK _ _ ⟨fun _ _ => kp_, ?_⟩
      clear hK K
      try simp only [Act.put, List.setIfInBounds_toArray, List.set_cons_zero, List.set_cons_succ]
      refine pureE (i := 5) (L := #[true, true, true, true, true, true, false, false, false, false]) (v := ?_) rfl (by rfl) (by kernel_rfl) (by kernel_rfl) (by kernel_rfl) (fun _ _ _ h => h) (by rfl) ?hy46 ?rest46
      case hy46 => intro w; go_simp; (try with_reducible rfl)
      try simp only [Act.put, List.setIfInBounds_toArray, List.set_cons_zero, List.set_cons_succ]
      refine pureE (i := 6) (L := #[true, true, true, true, true, true, true, false, false, false]) (v := ?_) rfl (by rfl) (by kernel_rfl) (by kernel_rfl) (by kernel_rfl) (fun _ _ _ h => h) (by rfl) ?hy47 ?rest47
      case hy47 => intro w; go_simp; (try with_reducible rfl)
      try simp only [Act.put, List.setIfInBounds_toArray, List.set_cons_zero, List.set_cons_succ]
      refine pureE (i := 7) (L := #[true, true, true, true, true, true, true, true, false, false]) (v := ?_) rfl (by rfl) (by kernel_rfl) (by kernel_rfl) (by kernel_rfl) (fun _ _ _ h => h) (by rfl) ?hy48 ?rest48
      case hy48 => intro w; go_simp; (try with_reducible rfl)
      try simp only [Act.put, List.setIfInBounds_toArray, List.set_cons_zero, List.set_cons_succ]
      refine pureE (i := 8) (L := #[true, true, true, true, true, true, true, true, true, false]) (v := ?_) rfl (by rfl) (by kernel_rfl) (by kernel_rfl) (by kernel_rfl) (fun _ _ _ h => h) (by rfl) ?hy49 ?rest49
      case hy49 => intro w; go_simp; (try with_reducible rfl)
      try simp only [Act.put, List.setIfInBounds_toArray, List.set_cons_zero, List.set_cons_succ]
      refine pureE (i := 9) (L := #[true, true, true, true, true, true, true, true, true, true]) (v := ?_) rfl (by rfl) (by kernel_rfl) (by kernel_rfl) (by kernel_rfl) (fun _ _ _ h => h) (by rfl) ?hy50 ?rest50
      case hy50 => intro w; go_simp; (try with_reducible rfl)
      try simp only [Act.put, List.setIfInBounds_toArray, List.set_cons_zero, List.set_cons_succ]
      refine doneE (by kernel_rfl) ?_ _
      clear t5 I5 b5
      have s9 : Stays gl gh w w9 := fun j hj h1 h2 => (kp_ j (by omega)).trans (s5 j hj h1 h2)
      replace XA : DBox w9 g a := (kp_ _ (lt_of_heap XA)).trans XA
      replace Xgl : PBox w9 gl _ := (kp_ _ (lt_of_heap Xgl)).trans Xgl
      replace Xgh : PBox w9 gh _ := (kp_ _ (lt_of_heap Xgh)).trans Xgh
      clear s5
      replace XL : DBox w9 _ Lv := (kp_ _ (lt_of_heap XL)).trans XL
      replace XH : DBox w9 _ Hv := (kp_ _ (lt_of_heap XH)).trans XH
      replace IRL : Ints w9 0 B .u32 _ _ _ := ints_rng IRL (fun b _ h2 => kp_ b (by omega))
      replace IRH : Ints w9 0 B .u32 _ _ _ := ints_rng IRH (fun b _ h2 => kp_ b (by omega))
      clear kp_
      by_cases hy : 0 < z9
      · skip
        have X0gh := Xgh
        have XL0 := XL
        have e0 := cell_of_row w9 gh 0 _ _ _ Xgh
        have f0 := frozen_of_row w9 gh 0 _ _ Xgh
        go_wp2_with fail
        clear e0 f0
        have e_far : ∀ j, j ≠ gh → (w9.setCell ⟨gh, 0, none⟩ (.pointer (some ⟨g, 0, none⟩))).heap[j]? = w9.heap[j]? := fun j h0 => Below.heap_setCell _ _ _ _ h0
        have e_sz : (w9.setCell ⟨gh, 0, none⟩ (.pointer (some ⟨g, 0, none⟩))).heap.size = w9.heap.size := by simp [World.setCell]
        have e_st : Stays gl gh w (w9.setCell ⟨gh, 0, none⟩ (.pointer (some ⟨g, 0, none⟩))) := s9.set gh _ (by simp)
        have e_b : Below gl w (w9.setCell ⟨gh, 0, none⟩ (.pointer (some ⟨g, 0, none⟩))) := b9.setCell (by first | exact Nat.le_refl _ | exact Nat.le_of_lt hlh) _
        have e_gl : PBox (w9.setCell ⟨gh, 0, none⟩ (.pointer (some ⟨g, 0, none⟩))) gl _ := (e_far _ (by omega)).trans Xgl
        have e_gh : PBox (w9.setCell ⟨gh, 0, none⟩ (.pointer (some ⟨g, 0, none⟩))) gh (some ⟨g, 0, none⟩) := pset Xgh _
        have e_A : DBox (w9.setCell ⟨gh, 0, none⟩ (.pointer (some ⟨g, 0, none⟩))) g a := (e_far _ (by omega)).trans XA
        generalize (w9.setCell ⟨gh, 0, none⟩ (.pointer (some ⟨g, 0, none⟩))) = w10 at *
        have b10 := e_b
        have s10 := e_st
        have lw10 : w9.heap.size ≤ w10.heap.size := Nat.le_of_eq e_sz.symm
        replace Xgl := e_gl
        replace Xgh := e_gh
        replace XA := e_A
        have t10 := t9.keep (e_far 0 (by omega))
        have I10 : Ints w10 0 B .u32 a.A a.n a.xs := ints_rng I9 (fun b _ h2 => e_far b (by omega))
        replace XL : DBox w10 _ Lv := (e_far _ (pbox_ne X0gh XL0)).trans XL
        replace IRL : Ints w10 0 B .u32 _ _ _ := ints_rng IRL (fun b _ h2 => e_far b (by omega))
        clear e_b e_st e_sz e_gl e_gh e_A e_far b9 s9 t9 I9
        clear X0gh XL0
        go_end0
        refine ⟨rfl, b10, s10, ?_⟩
        rw [show stepE (some (lo, hi)) A = some (lo, A) from by simp only [stepE]; rw [if_neg (by rw [HZ5.out]; omega), if_pos (by rw [HZ9.out]; omega)]]
        exact ⟨pl, g, Lv, a, Xgl, Xgh, ⟨XL, IL.out, ML.out, IRL⟩, ⟨XA, IA.out, ma, I10⟩⟩
      · skip
        go_wp2_with fail
        go_end0
        refine ⟨rfl, b9, s9, ?_⟩
        rw [show stepE (some (lo, hi)) A = some (lo, hi) from by simp only [stepE]; rw [if_neg (by rw [HZ5.out]; omega), if_neg (by rw [HZ9.out]; omega)]]
        exact ⟨pl, ph, Lv, Hv, Xgl, Xgh, ⟨XL, IL.out, ML.out, IRL⟩, ⟨XH, IH.out, MH.out, IRH⟩⟩
end Ma
end Go.Proofs.YtlbkepiflhchdaaDoor
namespace Go.Proofs.YtlbkepiflhchdaaDoor
open Go.RowKit
namespace Ma
open Dp Dy
/-- How far the two are apart. -/
def gapE : Option (Dn × Dn) → Dn × Int
  | none => (Dn.zero, 6)
  | some (lo, hi) => subD hi lo
theorem Ends.below {w w' : World} {B gl gh K : Nat} {P : Option (Dn × Dn)} (h : Ends w B gl gh P) (hb : Below K w w') (hK : w.heap.size ≤ K) (hB : B ≤ K) : Ends w' B gl gh P := by
  have q : ∀ {k : Nat} {ob : Obj}, w.heap[k]? = some ob → w'.heap[k]? = some ob := fun h => (hb.block _ (Nat.lt_of_lt_of_le (lt_of_heap h) hK)).trans h
  rcases P with _ | ⟨lo, hi⟩
  · exact ⟨q h.1, q h.2⟩
  · obtain ⟨pl, ph, L, H, h1, h2, ⟨h3, h4, h5, h6⟩, ⟨h7, h8, h9, h10⟩⟩ := h
    exact ⟨pl, ph, L, H, q h1, q h2, ⟨q h3, h4, h5, h6.below hb hB⟩, ⟨q h7, h8, h9, h10.below hb hB⟩⟩
theorem farL_gap (l : List Dn) : farL l = gapE (endsL l) := by
  unfold farL gapE
  split <;> simp_all
set_option maxHeartbeats 12800000 in
set_option maxRecDepth 100000 in
/-- How far they are apart: mean.ends$2. -/
theorem gap_any (w : World) (B gl gh : Nat) (hBs : B ≤ w.heap.size) (P : Option (Dn × Dn)) (hE : Ends w B gl gh P) (hT : Tab w) (r : Dn) (code : Int) (h : gapE P = (r, code)) :
    Calls Tryd.prog 106 #[.pointer (some ⟨gl, 0, none⟩), .pointer (some ⟨gh, 0, none⟩)] w fun e w' => ∃ D : Dv, e = .returned (.tuple #[.agg #[.bool D.s, .slice D.A D.n D.c, .int .i64 D.e], .int .i64 code]) ∧ Below w.heap.size w w' ∧ Is r D ∧ r.May ∧ Ints w' w.heap.size w'.heap.size .u32 D.A D.n D.xs := by
  generalize hw : w.alloc (.cells #[.bool false, .slice none 0 0, .int .i64 0] 24) = w1
  obtain ⟨g, hg⟩ : ∃ g, w.heap.size = g := ⟨_, rfl⟩
  have XR : w1.heap[g]? = some (.cells #[.bool false, .slice none 0 0, .int .i64 0] 24 (0, 0)) := by rw [← hw, ← hg]; exact heap_alloc_last _ _
  have b1 : Below w.heap.size w w1 := by rw [← hw]; exact (Below.refl _ w).alloc (Nat.le_refl _) _
  have l1 : w.heap.size < w1.heap.size := by rw [← hw]; simp
  have t1 := hT.below b1 hT.lt
  have q1 : ∀ {k : Nat} {ob : Obj}, w.heap[k]? = some ob → w1.heap[k]? = some ob := fun h => (b1.block _ (lt_of_heap h)).trans h
  go_enter Tryd.func106, Tryd.ntmps106
  rcases P with _ | ⟨lo, hi⟩
  · obtain ⟨Xgl, Xgh⟩ := hE
    replace Xgl : PBox w1 gl none := q1 Xgl
    injection h with h1 h2
    subst h1 h2
    have e0 := cell_of_row w1 gl 0 _ _ _ Xgl
    obtain ⟨⟨z0, z1, z2⟩, z3, z4, z5⟩ := boxD XR
    rw [hg] at b1
    go_wp2
    try clear hw
    have X2 := box_put XR (.bool false) (.slice none 0 0) (.int .i64 0)
    have b2 := below_put b1 (Nat.le_refl _) (.bool false) (.slice none 0 0) (.int .i64 0)
    clear z0 z1 z2 z3 z4 z5 e0
    generalize ((w1.setCell ⟨g, 0, none⟩ (.bool false)).setCell ⟨g, 1, none⟩ (.slice none 0 0)).setCell ⟨g, 2, none⟩ (.int .i64 0) = U at *
    obtain ⟨⟨z0, z1, z2⟩, _⟩ := boxD X2
    exact bodyPost_ret (v := .tuple #[.agg #[.bool false, .slice none 0 0, .int .i64 0], .int .i64 6]) (by simp [results, Tryd.results106, go_sem, z0, z1, z2]) rfl ⟨⟨false, none, 0, 0, 0, []⟩, rfl, by rw [hg]; exact b2, Is.zero, zero_may, Ints.nil_ ..⟩
  · obtain ⟨pl, ph, Lv, Hv, Xgl, Xgh, ⟨XL, IL, ML, IRL⟩, ⟨XH, IH, MH, IRH⟩⟩ := hE
    have hs : subX Hv.s Hv.xs Hv.e Lv.s Lv.xs Lv.e = (r, code) := (IH.sub IL MH ML).trans h
    have mr : r.May := by
      have := sub_may hi lo
      rw [show subD hi lo = (r, code) from h] at this
      exact this
    have HS := Lib.hid hs
    clear hs h IL ML IH MH
    have e0 := cell_of_row w1 gl 0 _ _ _ (q1 Xgl)
    clear q1
    go_wp2_with fail
    try clear hw
    clear e0
    have kp_ : Keeps w w1.drew := fun p hp => b1.block p hp
    refine region_E (Keeps w) [] (m := 11) (L := #[false, false, false, false, false, false, false, false, false, false, false]) (by kernel_rfl) (by rfl) (by rfl) ?_
    have XR2 : w1.drew.heap[g]? = some (.cells #[.bool false, .slice none 0 0, .int .i64 0] 24 (0, 0)) := XR
    have tD : Tab w1.drew := t1.below (Below.refl w1.heap.size w1).drew t1.lt
    have bD : Below w.heap.size w w1.drew := b1.drew
    have iL : Ints w1.drew 0 B .u32 Lv.A Lv.n Lv.xs := IRL.below bD hBs
    have iH : Ints w1.drew 0 B .u32 Hv.A Hv.n Hv.xs := IRH.below bD hBs
    have lD : w1.heap.size ≤ w1.drew.heap.size := Nat.le_refl _
    clear XR t1 b1
    generalize w1.drew = w2 at *
    refine readE (i := 0) (L := #[true, false, false, false, false, false, false, false, false, false, false]) (v := .pointer (some ⟨ph, 0, none⟩)) rfl (by rfl) (by kernel_rfl) (by kernel_rfl) (by kernel_rfl) (fun _ _ _ h => h) (by assumption) (by rfl) ?ya ?za
    case ya =>
      intro w' h1
      have e0 := cell_of_row w' gh 0 _ _ _ ((h1 _ (lt_of_heap Xgh)).trans Xgh)
      go_simp
    try simp only [Act.put, List.setIfInBounds_toArray, List.set_cons_zero, List.set_cons_succ]
    refine pureE (i := 1) (L := #[true, true, false, false, false, false, false, false, false, false, false]) (v := ?_) rfl (by rfl) (by kernel_rfl) (by kernel_rfl) (by kernel_rfl) (fun _ _ _ h => h) (by rfl) ?hy52 ?rest52
    case hy52 => intro w; go_simp; (try with_reducible rfl)
    try simp only [Act.put, List.setIfInBounds_toArray, List.set_cons_zero, List.set_cons_succ]
    refine readE (i := 2) (L := #[true, true, true, false, false, false, false, false, false, false, false]) (v := .agg #[.bool Hv.s, .slice Hv.A Hv.n Hv.c, .int .i64 Hv.e]) rfl (by rfl) (by kernel_rfl) (by kernel_rfl) (by kernel_rfl) (fun _ _ _ h => h) (by assumption) (by rfl) ?yb ?zb
    case yb =>
      intro w' h1
      obtain ⟨⟨e0, e1, e2⟩, _⟩ := boxD ((h1 _ (lt_of_heap XH)).trans XH)
      go_simp
    try simp only [Act.put, List.setIfInBounds_toArray, List.set_cons_zero, List.set_cons_succ]
    refine readE (i := 3) (L := #[true, true, true, true, false, false, false, false, false, false, false]) (v := .pointer (some ⟨pl, 0, none⟩)) rfl (by rfl) (by kernel_rfl) (by kernel_rfl) (by kernel_rfl) (fun _ _ _ h => h) (by assumption) (by rfl) ?yc ?zc
    case yc =>
      intro w' h1
      have e0 := cell_of_row w' gl 0 _ _ _ ((h1 _ (lt_of_heap Xgl)).trans Xgl)
      go_simp
    try simp only [Act.put, List.setIfInBounds_toArray, List.set_cons_zero, List.set_cons_succ]
    refine pureE (i := 4) (L := #[true, true, true, true, true, false, false, false, false, false, false]) (v := ?_) rfl (by rfl) (by kernel_rfl) (by kernel_rfl) (by kernel_rfl) (fun _ _ _ h => h) (by rfl) ?hy55 ?rest55
    case hy55 => intro w; go_simp; (try with_reducible rfl)
    try simp only [Act.put, List.setIfInBounds_toArray, List.set_cons_zero, List.set_cons_succ]
    refine readE (i := 5) (L := #[true, true, true, true, true, true, false, false, false, false, false]) (v := .agg #[.bool Lv.s, .slice Lv.A Lv.n Lv.c, .int .i64 Lv.e]) rfl (by rfl) (by kernel_rfl) (by kernel_rfl) (by kernel_rfl) (fun _ _ _ h => h) (by assumption) (by rfl) ?yd ?zd
    case yd =>
      intro w' h1
      obtain ⟨⟨e0, e1, e2⟩, _⟩ := boxD ((h1 _ (lt_of_heap XL)).trans XL)
      go_simp
    try simp only [Act.put, List.setIfInBounds_toArray, List.set_cons_zero, List.set_cons_succ]
    refine stepK (i := 6) (L := #[true, true, true, true, true, true, true, false, false, false, false]) rfl (by rfl) (by kernel_rfl) (by rfl) (fun K hK => ?_)
    go_simp
    go_at_call 22
    refine (Sub_all w2 Hv.s Lv.s Hv.A Lv.A Hv.n Hv.c Lv.n Lv.c Hv.xs Lv.xs Hv.e Lv.e (iH.more (Nat.le_refl _) (by omega)) (iL.more (Nat.le_refl _) (by omega)) tD r code HS.out).mono ?_
    rintro e' w3 ⟨A1, n1, d1, rfl, hc1, hB, I1⟩
    have l3 := hB.size
    replace kp_ : Keeps w w3 := fun p hp => (hB.block p (by omega)).trans (kp_ p hp)
    replace XR2 := (hB.block _ (by omega)).trans XR2
    replace bD := bD.trans (hB.mono (by omega))
    clear hB iL iH tD
    refine hK _ _ ⟨fun _ _ => kp_, ?_⟩
    clear hK K
    try simp only [Act.put, List.setIfInBounds_toArray, List.set_cons_zero, List.set_cons_succ]
    refine pureE (i := 7) (L := #[true, true, true, true, true, true, true, true, false, false, false]) (v := ?_) rfl (by rfl) (by kernel_rfl) (by kernel_rfl) (by kernel_rfl) (fun _ _ _ h => h) (by rfl) ?hy58 ?rest58
    case hy58 => intro w; go_simp; (try with_reducible rfl)
    try simp only [Act.put, List.setIfInBounds_toArray, List.set_cons_zero, List.set_cons_succ]
    refine pureE (i := 8) (L := #[true, true, true, true, true, true, true, true, true, false, false]) (v := ?_) rfl (by rfl) (by kernel_rfl) (by kernel_rfl) (by kernel_rfl) (fun _ _ _ h => h) (by rfl) ?hy59 ?rest59
    case hy59 => intro w; go_simp; (try with_reducible rfl)
    try simp only [Act.put, List.setIfInBounds_toArray, List.set_cons_zero, List.set_cons_succ]
    obtain ⟨⟨z0, z1, z2⟩, z3, z4, z5⟩ := boxD XR2
    refine stepK (i := 9) (L := #[true, true, true, true, true, true, true, true, true, true, false]) rfl (by rfl) (by kernel_rfl) (by rfl) (fun K hK => ?_)
    go_simp
    have X2 := box_put XR2 (.bool r.neg) (.slice A1 n1 d1) (.int .i64 r.e)
    have b2 := below_put bD (g := g) (by omega) (.bool r.neg) (.slice A1 n1 d1) (.int .i64 r.e)
    have J2 := ints_put I1 (g := g) (by omega) (.bool r.neg) (.slice A1 n1 d1) (.int .i64 r.e)
    have s2 := size_put (w := w3) (g := g) (.bool r.neg) (.slice A1 n1 d1) (.int .i64 r.e)
    refine hK _ _ ⟨fun _ _ => fun p hp => b2.block p hp, ?_⟩
    clear hK K z0 z1 z2 z3 z4 z5
    try simp only [Act.put, List.setIfInBounds_toArray, List.set_cons_zero, List.set_cons_succ]
    generalize ((w3.setCell ⟨g, 0, none⟩ (.bool r.neg)).setCell ⟨g, 1, none⟩ (.slice A1 n1 d1)).setCell ⟨g, 2, none⟩ (.int .i64 r.e) = U at *
    refine pureE (i := 10) (L := #[true, true, true, true, true, true, true, true, true, true, true]) (v := ?_) rfl (by rfl) (by kernel_rfl) (by kernel_rfl) (by kernel_rfl) (fun _ _ _ h => h) (by rfl) ?hy61 ?rest61
    case hy61 => intro w; go_simp; (try with_reducible rfl)
    try simp only [Act.put, List.setIfInBounds_toArray, List.set_cons_zero, List.set_cons_succ]
    refine doneE (by kernel_rfl) ?_ _
    go_wp2
    obtain ⟨⟨z0, z1, z2⟩, _⟩ := boxD X2
    exact bodyPost_ret (v := .tuple #[.agg #[.bool r.neg, .slice A1 n1 d1, .int .i64 r.e], .int .i64 code]) (by simp [results, Tryd.results106, go_sem, z0, z1, z2]) rfl ⟨⟨r.neg, A1, n1, d1, r.e, _⟩, rfl, b2, ⟨rfl, rfl, rfl⟩, mr, J2.more (by omega) (by omega)⟩
end Ma
end Go.Proofs.YtlbkepiflhchdaaDoor
namespace Go.Proofs.YtlbkepiflhchdaaDoor
open Go.RowKit
namespace Ma
open Dp Dy
theorem far3 {w : World} {g g' o1 o2 o3 : Nat} (h : g' ≠ g) (x y z : Value) : (((w.setCell ⟨g, o1, none⟩ x).setCell ⟨g, o2, none⟩ y).setCell ⟨g, o3, none⟩ z).heap[g']? = w.heap[g']? :=
  (Below.heap_setCell _ _ _ _ h).trans ((Below.heap_setCell _ _ _ _ h).trans (Below.heap_setCell _ _ _ _ h))
theorem below3 {w0 w : World} {B g o1 o2 o3 : Nat} (h : Below B w0 w) (hg : B ≤ g) (x y z : Value) : Below B w0 (((w.setCell ⟨g, o1, none⟩ x).setCell ⟨g, o2, none⟩ y).setCell ⟨g, o3, none⟩ z) := ((h.setCell hg _).setCell hg _).setCell hg _
theorem size3 {w : World} {g o1 o2 o3 : Nat} (x y z : Value) : (((w.setCell ⟨g, o1, none⟩ x).setCell ⟨g, o2, none⟩ y).setCell ⟨g, o3, none⟩ z).heap.size = w.heap.size := by simp [World.setCell]
end Ma
end Go.Proofs.YtlbkepiflhchdaaDoor
