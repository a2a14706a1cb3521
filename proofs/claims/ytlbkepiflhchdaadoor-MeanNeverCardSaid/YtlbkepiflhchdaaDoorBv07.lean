/- The reference's Minus and Add: walks (printed by a program of mine). -/
/- A region that draws its order, in the round of a range over a function, under the wide fence: the plain walk's orders serve. No program in sight. -/
/- RegionE's way through a region that draws its order inside the round of a range over a function. No program in sight. -/
/- mass.Same: a walk (printed by a program of mine). -/
/- mass.Twin: a walk (printed by a program of mine). -/
/- How two dyads stand: a walk (printed by a program of mine). -/
/- How two dyads stand, whatever they are. -/
import Derived.Deep.DeepCutAuto
import Derived.Deep.CutRange
import Derived.Test.YtlbkepiflhchdaaDoorBv06
import Derived.RangeFuncNested
import Derived.RangeFuncBound
import Derived.RangeFuncBox
import Derived.RangeFuncCalls
import Derived.RangeFuncLeaves
import Derived.Shelf.Abstract
import Derived.Shelf.RegionOpen
import Derived.OwnWalkIn
import Derived.TacticsInMore
import Derived.LoopNIn
import Derived.LoopIn
import Derived.RegionIn
import Derived.Deep.RegionHeld3
import Derived.Test.YtlbkepiflhchdaaDoorBv01
import Derived.Laws.StructEq
import Derived.Test.YtlbkepiflhchdaaDoorBv05
namespace Go.Proofs.YtlbkepiflhchdaaDoor
open Go.RowKit
namespace Dy
open Dp
theorem boxes2 (w : World) (o1 o2 : Obj) {w1 : World} (hw : (w.alloc o1).alloc o2 = w1) : w1.heap[w.heap.size]? = some o1 ∧ w1.heap[w.heap.size + 1]? = some o2 ∧ Below w.heap.size w w1 ∧ w.heap.size + 2 ≤ w1.heap.size ∧ w1.heap.size ≤ w.heap.size + 2 := by
  subst hw
  exact ⟨by rw [Below.heap_alloc _ _ _ (by simp)]; exact heap_alloc_last _ _, heap_alloc2_new _ _ _, ((Below.refl _ w).alloc (Nat.le_refl _) _).alloc (by simp) _, by simp, by simp⟩
theorem boxes3 (w : World) (o1 o2 o3 : Obj) {w1 : World} (hw : ((w.alloc o1).alloc o2).alloc o3 = w1) : w1.heap[w.heap.size]? = some o1 ∧ w1.heap[w.heap.size + 1]? = some o2 ∧ w1.heap[w.heap.size + 1 + 1]? = some o3 ∧ Below w.heap.size w w1 ∧ w.heap.size + 3 ≤ w1.heap.size ∧ w1.heap.size ≤ w.heap.size + 3 := by
  obtain ⟨h1, h2, h3, h4, h5⟩ := boxes2 w o1 o2 rfl
  subst hw
  refine ⟨(Below.heap_alloc _ _ _ (by omega)).trans h1, (Below.heap_alloc _ _ _ (by omega)).trans h2, ?_, h3.alloc (by omega) _, by simp, by simp⟩
  have e : w.heap.size + 1 + 1 = ((w.alloc o1).alloc o2).heap.size := by omega
  rw [e]
  exact heap_alloc_last _ _
end Dy
end Go.Proofs.YtlbkepiflhchdaaDoor
namespace Go.Proofs.YtlbkepiflhchdaaDoor
open Go.RowKit
def opPlain (o : Oper) : Bool := match o.op with
  | .defer _ => false
  | _ => true
theorem opPlain_spec {o : Oper} (h : opPlain o = true) : ∀ c, o.op ≠ .defer c := by
  intro c e
  unfold opPlain at h
  rw [e] at h
  cases h
section
variable {P : Program} {ops : Array Oper} {Q : Exit → Act → World → Prop} {md : Region.Mode} {l n : Nat}
theorem operIn_of_oper {o : Oper} {a : Act} {w : World} {K : Act → World → Prop} (hnd : opPlain o = true) (h : o.wp P a w K Q) : o.wpIn (Fence.wide.inRound l) n P a w K Q := by
  refine ⟨fun _ _ => trivial, ?_⟩
  unfold Oper.wp at h
  rw [Oper.semAt_eq _ _ _ (opPlain_spec hnd)]
  generalize (execOp a.eval o).run P w = r at h ⊢
  cases r with
  | ok x w' =>
    cases x with
    | value v => exact h
    | skip => exact h
    | defer d => exact h
    | enter f args => exact ⟨(fun e => by cases e), CallsIn.inRound l (callsIn_wide.2 h)⟩
    | row row args =>
      refine ⟨(fun e => by cases e), fun c cs _ => ?_⟩
      obtain ⟨v, w'', r, s⟩ := h c cs
      exact ⟨v, w'', r, stepsIn_wide.2 s⟩
    | _ => exact h.elim
  | halt x w' =>
    cases x <;> first | exact h | exact h.elim
theorem opIn_of_op {i : Nat} {a : Act} {w : World} {K K' : Act → World → Prop} (hnd : ops.all opPlain = true) (hQ : ∀ a w, ¬ Q .outgrown a w) (hK : ∀ a w, K a w → K' a w) (h : wpOp P ops Q i K a w) : wpOpIn (Fence.wide.inRound l) n P ops Q i K' a w := by
  unfold wpOp at h
  unfold wpOpIn
  cases ho : ops[i]? with
  | none =>
    rw [ho] at h
    exact hK _ _ h
  | some o =>
    rw [ho] at h
    have hp : opPlain o = true := by
      obtain ⟨hi, he⟩ := Array.getElem?_eq_some_iff.1 ho
      rw [← he]
      exact (Array.all_eq_true.1 hnd) i hi
    by_cases hw : Region.wanted o (yielded ops a.tmps) = true
    · simp only [hw, if_true] at h ⊢
      rcases h with h | ⟨_, a', w', hq⟩
      · exact Oper.wpIn_mono hK (operIn_of_oper hp h)
      · exact absurd hq (hQ a' w')
    · simp only [hw, if_false] at h ⊢
      exact ⟨fun _ _ => trivial, hK _ _ h⟩
theorem anyIn_of_any (hnd : ops.all opPlain = true) (hQ : ∀ a w, ¬ Q .outgrown a w) : ∀ (fuel : Nat) (listed : Array Bool) (a : Act) (w : World),
    wpAny P md ops Q fuel listed a w → wpAnyIn (Fence.wide.inRound l) n P md ops Q fuel listed a w
  | 0, _, _, _, h => h
  | fuel + 1, _, _, _, h => ⟨h.1, fun i hi => opIn_of_op hnd hQ (fun a' w' h' => anyIn_of_any hnd hQ fuel _ a' w' h') (h.2 i hi)⟩
end
section
variable {P : Program} {ops : Array Oper} {os : List Oper} {Q : Exit → Act → World → Prop} {md : Region.Mode} {S : World → Prop} {k : Nat}
/-- Number k waits for number i. -/
def waits (md : Region.Mode) (ops : Array Oper) (k i : Nat) : Bool := match ops[k]? with
  | none => true
  | some o => o.after.any fun e => Region.binds md e && e.on == i
end
end Go.Proofs.YtlbkepiflhchdaaDoor
namespace Go.Proofs.YtlbkepiflhchdaaDoor
open Go.RowKit
section
variable {P : Program} {os : List Oper} {Q : Exit → Act → World → Prop} {l n : Nat}
theorem roundRegion_E (S : World → Prop) (E : List Nat) {id m : Nat} {L : Array Bool} {a : Act} {w : World} (hm : P.follows .mixedOrders = true) (hnd : os.toArray.all opPlain = true) (hQ : ∀ a w, ¬ Q .outgrown a w) (hsz : os.length = m) (hL : Array.replicate m false = L)
    (h : wpAnyE P .any os.toArray Q S E m L a w.drew) : (Code.region id os.toArray true).wpIn (Fence.wide.inRound l) n P Q a w := by
  subst hsz
  subst hL
  exact wpIn_region_any hm (anyIn_of_any hnd hQ _ _ _ _ (any_of_E _ _ _ _ h))
end
end Go.Proofs.YtlbkepiflhchdaaDoor
namespace Go.Proofs.YtlbkepiflhchdaaDoor
open Go.RowKit
namespace Ma
open Dp Dy
attribute [local go_sem] Oper.semAt_some
def sameV (d d' : Dv) : Bool := Pa.Dy.same ⟨d.s, d.xs, d.e⟩ ⟨d'.s, d'.xs, d'.e⟩
def sameM (a b : Mv) : Bool := sameV a.S b.S && sameV a.W b.W && sameV a.C b.C && sameV a.A b.A
theorem four {p : Nat → Prop} (h0 : p 0) (h1 : p 1) (h2 : p 2) (h3 : p 3) : ∀ x, x < 4 → p x := fun x hx => by
  have hx' : x = 0 ∨ x = 1 ∨ x = 2 ∨ x = 3 := by omega
  rcases hx' with rfl | rfl | rfl | rfl
  · exact h0
  · exact h1
  · exact h2
  · exact h3
theorem sameM_iff (a b : Mv) : sameM a b = true ↔ ∀ x, x < 4 → sameV (a.get x) (b.get x) = true := by
  unfold sameM
  simp only [Bool.and_eq_true]
  exact ⟨fun h => four h.1.1.1 h.1.1.2 h.1.2 h.2, fun h => ⟨⟨⟨h 0 (by decide), h 1 (by decide)⟩, h 2 (by decide)⟩, h 3 (by decide)⟩⟩
theorem heapN {w w' : World} {g : Nat} {o : Obj} (hb : Below w.heap.size w w') (h : w.heap[g]? = some o) : w'.heap[g]? = some o := (hb.block g (lt_of_heap h)).trans h
theorem boxes5 (w : World) (o1 o2 o3 o4 o5 : Obj) {w1 : World} (hw : ((((w.alloc o1).alloc o2).alloc o3).alloc o4).alloc o5 = w1) :
    (w1.heap[w.heap.size]? = some o1 ∧ w1.heap[w.heap.size + 1]? = some o2 ∧ w1.heap[w.heap.size + 1 + 1]? = some o3 ∧ w1.heap[w.heap.size + 1 + 1 + 1]? = some o4 ∧ w1.heap[w.heap.size + 1 + 1 + 1 + 1]? = some o5) ∧ Below w.heap.size w w1 ∧ w.heap.size + 5 ≤ w1.heap.size ∧ w1.heap.size ≤ w.heap.size + 5 := by
  obtain ⟨h1, h2, h3, h4, h5, h6⟩ := boxes3 w o1 o2 o3 rfl
  obtain ⟨k1, k2, k3, k4, k5⟩ := boxes2 (((w.alloc o1).alloc o2).alloc o3) o4 o5 rfl
  subst hw
  have e : (((w.alloc o1).alloc o2).alloc o3).heap.size = w.heap.size + 1 + 1 + 1 := by simp
  rw [e] at k1 k2
  exact ⟨⟨heapN k3 h1, heapN k3 h2, heapN k3 h3, k1, k2⟩, h4.trans (k3.mono (by omega)), by omega, by omega⟩
set_option maxHeartbeats 3200000 in
set_option maxRecDepth 100000 in
/-- mass.Same. -/
theorem MSame_any (w : World) (a b : Mv) (hA : MRows w 0 w.heap.size a) (hBb : MRows w 0 w.heap.size b) (k : Bool) (hk : sameM a b = k) :
    Calls Tryd.prog 50 #[.agg #[.bool a.S.s, .slice a.S.A a.S.n a.S.c, .int .i64 a.S.e, .bool a.W.s, .slice a.W.A a.W.n a.W.c, .int .i64 a.W.e, .bool a.C.s, .slice a.C.A a.C.n a.C.c, .int .i64 a.C.e, .bool a.A.s, .slice a.A.A a.A.n a.A.c, .int .i64 a.A.e], .agg #[.bool b.S.s, .slice b.S.A b.S.n b.S.c, .int .i64 b.S.e, .bool b.W.s, .slice b.W.A b.W.n b.W.c, .int .i64 b.W.e, .bool b.C.s, .slice b.C.A b.C.n b.C.c, .int .i64 b.C.e, .bool b.A.s, .slice b.A.A b.A.n b.A.c, .int .i64 b.A.e]] w fun e w' => e = .returned (.bool k) ∧ Below w.heap.size w w' := by
  have HK := Lib.hid hk
  clear hk
  have hmx : Tryd.prog.follows .mixedOrders = true := by kernel_rfl
  refine (callsIn_wide (n := 5)).1 ?_
  refine callsIn_of_wp_marks Tryd.func50 rfl trivial ?_ rfl
  simp only [Tryd.ntmps50, List.size_toArray, List.length_cons, List.length_nil, Nat.reduceAdd, Nat.reduceSub, Array.replicate_succ, Array.replicate_zero, List.push_toArray, List.append_toArray, List.nil_append, List.cons_append]
  gi_wp2_with fail
  refine ⟨trivial, (callsIn_wide.2 (parts_any _ _ _)).mono ?_⟩
  rintro e w2 ⟨rfl, rfl⟩
  gi_wp2_with fail
  obtain ⟨W0, hW0⟩ : ∃ W0, ((((w.alloc (.cells #[.bool a.S.s, .slice a.S.A a.S.n a.S.c, .int .i64 a.S.e, .bool a.W.s, .slice a.W.A a.W.n a.W.c, .int .i64 a.W.e, .bool a.C.s, .slice a.C.A a.C.n a.C.c, .int .i64 a.C.e, .bool a.A.s, .slice a.A.A a.A.n a.A.c, .int .i64 a.A.e] 39)).alloc (.cells #[.bool b.S.s, .slice b.S.A b.S.n b.S.c, .int .i64 b.S.e, .bool b.W.s, .slice b.W.A b.W.n b.W.c, .int .i64 b.W.e, .bool b.C.s, .slice b.C.A b.C.n b.C.c, .int .i64 b.C.e, .bool b.A.s, .slice b.A.A b.A.n b.A.c, .int .i64 b.A.e] 39)).alloc (.cells #[.bool false] 4)).alloc (.cells #[.pointer (some ⟨w.heap.size, 0, none⟩)] 104)).alloc (.cells #[.pointer (some ⟨w.heap.size + 1, 0, none⟩)] 104) = W0 := ⟨_, rfl⟩
  obtain ⟨⟨hM0, hN0, hE0, hS1, hS2⟩, hB0, hlo, hhi⟩ := boxes5 w _ _ _ _ _ hW0
  rw [hW0]
  clear hW0
  refine wpIn_rangeFunc_sep2 (F := Fence.wide) rfl (by decide) (gf := 108) (lb := #[.pointer (some ⟨w.heap.size + 1 + 1 + 1, 0, none⟩), .pointer (some ⟨w.heap.size + 1 + 1 + 1 + 1, 0, none⟩)]) rfl trivial (enters_of Tryd.func108 (by kernel_rfl) rfl)
    (parts_seq _ _ _ w.heap.size (w.heap.size + 1) W0 ⟨hS1, hS2⟩) (by omega) (fun _ => rfl)
    (fun pre O W => O (w.heap.size + 1 + 1) ∧ (∀ x, x ∈ pre → x < 4 → sameV (a.get x) (b.get x) = true) ∧ MBox W w.heap.size a ∧ MBox W (w.heap.size + 1) b ∧ W.heap[w.heap.size + 1 + 1]? = some (.cells #[.bool false] 4 (0, 0)) ∧ Below w.heap.size w W)
    (fun j pre O W => j = .ret ∧ sameM a b = false ∧ W.heap[w.heap.size + 1 + 1]? = some (.cells #[.bool false] 4 (0, 0)) ∧ Below w.heap.size w W)
    (fun O s A B row hs hg hr => ⟨hs.1, hs.2.1, heap_own hs.2.2.1 hg (fun r e => (hr r e).2), heap_own hs.2.2.2.1 hg (fun r e => (hr r e).2), heap_own hs.2.2.2.2.1 hg (fun r e => (hr r e).2), hs.2.2.2.2.2.grown hg hs.2.2.2.2.2.size (fun k e => by have := (hr k e).1; omega)⟩)
    (fun j O s A B row hs hg hr => ⟨hs.1, hs.2.1, heap_own hs.2.2.1 hg (fun r e => (hr r e).2), hs.2.2.2.grown hg hs.2.2.2.size (fun k e => by have := (hr k e).1; omega)⟩)
    (fun s O A B row hs hg hr => ⟨hs.1, hs.2.1, heap_loose hs.2.2.1 hg hr (by omega), heap_loose hs.2.2.2.1 hg hr (by omega), heap_loose hs.2.2.2.2.1 hg hr (by omega), below_loose hs.2.2.2.2.2 (Nat.le_refl _) hg hr (by omega)⟩)
    (fun j s O A B row hs hg hr => ⟨hs.1, hs.2.1, heap_loose hs.2.2.1 hg hr (by omega), below_loose hs.2.2.2 (Nat.le_refl _) hg hr (by omega)⟩)
    (fun k => k = w.heap.size + 1 + 1) (fun k hk e => by omega) (fun k e => by omega) ⟨rfl, (fun x hx => absurd hx (List.not_mem_nil)), hM0, hN0, hE0, hB0⟩
    (fun x a' W => a' = { tmps := #[.agg #[.bool a.S.s, .slice a.S.A a.S.n a.S.c, .int .i64 a.S.e, .bool a.W.s, .slice a.W.A a.W.n a.W.c, .int .i64 a.W.e, .bool a.C.s, .slice a.C.A a.C.n a.C.c, .int .i64 a.C.e, .bool a.A.s, .slice a.A.A a.A.n a.A.c, .int .i64 a.A.e], .agg #[.bool b.S.s, .slice b.S.A b.S.n b.S.c, .int .i64 b.S.e, .bool b.W.s, .slice b.W.A b.W.n b.W.c, .int .i64 b.W.e, .bool b.C.s, .slice b.C.A b.C.n b.C.c, .int .i64 b.C.e, .bool b.A.s, .slice b.A.A b.A.n b.A.c, .int .i64 b.A.e], .pointer (some ⟨w.heap.size, 0, none⟩), .pointer (some ⟨w.heap.size + 1, 0, none⟩), .pointer (some ⟨w.heap.size + 1 + 1, 0, none⟩), .pointer (some ⟨w.heap.size, 3 * x, none⟩), .pointer (some ⟨w.heap.size + 1, 3 * x, none⟩),
      .func (.func 108) #[] #[.pointer (some ⟨w.heap.size + 1 + 1 + 1, 0, none⟩), .pointer (some ⟨w.heap.size + 1 + 1 + 1 + 1, 0, none⟩)], .pointer (some ⟨w.heap.size, 3 * x, none⟩), .pointer (some ⟨w.heap.size + 1, 3 * x, none⟩), undef, undef, undef, undef, undef, undef, undef, undef], defers := [] })
    (fun x a' _ _ _ _ h _ _ => h) ?assign ?body ?done ?stop
  case assign =>
    intro l pre x O W K hgx hsW hi hK
    unfold encM
    gi_wp2
    exact hK _ _ (KeepsFrom.refl _ _) (Gain.refl _ _) hi rfl
  case body =>
    rintro l pre x O a' W ⟨hx4, hpre⟩ hsW ⟨hO, hall, hM, hN, hE, hb⟩ rfl _
    have hrow : Ints W 0 W.heap.size .u32 (a.get x).A (a.get x).n (a.get x).xs := ((hA.get x).below hb (Nat.le_refl _)).more (Nat.le_refl _) hb.size
    have hrow2 : Ints W 0 W.heap.size .u32 (b.get x).A (b.get x).n (b.get x).xs := ((hBb.get x).below hb (Nat.le_refl _)).more (Nat.le_refl _) hb.size
    have hcm := MBox.at_ hM hx4
    have hcn := MBox.at_ hN hx4
    generalize hd : a.get x = d at hcm hrow
    generalize hd' : b.get x = d' at hcn hrow2
    have HD := Lib.hid hd
    have HD' := Lib.hid hd'
    clear hd hd'
    obtain ⟨r, hr⟩ : ∃ r, sameV d d' = r := ⟨_, rfl⟩
    have HR := Lib.hid hr
    clear hr
    gi_wp2
    refine roundRegion_E (Keeps W) [] (m := 8) (L := #[false, false, false, false, false, false, false, false]) hmx (by kernel_rfl) (fun _ _ h => h) (by rfl) (by rfl) ?_
    have kD : Keeps W W.drew := fun _ _ => rfl
    refine pureE (i := 0) (L := #[true, false, false, false, false, false, false, false]) (v := ?_) rfl (by rfl) (by kernel_rfl) (by kernel_rfl) (by kernel_rfl) (fun _ _ _ h => h) (by rfl) ?hy1 ?rest1
    case hy1 => intro w; go_simp; (try with_reducible rfl)
    try simp only [Act.put, List.setIfInBounds_toArray, List.set_cons_zero, List.set_cons_succ]
    refine pureE (i := 1) (L := #[true, true, false, false, false, false, false, false]) (v := ?_) rfl (by rfl) (by kernel_rfl) (by kernel_rfl) (by kernel_rfl) (fun _ _ _ h => h) (by rfl) ?hy2 ?rest2
    case hy2 => intro w; go_simp; (try with_reducible rfl)
    try simp only [Act.put, List.setIfInBounds_toArray, List.set_cons_zero, List.set_cons_succ]
    refine readE (i := 2) (L := #[true, true, true, false, false, false, false, false]) (v := .agg #[.bool d.s, .slice d.A d.n d.c, .int .i64 d.e]) rfl (by rfl) (by kernel_rfl) (by kernel_rfl) (by kernel_rfl) (fun _ _ _ h => h) (by assumption) (by rfl) ?ry2 ?rr2
    case ry2 =>
      intro w' h1
      obtain ⟨⟨k1, k2, k3⟩, _⟩ := MBox.at_ ((h1 _ (by omega)).trans hM) hx4
      rw [HD.out] at k1 k2 k3
      go_simp
    try simp only [Act.put, List.setIfInBounds_toArray, List.set_cons_zero, List.set_cons_succ]
    refine pureE (i := 3) (L := #[true, true, true, true, false, false, false, false]) (v := ?_) rfl (by rfl) (by kernel_rfl) (by kernel_rfl) (by kernel_rfl) (fun _ _ _ h => h) (by rfl) ?hy4 ?rest4
    case hy4 => intro w; go_simp; (try with_reducible rfl)
    try simp only [Act.put, List.setIfInBounds_toArray, List.set_cons_zero, List.set_cons_succ]
    refine pureE (i := 4) (L := #[true, true, true, true, true, false, false, false]) (v := ?_) rfl (by rfl) (by kernel_rfl) (by kernel_rfl) (by kernel_rfl) (fun _ _ _ h => h) (by rfl) ?hy5 ?rest5
    case hy5 => intro w; go_simp; (try with_reducible rfl)
    try simp only [Act.put, List.setIfInBounds_toArray, List.set_cons_zero, List.set_cons_succ]
    refine readE (i := 5) (L := #[true, true, true, true, true, true, false, false]) (v := .agg #[.bool d'.s, .slice d'.A d'.n d'.c, .int .i64 d'.e]) rfl (by rfl) (by kernel_rfl) (by kernel_rfl) (by kernel_rfl) (fun _ _ _ h => h) (by assumption) (by rfl) ?ry5 ?rr5
    case ry5 =>
      intro w' h1
      obtain ⟨⟨k1, k2, k3⟩, _⟩ := MBox.at_ ((h1 _ (by omega)).trans hN) hx4
      rw [HD'.out] at k1 k2 k3
      go_simp
    try simp only [Act.put, List.setIfInBounds_toArray, List.set_cons_zero, List.set_cons_succ]
    refine stepK (i := 6) (L := #[true, true, true, true, true, true, true, false]) rfl (by rfl) (by kernel_rfl) (by rfl) (fun K hK => ?_)
    go_simp
    go_at_call 36
    refine (Pa.dyadSame_any W.drew _ _ _ _ _ _ _ _ _ _ _ _ (hrow.drewN 1) (hrow2.drewN 1) r HR.out).mono ?_
    rintro e W2 ⟨rfl, hB'⟩
    have hB : Below W.heap.size W W2 := (Below.refl _ W).drew.trans hB'
    clear hB'
    refine hK _ _ ⟨fun _ _ p hp => hB.block p hp, ?_⟩
    clear hK K
    try simp only [Act.put, List.setIfInBounds_toArray, List.set_cons_zero, List.set_cons_succ]
    refine pureE (i := 7) (L := #[true, true, true, true, true, true, true, true]) (v := ?_) rfl (by rfl) (by kernel_rfl) (by kernel_rfl) (by kernel_rfl) (fun _ _ _ h => h) (by rfl) ?hy8 ?rest8
    case hy8 => intro w; go_simp; (try with_reducible rfl)
    try simp only [Act.put, List.setIfInBounds_toArray, List.set_cons_zero, List.set_cons_succ]
    refine doneE (by kernel_rfl) ?_ _
    have hE2 := box_on hE hB (by omega)
    obtain ⟨e3, e4⟩ := cells1 hE2
    cases r
    · gi_wp2
      refine ⟨(keeps_below hB).trans ((KeepsOthers.setCell _ _ _).from _), O, (gain_below hB).trans (gain_set hO _), rfl, ?_, set1 hE2 _, (hb.trans (hB.mono hb.size)).setCell (by simp <;> omega) _⟩
      refine Bool.eq_false_iff.2 fun h => ?_
      have := (sameM_iff a b).1 h x hx4
      rw [HD.out, HD'.out, HR.out] at this
      cases this
    · gi_wp2
      refine ⟨keeps_below hB, O, gain_below hB, hO, fun y hy hy4 => ?_, box_on hM hB (by omega), box_on hN hB (by omega), hE2, hb.trans (hB.mono hb.size)⟩
      rcases List.mem_append.1 hy with h | h
      · exact hall y h hy4
      · rw [List.mem_singleton.1 h, HD.out, HD'.out]
        exact HR.out
  case done =>
    rintro D ys O W hD hS ⟨hO, hall, hM, hN, hE, hb⟩ hK
    obtain ⟨e1, e2⟩ := cells1 hE
    have hk := HK.out
    rw [show sameM a b = true from (sameM_iff a b).2 fun x hx => hall x (by rw [hS]; simp; omega) hx] at hk
    subst hk
    clear hS hall
    gi_wp2
    have hK' := (KeepsOthers.setCell W ⟨w.heap.size + 1 + 1, 0, none⟩ (.bool true)).same D _ hK rfl
    have c1 := cells1 ((World.putObj_heap_other (o := .deferred none) (by omega : w.heap.size + 1 + 1 ≠ D)).trans (set1 hE (.bool true)))
    refine ⟨by simp, .inl ⟨_, _, rfl, run_takeDeferred hK', ?_⟩⟩
    refine ⟨.bool true, ?_, rfl, ?_⟩
    · simp [results, Tryd.f50, go_sem, c1.1]
    · exact (hb.setCell (by simp <;> omega) _).trans (belowK_b (w := w) (Nat.le_refl _) _ D _ _ (by omega) hK' rfl rfl)
  case stop =>
    rintro D j pre O W hD hSp ⟨rfl, hm, hE, hb⟩ hK
    have hk := HK.out
    rw [hm] at hk
    subst hk
    gi_wp2
    have c1 := cells1 ((World.putObj_heap_other (o := .deferred none) (by omega : w.heap.size + 1 + 1 ≠ D)).trans hE)
    refine ⟨by simp, .inl ⟨_, _, rfl, run_takeDeferred hK, ?_⟩⟩
    refine ⟨.bool false, ?_, rfl, ?_⟩
    · simp [results, Tryd.f50, go_sem, c1.1]
    · exact hb.trans (belowK_b (w := w) (Nat.le_refl _) _ D _ _ (by omega) hK rfl rfl)
end Ma
end Go.Proofs.YtlbkepiflhchdaaDoor
namespace Go.Proofs.YtlbkepiflhchdaaDoor
open Go.RowKit
namespace Ma
open Dp Dy
attribute [local go_sem] Oper.semAt_some
def Mv.put (m : Mv) (x : Nat) (d : Dv) : Mv := match x with
  | 0 => { m with S := d }
  | 1 => { m with W := d }
  | 2 => { m with C := d }
  | _ => { m with A := d }
theorem put_get {m : Mv} {x y : Nat} {d : Dv} (hx : x < 4) (hy : y < 4) : (m.put x d).get y = if y = x then d else m.get y := by
  have hx' : x = 0 ∨ x = 1 ∨ x = 2 ∨ x = 3 := by omega
  have hy' : y = 0 ∨ y = 1 ∨ y = 2 ∨ y = 3 := by omega
  rcases hx' with rfl | rfl | rfl | rfl <;> rcases hy' with rfl | rfl | rfl | rfl <;> rfl
theorem MBox.put {w : World} {g : Nat} {m : Mv} (h : MBox w g m) {x : Nat} (hx : x < 4) (d : Dv) :
    MBox (((w.setCell ⟨g, 3 * x, none⟩ (.bool d.s)).setCell ⟨g, 3 * x + 1, none⟩ (.slice d.A d.n d.c)).setCell ⟨g, 3 * x + 2, none⟩ (.int .i64 d.e)) g (m.put x d) := by
  have hx' : x = 0 ∨ x = 1 ∨ x = 2 ∨ x = 3 := by omega
  unfold MBox at *
  rcases hx' with rfl | rfl | rfl | rfl <;> simp [World.setCell, Array.getElem?_modify, h, Mv.put]
theorem MBox.cells {w : World} {g : Nat} {m : Mv} (h : MBox w g m) : (w.cell? ⟨g, 0, none⟩ = some (.bool m.S.s) ∧ w.cell? ⟨g, 1, none⟩ = some (.slice m.S.A m.S.n m.S.c) ∧ w.cell? ⟨g, 2, none⟩ = some (.int .i64 m.S.e) ∧ w.cell? ⟨g, 3, none⟩ = some (.bool m.W.s) ∧ w.cell? ⟨g, 4, none⟩ = some (.slice m.W.A m.W.n m.W.c) ∧ w.cell? ⟨g, 5, none⟩ = some (.int .i64 m.W.e) ∧ w.cell? ⟨g, 6, none⟩ = some (.bool m.C.s) ∧ w.cell? ⟨g, 7, none⟩ = some (.slice m.C.A m.C.n m.C.c) ∧ w.cell? ⟨g, 8, none⟩ = some (.int .i64 m.C.e) ∧ w.cell? ⟨g, 9, none⟩ = some (.bool m.A.s) ∧ w.cell? ⟨g, 10, none⟩ = some (.slice m.A.A m.A.n m.A.c) ∧ w.cell? ⟨g, 11, none⟩ = some (.int .i64 m.A.e)) ∧ ∀ k, w.frozen? ⟨g, k, none⟩ = false := by
  refine ⟨?_, fun k => frozen_of_row w g k _ _ h⟩
  have hc : ∀ k v, (#[.bool m.S.s, .slice m.S.A m.S.n m.S.c, .int .i64 m.S.e, .bool m.W.s, .slice m.W.A m.W.n m.W.c, .int .i64 m.W.e, .bool m.C.s, .slice m.C.A m.C.n m.C.c, .int .i64 m.C.e, .bool m.A.s, .slice m.A.A m.A.n m.A.c, .int .i64 m.A.e] : Array Value)[k]? = some v → w.cell? ⟨g, k, none⟩ = some v := fun k v hk => by
    unfold MBox at h
    simp [World.cell?, h]
    simpa using hk
  exact ⟨hc _ _ rfl, hc _ _ rfl, hc _ _ rfl, hc _ _ rfl, hc _ _ rfl, hc _ _ rfl, hc _ _ rfl, hc _ _ rfl, hc _ _ rfl, hc _ _ rfl, hc _ _ rfl, hc _ _ rfl⟩
/-- A whole mass is laid into a block of 12 cells. -/
theorem MBox.all {w : World} {g : Nat} {m0 : Mv} (h : MBox w g m0) (m : Mv) : MBox ((((((((((((w.setCell ⟨g, 0, none⟩ (.bool m.S.s)).setCell ⟨g, 1, none⟩ (.slice m.S.A m.S.n m.S.c)).setCell ⟨g, 2, none⟩ (.int .i64 m.S.e)).setCell ⟨g, 3, none⟩ (.bool m.W.s)).setCell ⟨g, 4, none⟩ (.slice m.W.A m.W.n m.W.c)).setCell ⟨g, 5, none⟩ (.int .i64 m.W.e)).setCell ⟨g, 6, none⟩ (.bool m.C.s)).setCell ⟨g, 7, none⟩ (.slice m.C.A m.C.n m.C.c)).setCell ⟨g, 8, none⟩ (.int .i64 m.C.e)).setCell ⟨g, 9, none⟩ (.bool m.A.s)).setCell ⟨g, 10, none⟩ (.slice m.A.A m.A.n m.A.c)).setCell ⟨g, 11, none⟩ (.int .i64 m.A.e)) g m :=
  ((((h.put (x := 0) (by decide) m.S).put (x := 1) (by decide) m.W).put (x := 2) (by decide) m.C).put (x := 3) (by decide) m.A)
theorem below_all {w0 w : World} {B g : Nat} (h : Below B w0 w) (hg : B ≤ g) (m : Mv) : Below B w0 ((((((((((((w.setCell ⟨g, 0, none⟩ (.bool m.S.s)).setCell ⟨g, 1, none⟩ (.slice m.S.A m.S.n m.S.c)).setCell ⟨g, 2, none⟩ (.int .i64 m.S.e)).setCell ⟨g, 3, none⟩ (.bool m.W.s)).setCell ⟨g, 4, none⟩ (.slice m.W.A m.W.n m.W.c)).setCell ⟨g, 5, none⟩ (.int .i64 m.W.e)).setCell ⟨g, 6, none⟩ (.bool m.C.s)).setCell ⟨g, 7, none⟩ (.slice m.C.A m.C.n m.C.c)).setCell ⟨g, 8, none⟩ (.int .i64 m.C.e)).setCell ⟨g, 9, none⟩ (.bool m.A.s)).setCell ⟨g, 10, none⟩ (.slice m.A.A m.A.n m.A.c)).setCell ⟨g, 11, none⟩ (.int .i64 m.A.e)) :=
  ((((((((((((h.setCell hg _).setCell hg _).setCell hg _).setCell hg _).setCell hg _).setCell hg _).setCell hg _).setCell hg _).setCell hg _).setCell hg _).setCell hg _).setCell hg _)
theorem size_set (w : World) (p : Addr) (v : Value) : (w.setCell p v).heap.size = w.heap.size := by simp [World.setCell]
theorem size_all {w : World} {g : Nat} (m : Mv) : (((((((((((((w.setCell ⟨g, 0, none⟩ (.bool m.S.s)).setCell ⟨g, 1, none⟩ (.slice m.S.A m.S.n m.S.c)).setCell ⟨g, 2, none⟩ (.int .i64 m.S.e)).setCell ⟨g, 3, none⟩ (.bool m.W.s)).setCell ⟨g, 4, none⟩ (.slice m.W.A m.W.n m.W.c)).setCell ⟨g, 5, none⟩ (.int .i64 m.W.e)).setCell ⟨g, 6, none⟩ (.bool m.C.s)).setCell ⟨g, 7, none⟩ (.slice m.C.A m.C.n m.C.c)).setCell ⟨g, 8, none⟩ (.int .i64 m.C.e)).setCell ⟨g, 9, none⟩ (.bool m.A.s)).setCell ⟨g, 10, none⟩ (.slice m.A.A m.A.n m.A.c)).setCell ⟨g, 11, none⟩ (.int .i64 m.A.e))).heap.size = w.heap.size := by simp only [size_set]
theorem far_all {w : World} {g g' : Nat} (hne : g' ≠ g) (m : Mv) : (((((((((((((w.setCell ⟨g, 0, none⟩ (.bool m.S.s)).setCell ⟨g, 1, none⟩ (.slice m.S.A m.S.n m.S.c)).setCell ⟨g, 2, none⟩ (.int .i64 m.S.e)).setCell ⟨g, 3, none⟩ (.bool m.W.s)).setCell ⟨g, 4, none⟩ (.slice m.W.A m.W.n m.W.c)).setCell ⟨g, 5, none⟩ (.int .i64 m.W.e)).setCell ⟨g, 6, none⟩ (.bool m.C.s)).setCell ⟨g, 7, none⟩ (.slice m.C.A m.C.n m.C.c)).setCell ⟨g, 8, none⟩ (.int .i64 m.C.e)).setCell ⟨g, 9, none⟩ (.bool m.A.s)).setCell ⟨g, 10, none⟩ (.slice m.A.A m.A.n m.A.c)).setCell ⟨g, 11, none⟩ (.int .i64 m.A.e))).heap[g']? = w.heap[g']? := by
  exact (Below.heap_setCell _ _ _ _ hne).trans ((Below.heap_setCell _ _ _ _ hne).trans ((Below.heap_setCell _ _ _ _ hne).trans ((Below.heap_setCell _ _ _ _ hne).trans ((Below.heap_setCell _ _ _ _ hne).trans ((Below.heap_setCell _ _ _ _ hne).trans ((Below.heap_setCell _ _ _ _ hne).trans ((Below.heap_setCell _ _ _ _ hne).trans ((Below.heap_setCell _ _ _ _ hne).trans ((Below.heap_setCell _ _ _ _ hne).trans ((Below.heap_setCell _ _ _ _ hne).trans (Below.heap_setCell _ _ _ _ hne)))))))))))
theorem keeps_all {w : World} {g : Nat} (m : Mv) : KeepsOthers w ((((((((((((w.setCell ⟨g, 0, none⟩ (.bool m.S.s)).setCell ⟨g, 1, none⟩ (.slice m.S.A m.S.n m.S.c)).setCell ⟨g, 2, none⟩ (.int .i64 m.S.e)).setCell ⟨g, 3, none⟩ (.bool m.W.s)).setCell ⟨g, 4, none⟩ (.slice m.W.A m.W.n m.W.c)).setCell ⟨g, 5, none⟩ (.int .i64 m.W.e)).setCell ⟨g, 6, none⟩ (.bool m.C.s)).setCell ⟨g, 7, none⟩ (.slice m.C.A m.C.n m.C.c)).setCell ⟨g, 8, none⟩ (.int .i64 m.C.e)).setCell ⟨g, 9, none⟩ (.bool m.A.s)).setCell ⟨g, 10, none⟩ (.slice m.A.A m.A.n m.A.c)).setCell ⟨g, 11, none⟩ (.int .i64 m.A.e)) :=
  ((((((((((((KeepsOthers.refl _).trans (KeepsOthers.setCell _ _ _)).trans (KeepsOthers.setCell _ _ _)).trans (KeepsOthers.setCell _ _ _)).trans (KeepsOthers.setCell _ _ _)).trans (KeepsOthers.setCell _ _ _)).trans (KeepsOthers.setCell _ _ _)).trans (KeepsOthers.setCell _ _ _)).trans (KeepsOthers.setCell _ _ _)).trans (KeepsOthers.setCell _ _ _)).trans (KeepsOthers.setCell _ _ _)).trans (KeepsOthers.setCell _ _ _)).trans (KeepsOthers.setCell _ _ _)
theorem rows_all {w : World} {g lo hi : Nat} {m' : Mv} (h : MRows w lo hi m') (hg : g < lo ∨ hi ≤ g) (m : Mv) : MRows ((((((((((((w.setCell ⟨g, 0, none⟩ (.bool m.S.s)).setCell ⟨g, 1, none⟩ (.slice m.S.A m.S.n m.S.c)).setCell ⟨g, 2, none⟩ (.int .i64 m.S.e)).setCell ⟨g, 3, none⟩ (.bool m.W.s)).setCell ⟨g, 4, none⟩ (.slice m.W.A m.W.n m.W.c)).setCell ⟨g, 5, none⟩ (.int .i64 m.W.e)).setCell ⟨g, 6, none⟩ (.bool m.C.s)).setCell ⟨g, 7, none⟩ (.slice m.C.A m.C.n m.C.c)).setCell ⟨g, 8, none⟩ (.int .i64 m.C.e)).setCell ⟨g, 9, none⟩ (.bool m.A.s)).setCell ⟨g, 10, none⟩ (.slice m.A.A m.A.n m.A.c)).setCell ⟨g, 11, none⟩ (.int .i64 m.A.e)) lo hi m' :=
  ⟨ints_far (ints_far (ints_far (ints_far (ints_far (ints_far (ints_far (ints_far (ints_far (ints_far (ints_far (ints_far (show Ints _ _ _ _ _ _ _ from h.S) hg _) hg _) hg _) hg _) hg _) hg _) hg _) hg _) hg _) hg _) hg _) hg _, ints_far (ints_far (ints_far (ints_far (ints_far (ints_far (ints_far (ints_far (ints_far (ints_far (ints_far (ints_far (show Ints _ _ _ _ _ _ _ from h.W) hg _) hg _) hg _) hg _) hg _) hg _) hg _) hg _) hg _) hg _) hg _) hg _, ints_far (ints_far (ints_far (ints_far (ints_far (ints_far (ints_far (ints_far (ints_far (ints_far (ints_far (ints_far (show Ints _ _ _ _ _ _ _ from h.C) hg _) hg _) hg _) hg _) hg _) hg _) hg _) hg _) hg _) hg _) hg _) hg _, ints_far (ints_far (ints_far (ints_far (ints_far (ints_far (ints_far (ints_far (ints_far (ints_far (ints_far (ints_far (show Ints _ _ _ _ _ _ _ from h.A) hg _) hg _) hg _) hg _) hg _) hg _) hg _) hg _) hg _) hg _) hg _) hg _⟩
def ZM : Mv := ⟨⟨false, none, 0, 0, 0, []⟩, ⟨false, none, 0, 0, 0, []⟩, ⟨false, none, 0, 0, 0, []⟩, ⟨false, none, 0, 0, 0, []⟩⟩
/-- A twin: the same but for where it lies. -/
def TwinV (d d' : Dv) : Prop := d'.s = d.s ∧ d'.n = d.n ∧ d'.e = d.e ∧ d'.xs = d.xs ∧ d'.n ≤ d'.c
theorem ints_own {W W' : World} {row : Option Nat} {lo hi : Nat} {k : IntKind} {A : Option Addr} {n : Nat} {xs : List Int} (h : Ints W lo hi k A n xs) (hg : W.grownBy W' row) (hr : ∀ r, row = some r → (∃ o : Obj, W.heap[r]? = some o ∧ o.isCells = false) ∨ r < lo) : Ints W' lo hi k A n xs :=
  ⟨h.len, h.wf, h.big, fun h0 => by
    obtain ⟨b, off, e, h1, h2, hc⟩ := h.row h0
    have hlt := World.block_lt_of_cell? W _ (hc 0 h0).1
    have h3 : W'.heap[b]? = W.heap[b]? := hg.block b hlt fun e' => by
      rcases hr b e'.symm with ⟨o, h4, h5⟩ | h4
      · have := (hc 0 h0).1
        rw [World.cell?] at this
        simp only [h4] at this
        cases o <;> simp_all [Obj.isCells]
      · omega
    exact ⟨b, off, e, h1, h2, fun j hj => ⟨by rw [World.cell?_of_block h3]; exact (hc j hj).1, by rw [World.frozen?_of_block h3]; exact (hc j hj).2⟩⟩⟩
theorem boxes4 (w : World) (o1 o2 o3 o4 : Obj) {w1 : World} (hw : (((w.alloc o1).alloc o2).alloc o3).alloc o4 = w1) :
    (w1.heap[w.heap.size]? = some o1 ∧ w1.heap[w.heap.size + 1]? = some o2 ∧ w1.heap[w.heap.size + 1 + 1]? = some o3 ∧ w1.heap[w.heap.size + 1 + 1 + 1]? = some o4) ∧ Below w.heap.size w w1 ∧ w.heap.size + 4 ≤ w1.heap.size ∧ w1.heap.size ≤ w.heap.size + 4 := by
  obtain ⟨h1, h2, h3, h4, h5⟩ := boxes2 w o1 o2 rfl
  obtain ⟨k1, k2, k3, k4, k5⟩ := boxes2 ((w.alloc o1).alloc o2) o3 o4 rfl
  subst hw
  have e : ((w.alloc o1).alloc o2).heap.size = w.heap.size + 1 + 1 := by simp
  rw [e] at k1 k2
  exact ⟨⟨heapN k3 h1, heapN k3 h2, k1, k2⟩, h3.trans (k3.mono (by omega)), by omega, by omega⟩
theorem grown_putD (w : World) (D : Nat) : w.grownBy (w.putObj D (.deferred none)) (some D) := ⟨rfl, rfl, rfl, by simp, fun k _ hk => World.putObj_heap_other (fun e => hk (by rw [e]))⟩
/-- What stands amid mass.Twin's rounds. -/
structure TwI (w : World) (B : Nat) (m : Mv) (pre : List Nat) (O : Nat → Prop) (W : World) (m' : Mv) : Prop where
  own : O w.heap.size
  box : MBox W w.heap.size m'
  res : MBox W (w.heap.size + 1) ZM
  done : ∀ j, j ∈ pre → j < 4 → TwinV (m.get j) (m'.get j) ∧ Ints W B W.heap.size .u32 (m'.get j).A (m'.get j).n (m'.get j).xs
  rest : ∀ j, j ∉ pre → j < 4 → m'.get j = m.get j
  bel : Below w.heap.size w W
set_option maxHeartbeats 6400000 in
set_option maxRecDepth 100000 in
/-- mass.Twin. -/
theorem MTwin_any (w : World) (m : Mv) (hR : MRows w 0 w.heap.size m) (hn : ∀ x, x < 4 → (m.get x).n ≤ 1000000) :
    Calls Tryd.prog 58 #[.agg #[.bool m.S.s, .slice m.S.A m.S.n m.S.c, .int .i64 m.S.e, .bool m.W.s, .slice m.W.A m.W.n m.W.c, .int .i64 m.W.e, .bool m.C.s, .slice m.C.A m.C.n m.C.c, .int .i64 m.C.e, .bool m.A.s, .slice m.A.A m.A.n m.A.c, .int .i64 m.A.e]] w fun e w' => ∃ m', e = .returned (.agg #[.bool m'.S.s, .slice m'.S.A m'.S.n m'.S.c, .int .i64 m'.S.e, .bool m'.W.s, .slice m'.W.A m'.W.n m'.W.c, .int .i64 m'.W.e, .bool m'.C.s, .slice m'.C.A m'.C.n m'.C.c, .int .i64 m'.C.e, .bool m'.A.s, .slice m'.A.A m'.A.n m'.A.c, .int .i64 m'.A.e]) ∧ (∀ x, x < 4 → TwinV (m.get x) (m'.get x)) ∧ Below w.heap.size w w' ∧ MRows w' w.heap.size w'.heap.size m' := by
  refine (callsIn_wide (n := 5)).1 ?_
  refine callsIn_of_wp_marks Tryd.func58 rfl trivial ?_ rfl
  simp only [Tryd.ntmps58, List.size_toArray, List.length_cons, List.length_nil, Nat.reduceAdd, Nat.reduceSub, Array.replicate_succ, Array.replicate_zero, List.push_toArray, List.append_toArray, List.nil_append, List.cons_append]
  gi_wp2_with fail
  refine ⟨trivial, (callsIn_wide.2 (parts_any _ _ _)).mono ?_⟩
  rintro e w2 ⟨rfl, rfl⟩
  gi_wp2_with fail
  obtain ⟨W0, hW0⟩ : ∃ W0, (((w.alloc (.cells #[.bool m.S.s, .slice m.S.A m.S.n m.S.c, .int .i64 m.S.e, .bool m.W.s, .slice m.W.A m.W.n m.W.c, .int .i64 m.W.e, .bool m.C.s, .slice m.C.A m.C.n m.C.c, .int .i64 m.C.e, .bool m.A.s, .slice m.A.A m.A.n m.A.c, .int .i64 m.A.e] 39)).alloc (.cells #[.bool false, .slice none 0 0, .int .i64 0, .bool false, .slice none 0 0, .int .i64 0, .bool false, .slice none 0 0, .int .i64 0, .bool false, .slice none 0 0, .int .i64 0] 39)).alloc (.cells #[.pointer (some ⟨w.heap.size, 0, none⟩)] 104)).alloc (.cells #[.pointer (some ⟨w.heap.size, 0, none⟩)] 104) = W0 := ⟨_, rfl⟩
  obtain ⟨⟨hM0, hE0, hS1, hS2⟩, hB0, hlo, hhi⟩ := boxes4 w _ _ _ _ hW0
  rw [hW0]
  clear hW0
  refine wpIn_rangeFunc_sep2 (F := Fence.wide) rfl (by decide) (gf := 108) (lb := #[.pointer (some ⟨w.heap.size + 1 + 1, 0, none⟩), .pointer (some ⟨w.heap.size + 1 + 1 + 1, 0, none⟩)]) rfl trivial (enters_of Tryd.func108 (by kernel_rfl) rfl)
    (parts_seq _ _ _ w.heap.size w.heap.size W0 ⟨hS1, hS2⟩) (by omega) (fun _ => rfl)
    (fun pre O W => W0.heap.size ≤ W.heap.size ∧ ∃ m', TwI w W0.heap.size m pre O W m')
    (fun _ _ _ _ => False)
    (fun O s A B row hs hg hr => by
      obtain ⟨hsz, m', h⟩ := hs
      exact ⟨Nat.le_trans hsz hg.size, m', h.own, heap_own h.box hg (fun r e => (hr r e).2), heap_own h.res hg (fun r e => (hr r e).2), fun j h1 h2 => ⟨(h.done j h1 h2).1, (ints_own (h.done j h1 h2).2 hg (fun r e => .inl (hr r e).2)).more (Nat.le_refl _) hg.size⟩, h.rest, h.bel.grown hg h.bel.size (fun k e => by have := (hr k e).1; omega)⟩)
    (fun j O s A B row hs hg hr => hs)
    (fun s O A B row hs hg hr => by
      obtain ⟨hsz, m', h⟩ := hs
      exact ⟨Nat.le_trans hsz hg.size, m', h.own, heap_loose h.box hg hr (by omega), heap_loose h.res hg hr (by omega), fun j h1 h2 => ⟨(h.done j h1 h2).1, (ints_own (h.done j h1 h2).2 hg (fun r e => .inr (by have := hr r e; omega))).more (Nat.le_refl _) hg.size⟩, h.rest, below_loose h.bel (Nat.le_refl _) hg hr (by omega)⟩)
    (fun j s O A B row hs hg hr => hs)
    (fun k => k = w.heap.size) (fun k hk e => by omega) (fun k e => by omega) ⟨Nat.le_refl _, m, rfl, hM0, hE0, (fun x hx => absurd hx (List.not_mem_nil)), fun _ _ _ => rfl, hB0⟩
    (fun x a' W => a' = { tmps := #[.agg #[.bool m.S.s, .slice m.S.A m.S.n m.S.c, .int .i64 m.S.e, .bool m.W.s, .slice m.W.A m.W.n m.W.c, .int .i64 m.W.e, .bool m.C.s, .slice m.C.A m.C.n m.C.c, .int .i64 m.C.e, .bool m.A.s, .slice m.A.A m.A.n m.A.c, .int .i64 m.A.e], .pointer (some ⟨w.heap.size, 0, none⟩), .pointer (some ⟨w.heap.size + 1, 0, none⟩), .pointer (some ⟨w.heap.size, 3 * x, none⟩),
      .func (.func 108) #[] #[.pointer (some ⟨w.heap.size + 1 + 1, 0, none⟩), .pointer (some ⟨w.heap.size + 1 + 1 + 1, 0, none⟩)], .pointer (some ⟨w.heap.size, 3 * x, none⟩), .pointer (some ⟨w.heap.size, 3 * x, none⟩), undef, undef, undef, undef, undef, undef, undef], defers := [] })
    (fun x a' _ _ _ _ h _ _ => h) ?assign ?body ?done ?stop
  case assign =>
    intro l pre x O W K hgx hsW hi hK
    unfold encM
    gi_wp2
    exact hK _ _ (KeepsFrom.refl _ _) (Gain.refl _ _) hi rfl
  case body =>
    rintro l pre x O a' W ⟨hx4, hpre⟩ hsW ⟨hsz, m', h⟩ rfl _
    have hnin : x ∉ pre := fun hin => by
      rw [hpre] at hin
      exact Nat.lt_irrefl x (List.mem_range.1 hin)
    have hmx := h.rest x hnin hx4
    have hrow : Ints W 0 W.heap.size .u32 (m.get x).A (m.get x).n (m.get x).xs := ((hR.get x).below h.bel (Nat.le_refl _)).more (Nat.le_refl _) h.bel.size
    have hn' := hn x hx4
    have hcm := MBox.at_ h.box hx4
    rw [hmx] at hcm
    generalize hd : m.get x = d at hcm hrow hn' hmx
    have HD := Lib.hid hd
    have HMX := Lib.hid hmx
    clear hd hmx
    obtain ⟨⟨k1, k2, k3⟩, k4, k5, k6⟩ := hcm
    gi_wp2_with fail
    refine ⟨trivial, (CallsIn.inRound l (callsIn_wide.2 (Pa.dyadTwin_any W d.s d.A d.n d.c d.xs d.e hrow hn'))).mono ?_⟩
    rintro e W2 ⟨A', c', rfl, hc', hB, hlt, hI⟩
    have hM2 := box_on h.box hB (by omega)
    have hcm2 := MBox.at_ (m := m') hM2 hx4
    rw [HMX.out] at hcm2
    obtain ⟨⟨j1, j2, j3⟩, j4, j5, j6⟩ := hcm2
    clear k1 k2 k3 k4 k5 k6
    gi_wp2
    have hb2 := h.bel.trans (hB.mono h.bel.size)
    have hs2 := h.bel.size
    have hs3 := hB.size
    refine ⟨(keeps_below hB).trans (((KeepsOthers.setCell _ _ _).trans (KeepsOthers.setCell _ _ _)).trans (KeepsOthers.setCell _ _ _) |>.from _), O, (gain_below hB).trans (((gain_set h.own _).trans (gain_set h.own _)).trans (gain_set h.own _)), by simp [World.setCell]; omega, m'.put x ⟨d.s, A', d.n, c', d.e, d.xs⟩, h.own, MBox.put hM2 hx4 ⟨d.s, A', d.n, c', d.e, d.xs⟩, ?_, fun j hj hj4 => ?_, fun j hj hj4 => ?_, ((hb2.setCell (Nat.le_refl _) _).setCell (Nat.le_refl _) _).setCell (Nat.le_refl _) _⟩
    · exact (Below.heap_setCell _ _ _ _ (by simp)).trans ((Below.heap_setCell _ _ _ _ (by simp)).trans ((Below.heap_setCell _ _ _ _ (by simp)).trans (box_on h.res hB (by omega))))
    · rw [put_get hx4 hj4]
      have hsz3 : (((W2.setCell ⟨w.heap.size, 3 * x, none⟩ (.bool d.s)).setCell ⟨w.heap.size, 3 * x + 1, none⟩ (.slice A' d.n c')).setCell ⟨w.heap.size, 3 * x + 2, none⟩ (.int .i64 d.e)).heap.size = W2.heap.size := by simp [World.setCell]
      by_cases e : j = x
      · rw [if_pos e, e, HD.out]
        refine ⟨⟨rfl, rfl, rfl, rfl, hc'⟩, ?_⟩
        exact (ints_far (ints_far (ints_far (hI.more (by omega) (Nat.le_refl _)) (.inl (by show w.heap.size < W0.heap.size; omega)) _) (.inl (by show w.heap.size < W0.heap.size; omega)) _) (.inl (by show w.heap.size < W0.heap.size; omega)) _).more (Nat.le_refl _) (by rw [hsz3]; exact Nat.le_refl _)
      · rw [if_neg e]
        have hjp : j ∈ pre := by
          rcases List.mem_append.1 hj with h1 | h1
          · exact h1
          · exact absurd (List.mem_singleton.1 h1) e
        refine ⟨(h.done j hjp hj4).1, ?_⟩
        exact (ints_far (ints_far (ints_far ((h.done j hjp hj4).2.below hB (Nat.le_refl _)) (.inl (by show w.heap.size < W0.heap.size; omega)) _) (.inl (by show w.heap.size < W0.heap.size; omega)) _) (.inl (by show w.heap.size < W0.heap.size; omega)) _).more (Nat.le_refl _) (by rw [hsz3]; omega)
    · have h1 : j ∉ pre := fun h1 => hj (List.mem_append_left _ h1)
      have e : j ≠ x := fun e => hj (by rw [e]; exact List.mem_append_right _ (List.mem_singleton.2 rfl))
      rw [put_get hx4 hj4, if_neg e]
      exact h.rest j h1 hj4
  case done =>
    rintro D ys O W hD hS ⟨hsz, m', h⟩ hK
    obtain ⟨⟨k0, k1, k2, k3, k4, k5, k6, k7, k8, k9, k10, k11⟩, kf⟩ := MBox.cells h.box
    obtain ⟨⟨z0, z1, z2, z3, z4, z5, z6, z7, z8, z9, z10, z11⟩, zf⟩ := MBox.cells h.res
    have hall : ∀ x, x < 4 → TwinV (m.get x) (m'.get x) ∧ Ints W W0.heap.size W.heap.size .u32 (m'.get x).A (m'.get x).n (m'.get x).xs := fun x hx => h.done x (by rw [hS]; simp; omega) hx
    have hbel := h.bel
    have hres := h.res
    clear h hS
    gi_wp2
    have hK' := (keeps_all (w := W) (g := w.heap.size + 1) m').same D _ hK rfl
    have hR' : MRows W W0.heap.size W.heap.size m' := ⟨(hall 0 (by decide)).2, (hall 1 (by decide)).2, (hall 2 (by decide)).2, (hall 3 (by decide)).2⟩
    have hX := MBox.all hres m'
    have hY := below_all hbel (show w.heap.size ≤ w.heap.size + 1 by omega) m'
    have hZ := rows_all hR' (g := w.heap.size + 1) (.inl (by omega)) m'
    have hs := size_all (w := W) (g := w.heap.size + 1) m'
    clear k0 k1 k2 k3 k4 k5 k6 k7 k8 k9 k10 k11 kf z0 z1 z2 z3 z4 z5 z6 z7 z8 z9 z10 z11 zf
    generalize ((((((((((((W.setCell ⟨w.heap.size + 1, 0, none⟩ (.bool m'.S.s)).setCell ⟨w.heap.size + 1, 1, none⟩ (.slice m'.S.A m'.S.n m'.S.c)).setCell ⟨w.heap.size + 1, 2, none⟩ (.int .i64 m'.S.e)).setCell ⟨w.heap.size + 1, 3, none⟩ (.bool m'.W.s)).setCell ⟨w.heap.size + 1, 4, none⟩ (.slice m'.W.A m'.W.n m'.W.c)).setCell ⟨w.heap.size + 1, 5, none⟩ (.int .i64 m'.W.e)).setCell ⟨w.heap.size + 1, 6, none⟩ (.bool m'.C.s)).setCell ⟨w.heap.size + 1, 7, none⟩ (.slice m'.C.A m'.C.n m'.C.c)).setCell ⟨w.heap.size + 1, 8, none⟩ (.int .i64 m'.C.e)).setCell ⟨w.heap.size + 1, 9, none⟩ (.bool m'.A.s)).setCell ⟨w.heap.size + 1, 10, none⟩ (.slice m'.A.A m'.A.n m'.A.c)).setCell ⟨w.heap.size + 1, 11, none⟩ (.int .i64 m'.A.e)) = V at *
    have hX2 : MBox (V.putObj D (.deferred none)) (w.heap.size + 1) m' := (World.putObj_heap_other (o := .deferred none) (by omega : w.heap.size + 1 ≠ D)).trans hX
    obtain ⟨⟨k0, k1, k2, k3, k4, k5, k6, k7, k8, k9, k10, k11⟩, kf⟩ := MBox.cells hX2
    refine ⟨by simp, .inl ⟨_, _, rfl, run_takeDeferred hK', ?_⟩⟩
    refine ⟨.agg #[.bool m'.S.s, .slice m'.S.A m'.S.n m'.S.c, .int .i64 m'.S.e, .bool m'.W.s, .slice m'.W.A m'.W.n m'.W.c, .int .i64 m'.W.e, .bool m'.C.s, .slice m'.C.A m'.C.n m'.C.c, .int .i64 m'.C.e, .bool m'.A.s, .slice m'.A.A m'.A.n m'.A.c, .int .i64 m'.A.e], ?_, m', rfl, ?_⟩
    · simp [results, Tryd.f58, go_sem, k0, k1, k2, k3, k4, k5, k6, k7, k8, k9, k10, k11]
    · refine ⟨fun x hx => (hall x hx).1, hY.trans (belowK_b (w := w) (Nat.le_refl _) _ D _ _ (by omega) hK' rfl rfl), ?_⟩
      have hp : ∀ k, k ≠ D → (V.putObj D (.deferred none)).heap[k]? = V.heap[k]? := fun k hk => World.putObj_heap_other hk
      have hdD : D < V.heap.size := lt_of_heap hK'
      have rr : ∀ x, x < 4 → Ints (V.putObj D (.deferred none)) W0.heap.size W.heap.size .u32 (m'.get x).A (m'.get x).n (m'.get x).xs := fun x _ => ints_own (hZ.get x) (grown_putD V D) (fun r e => by
        injection e with e
        exact .inl ⟨_, e ▸ hK', rfl⟩)
      have hsz2 : (V.putObj D (.deferred none)).heap.size = V.heap.size := by simp
      have hs' : V.heap.size = W.heap.size := hs
      exact MRows.more ⟨rr 0 (by decide), rr 1 (by decide), rr 2 (by decide), rr 3 (by decide)⟩ (by omega) (by omega)
  case stop =>
    rintro D j pre O W hD hSp hf hK
    exact hf.elim
end Ma
end Go.Proofs.YtlbkepiflhchdaaDoor
namespace Go.Proofs.YtlbkepiflhchdaaDoor
open Go.RowKit
namespace Dy
open Dp
theorem all_range (xs ys : List Int) : ∀ (n : Nat), xs.length = n → ys.length = n → ((List.range n).all fun i => xs.getD i 0 == ys.getD i 0) = (xs == ys)
  | n, hx, hy => by
    subst hx
    revert ys
    induction xs with
    | nil => intro ys hy; have : ys = [] := List.eq_nil_of_length_eq_zero hy; subst this; rfl
    | cons x xs ih =>
      intro ys hy
      cases ys with
      | nil => simp at hy
      | cons y ys =>
        have h := ih ys (by simpa using hy)
        rw [List.length_cons, List.range_succ_eq_map, List.all_cons, List.all_map]
        simp only [List.getD_cons_zero, Function.comp_def, List.getD_cons_succ, h]
        simp [List.cons_beq_cons]
theorem run_equalIn_rows {P : Program} (w : World) (d : Nat) (t e : TypeId) (n : Nat) (ht : P.underlying t = some (.array n e)) (he : P.underlying e = some (.int .u32)) (hsz : ∀ w, (sizeOf e).run P w = .ok 1 w)
    (xs ys : List Int) (hx : xs.length = n) (hy : ys.length = n) :
    (Op.equalIn (d + 2) t (.agg (rowU xs)) (.agg (rowU ys))).run P w = .ok (xs == ys) w := by
  rw [← all_range xs ys n hx hy, List.range_eq_range', Op.equalIn]
  simp only [Sem.run_bind, run_underlying ht, Result.andThen_ok, hsz, Std.Legacy.Range.forIn_eq_forIn_range', Std.Legacy.Range.size, Nat.sub_zero, Nat.add_sub_cancel, Nat.div_one]
  have hl : ∀ i ∈ List.range' 0 n 1, i < n := fun i hi => by simpa using (List.mem_range'_1.1 hi).2
  generalize List.range' 0 n 1 = l at hl ⊢
  induction l with
  | nil => simp
  | cons i l ih =>
    have hi : i < n := hl i (by simp)
    have px : (Go.part e (rowU xs) (i * 1)).run P w = .ok (.int .u32 (xs.getD i 0)) w := by
      simp [Go.part, isAgg, run_underlying he, rowU, List.getD, List.getElem?_eq_getElem (show i < xs.length by omega)]
    have py : (Go.part e (rowU ys) (i * 1)).run P w = .ok (.int .u32 (ys.getD i 0)) w := by
      simp [Go.part, isAgg, run_underlying he, rowU, List.getD, List.getElem?_eq_getElem (show i < ys.length by omega)]
    have pe : (Op.equalIn (d + 1) e (.int .u32 (xs.getD i 0)) (.int .u32 (ys.getD i 0))).run P w = .ok (xs.getD i 0 == ys.getD i 0) w :=
      run_equalIn_int w d e .u32 .u32 _ _ he
    simp only [List.forIn_cons, Sem.run_bind, px, py, pe, Result.andThen_ok, List.all_cons]
    cases hb : (xs.getD i 0 == ys.getD i 0)
    · simp
    · simp only [Bool.not_true, Bool.false_eq_true, if_false, Sem.run_pure, Result.andThen_ok, Bool.true_and]
      exact ih fun j hj => hl j (by simp [hj])
theorem rows_zero {vs : List Int} (hl : vs.length = 74) (hd : Dig 4294967296 vs) : (vs == zero74) = decide (num 4294967296 vs = 0) := by
  have hz : num 4294967296 zero74 = 0 := num_zeros _ _
  have hzd : Dig 4294967296 zero74 := dig_zeros 74
  by_cases h : num 4294967296 vs = 0
  · have he : vs = zero74 := by
      apply List.ext_getElem
      · rw [hl]; simp [zero74]
      · intro j h1 h2
        have k1 := digit (by decide) hd j
        have k2 := digit (by decide) hzd j
        rw [h] at k1
        rw [hz] at k2
        rw [List.getElem?_eq_getElem h1] at k1
        rw [List.getElem?_eq_getElem h2] at k2
        simp only [Option.getD_some] at k1 k2
        rw [k1, k2]
    simp [he, hz]
  · have he : vs ≠ zero74 := fun e => h (by rw [e]; exact hz)
    simp [h, he]
theorem eql_zero (w : World) (vs : List Int) (hl : vs.length = 74) (hd : Dig 4294967296 vs) (r : Bool) (hr : decide (num 4294967296 vs = 0) = r) :
    (Op.equalIn 10000 81 (.agg (rowU vs)) (.agg (rowU zero74))).run Tryd.prog w = .ok r w := by
  rw [← hr, ← rows_zero hl hd]
  exact run_equalIn_rows w 9998 81 52 74 Tryd.underlying81 Tryd.underlying52 (fun w => by kernel_rfl) vs zero74 hl (by simp [zero74])
theorem built_wide : Tryd.prog.built 81 [] = some (rowU zero74) := by
  have h1 := Tryd.info81
  have h2 := infoU32
  unfold Program.built
  cases hi : Tryd.prog.info? 81 with
  | none => rw [hi] at h1; cases h1
  | some it =>
    cases hj : Tryd.prog.info? 52 with
    | none => rw [hj] at h2; cases h2
    | some ie =>
      rw [hi] at h1
      simp only [Option.map_some, Option.some.injEq, Prod.mk.injEq] at h1
      rw [Tryd.underlying81]
      simp only [h1.1, hj]
      rfl
theorem wpList_build0 {ops : Array Oper} {rest : List Oper} {o : Oper} {a : Act} {w : World} {Q : Exit → Act → World → Prop} (hg : o.guard = none) (ho : o.op = .build 81 #[])
    (h : wpList Tryd.prog ops Q rest (a.put o.dst (.agg (rowU zero74))) w) : wpList Tryd.prog ops Q (o :: rest) a w := by
  have e : ((#[] : Array (Nat × Operand)).map fun (i, x) => (i, a.eval x)).toList = [] := by simp
  refine wpList_build hg 81 #[] ho (by rw [e, built_wide]; rfl) ?_
  rw [e, built_wide]
  exact h
end Dy
end Go.Proofs.YtlbkepiflhchdaaDoor
namespace Go.Proofs.YtlbkepiflhchdaaDoor
open Go.RowKit
namespace Dy
open Dp
set_option maxHeartbeats 6400000 in
set_option maxRecDepth 100000 in
/-- dyad.Cmp: dyads that may be. -/
theorem Cmp_ok (w : World) (a b : Dn) (ha : a.May) (hb : b.May) (A1 : Option Addr) (n1 c1 : Nat) (h1 : Ints w 0 w.heap.size .u32 A1 n1 (canon 4294967296 a.m)) (A2 : Option Addr) (n2 c2 : Nat) (h2 : Ints w 0 w.heap.size .u32 A2 n2 (canon 4294967296 b.m)) (hT : Tab w) (z : Int) (h : cmpD a b = z) :
    Calls Tryd.prog 39 #[.agg #[.bool a.neg, .slice A1 n1 c1, .int .i64 a.e], .agg #[.bool b.neg, .slice A2 n2 c2, .int .i64 b.e]] w fun e w' => e = .returned (.tuple #[.int .i64 z, .int .i64 0]) ∧ Below w.heap.size w w' := by
  have hn1 := ints_may h1 ha
  have hn2 := ints_may h2 hb
  have HM1 := Lib.hid (dn_may ha)
  have HM2 := Lib.hid (dn_may hb)
  have hae := ha.2.1
  have hbe := hb.2.1
  obtain ⟨sd1, _, sn1⟩ := canon_spec 4294967296 a.m (by decide)
  obtain ⟨sd2, _, sn2⟩ := canon_spec 4294967296 b.m (by decide)
  have SN1 := Lib.hid sn1
  have SN2 := Lib.hid sn2
  have H := Lib.hid h
  obtain ⟨M, hK⟩ : ∃ M, max a.e b.e = M := ⟨_, rfl⟩
  have HK := Lib.hid hK
  have hK1 : a.e ≤ M := by omega
  have hK2 : b.e ≤ M := by omega
  have hK3 : M ≤ 1024 := by omega
  have hkab : (a.e < b.e ∧ M = b.e) ∨ (¬ a.e < b.e ∧ M = a.e) := by omega
  generalize hm1 : canon 4294967296 a.m = xs1 at *
  generalize hm2 : canon 4294967296 b.m = xs2 at *
  clear h sn1 sn2 hK hm1 hm2
  generalize hw1 : (w.alloc (.cells #[.bool a.neg, .slice A1 n1 c1, .int .i64 a.e] 24)).alloc (.cells #[.bool b.neg, .slice A2 n2 c2, .int .i64 b.e] 24) = w1
  have hs1 : w1.heap.size = w.heap.size + 2 := by rw [← hw1]; simp
  have HS1 := Lib.hid hs1
  have hB1 : Below w.heap.size w w1 := by rw [← hw1]; exact ((Below.refl _ w).alloc (Nat.le_refl _) _).alloc (by simp) _
  have hb1 : w1.heap[w.heap.size]? = some (.cells #[.bool a.neg, .slice A1 n1 c1, .int .i64 a.e] 24 (0, 0)) := by
    rw [← hw1, Below.heap_alloc _ _ _ (by simp)]
    exact heap_alloc_last _ _
  have hb2 : w1.heap[w.heap.size + 1]? = some (.cells #[.bool b.neg, .slice A2 n2 c2, .int .i64 b.e] 24 (0, 0)) := by
    rw [← hw1]
    exact heap_alloc2_new _ _ _
  have g1 := h1.below hB1 (Nat.le_refl _)
  have g2 := h2.below hB1 (Nat.le_refl _)
  have hT1 := hT.below hB1 hT.lt
  have h0 := hT.lt
  clear hs1
  obtain ⟨⟨p0, p1, p2⟩, p3, p4, p5⟩ := boxD hb1
  obtain ⟨⟨q0, q1, q2⟩, q3, q4, q5⟩ := boxD hb2
  go_enter Tryd.func39, Tryd.ntmps39
  go_wp2_with fail
  refine (Check_ok w1 0 w.heap.size a.neg A1 n1 c1 xs1 a.e g1 (by have := HS1.out; omega) HM1.out).mono ?_
  rintro e w2 ⟨rfl, hB2⟩
  have hs2 := hB2.size
  replace g1 := g1.below hB2 (by have := HS1.out; omega)
  replace g2 := g2.below hB2 (by have := HS1.out; omega)
  replace hT1 := hT1.below hB2 (by have := HS1.out; omega)
  replace hb1 := (hB2.block _ (by have := HS1.out; omega)).trans hb1
  replace hb2 := (hB2.block _ (by have := HS1.out; omega)).trans hb2
  replace hB1 := hB1.trans (hB2.mono (by have := HS1.out; omega))
  clear hB2 p0 p1 p2 p3 p4 p5 q0 q1 q2 q3 q4 q5 hw1
  obtain ⟨⟨p0, p1, p2⟩, p3, p4, p5⟩ := boxD hb1
  obtain ⟨⟨q0, q1, q2⟩, q3, q4, q5⟩ := boxD hb2
  go_wp2_with fail
  refine (Check_ok w2 0 w.heap.size b.neg A2 n2 c2 xs2 b.e g2 (by have := HS1.out; omega) HM2.out).mono ?_
  rintro e w3 ⟨rfl, hB2⟩
  have hs3 := hB2.size
  replace g1 := g1.below hB2 (by have := HS1.out; omega)
  replace g2 := g2.below hB2 (by have := HS1.out; omega)
  replace hT1 := hT1.below hB2 (by have := HS1.out; omega)
  replace hb1 := (hB2.block _ (by have := HS1.out; omega)).trans hb1
  replace hb2 := (hB2.block _ (by have := HS1.out; omega)).trans hb2
  replace hB1 := hB1.trans (hB2.mono (by have := HS1.out; omega))
  clear hB2 p0 p1 p2 p3 p4 p5 q0 q1 q2 q3 q4 q5
  obtain ⟨⟨p0, p1, p2⟩, p3, p4, p5⟩ := boxD hb1
  obtain ⟨⟨q0, q1, q2⟩, q3, q4, q5⟩ := boxD hb2
  rcases hkab with ⟨hkl, hke⟩ | ⟨hkl, hke⟩
  · have HKE := Lib.hid hke
    clear hke
    go_wp2_with fail
    refine (of_any w3 0 w.heap.size a.neg A1 n1 c1 xs1 a.e (M - a.e) g1 (by have := HS1.out; omega) sd1 hn1 (by omega) (by omega) _ (by have := HKE.out; omega)).mono ?_
    rintro e w4 ⟨g, ws, rfl, hB4, hg1, hg2, hS4, hnw⟩
    have hs4 := hB4.size
    replace g1 := g1.below hB4 (by have := HS1.out; omega)
    replace g2 := g2.below hB4 (by have := HS1.out; omega)
    replace hT1 := hT1.below hB4 (by have := HS1.out; omega)
    replace hb1 := (hB4.block _ (by have := HS1.out; omega)).trans hb1
    replace hb2 := (hB4.block _ (by have := HS1.out; omega)).trans hb2
    replace hB1 := hB1.trans (hB4.mono (by have := HS1.out; omega))
    have HNW := Lib.hid hnw
    clear hB4 p0 p1 p2 p3 p4 p5 q0 q1 q2 q3 q4 q5 hnw
    go_wp2_with fail
    have hSS : w4.drew.heap[w.heap.size + 1]? = w4.heap[w.heap.size + 1]? := rfl
    refine region_E (fun w' => w'.heap[w.heap.size + 1]? = w4.heap[w.heap.size + 1]?) [] (m := 8) (L := #[false, false, false, false, false, false, false, false]) (by kernel_rfl) (by rfl) (by rfl) ?_
    refine pureE (i := 0) (L := #[true, false, false, false, false, false, false, false]) (v := ?_) rfl (by rfl) (by kernel_rfl) (by kernel_rfl) (by kernel_rfl) (fun _ _ _ h => h) (by rfl) ?hy9 ?rest9
    case hy9 => intro w; go_simp; (try with_reducible rfl)
    try simp only [Act.put, List.setIfInBounds_toArray, List.set_cons_zero, List.set_cons_succ]
    refine pureE (i := 1) (L := #[true, true, false, false, false, false, false, false]) (v := ?_) rfl (by rfl) (by kernel_rfl) (by kernel_rfl) (by kernel_rfl) (fun _ _ _ h => h) (by rfl) ?hy10 ?rest10
    case hy10 => intro w; go_simp; (try with_reducible rfl)
    try simp only [Act.put, List.setIfInBounds_toArray, List.set_cons_zero, List.set_cons_succ]
    refine readE (i := 2) (L := #[true, true, true, false, false, false, false, false]) (v := .bool b.neg) rfl (by rfl) (by kernel_rfl) (by kernel_rfl) (by kernel_rfl) (fun _ _ _ h => h) (by assumption) (by rfl) ?hyA1 ?restA1
    case hyA1 =>
      intro w' h1
      have k := (boxD (h1.trans hb2)).1.1
      go_simp
    try simp only [Act.put, List.setIfInBounds_toArray, List.set_cons_zero, List.set_cons_succ]
    refine pureE (i := 3) (L := #[true, true, true, true, false, false, false, false]) (v := ?_) rfl (by rfl) (by kernel_rfl) (by kernel_rfl) (by kernel_rfl) (fun _ _ _ h => h) (by rfl) ?hy12 ?rest12
    case hy12 => intro w; go_simp; (try with_reducible rfl)
    try simp only [Act.put, List.setIfInBounds_toArray, List.set_cons_zero, List.set_cons_succ]
    refine readE (i := 4) (L := #[true, true, true, true, true, false, false, false]) (v := .agg #[.bool b.neg, .slice A2 n2 c2, .int .i64 b.e]) rfl (by rfl) (by kernel_rfl) (by kernel_rfl) (by kernel_rfl) (fun _ _ _ h => h) (by assumption) (by rfl) ?hyB1 ?restB1
    case hyB1 =>
      intro w' h1
      obtain ⟨⟨k1, k2, k3⟩, _⟩ := boxD (h1.trans hb2)
      go_simp
    try simp only [Act.put, List.setIfInBounds_toArray, List.set_cons_zero, List.set_cons_succ]
    refine pureE (i := 5) (L := #[true, true, true, true, true, true, false, false]) (v := ?_) rfl (by rfl) (by kernel_rfl) (by kernel_rfl) (by kernel_rfl) (fun _ _ _ h => h) (by rfl) ?hy14 ?rest14
    case hy14 => intro w; go_simp; (try with_reducible rfl)
    try simp only [Act.put, List.setIfInBounds_toArray, List.set_cons_zero, List.set_cons_succ]
    refine stepK (i := 6) (L := #[true, true, true, true, true, true, true, false]) rfl (by rfl) (by kernel_rfl) (by rfl) (fun K hK => ?_)
    go_simp
    go_at_call 64
    refine (widen_any w4.drew 0 w.heap.size b.neg A2 n2 c2 xs2 b.e (M - b.e) (g2.drewN 1) (by show w.heap.size ≤ w4.heap.size; have := HS1.out; omega) sd2 hn2 (by omega) (by omega) _ (by have := HKE.out; omega)).mono ?_
    rintro e w5 ⟨us, rfl, hB5', hul, hud, hnu⟩
    have hB5 : Below w4.heap.size w4 w5 := (Below.refl _ w4).drew.trans hB5'
    clear hB5'
    have hs5 := hB5.size
    replace g1 := g1.below hB5 (by have := HS1.out; omega)
    replace hT1 := hT1.below hB5 (by have := HS1.out; omega)
    have hb2' := hB5.block (w.heap.size + 1) (by have := HS1.out; omega)
    replace hB1 := hB1.trans (hB5.mono (by have := HS1.out; omega))
    have hS5 := hS4.of_heap (hB5.block g hg2)
    have HNU := Lib.hid hnu
    clear hB5 hnu hS4
    refine hK _ _ ⟨fun _ _ => hb2', ?_⟩
    clear hK K
    try simp only [Act.put, List.setIfInBounds_toArray, List.set_cons_zero, List.set_cons_succ]
    obtain ⟨sr, mr, hpl⟩ : ∃ sr mr, plusS a.neg (num 4294967296 ws) (!b.neg) (num 4294967296 us) = (sr, mr) := ⟨_, _, rfl⟩
    have hroom : num 4294967296 ws + num 4294967296 us < 4294967296 ^ 74 := by
      rw [HNW.out, HNU.out, SN1.out, SN2.out]
      exact sum_room (shift_lt ha.1 (by omega)) (shift_lt hb.1 (by omega))
    have hcmp : z = if mr = 0 then 0 else if sr then -1 else 1 := by
      rw [← H.out]
      refine cmp_by a b (!b.neg) (fun _ => rfl) sr mr ?_
      rw [HK.out]
      rw [HNW.out, HNU.out, SN1.out, SN2.out] at hpl
      exact hpl
    have HPL := Lib.hid hpl
    have HR := Lib.hid hroom
    have HF := Lib.hid hcmp
    clear hpl hroom hcmp
    refine stepK (i := 7) (L := #[true, true, true, true, true, true, true, true]) rfl (by rfl) (by kernel_rfl) (by rfl) (fun K hK => ?_)
    go_simp
    go_at_call 63
    refine (add_any w5 g a.neg (!b.neg) _ _ ws us hS5 (by omega) hul hud HR.out sr mr HPL.out).mono ?_
    rintro e w6 ⟨rfl, hO6, vs, hS6, hnv⟩
    have hs6 := hO6.size
    replace g1 := g1
    have hB6 := hO6.below hB1 (by have := HS1.out; omega) (by have := HS1.out; omega)
    refine hK _ _ ⟨fun _ h => (hO6.block _ (by have := HS1.out; omega) (by have := HS1.out; omega)).trans h, ?_⟩
    clear hK K hO6 g1 hT1 hB1 hS5
    try simp only [Act.put, List.setIfInBounds_toArray, List.set_cons_zero, List.set_cons_succ]
    refine doneE (by kernel_rfl) ?_ _
    have hvl := hS6.len
    obtain ⟨⟨y0, y1, y2⟩, y3⟩ := And.intro hS6.head (hS6.free 0)
    by_cases hm0 : mr = 0
    · have hz0 : z = 0 := by rw [HF.out, if_pos hm0]
      subst hz0
      have heq := eql_zero w6 vs hvl hS6.dig true (by simp [hnv, hm0])
      go_wp2_with (first
        | (refine wpList_load_wide rfl (.tmp 34) rfl g 3 rfl vs hS6.row ?_)
        | (refine wpList_build0 rfl rfl ?_))
      go_ret2
      exact ⟨rfl, hB6⟩
    · have heq := eql_zero w6 vs hvl hS6.dig false (by simp [hnv, hm0])
      cases sr
      · have hz0 : z = 1 := by rw [HF.out, if_neg hm0]; rfl
        subst hz0
        go_wp2_with (first
          | (refine wpList_load_wide rfl (.tmp 34) rfl g 3 rfl vs hS6.row ?_)
          | (refine wpList_build0 rfl rfl ?_))
        go_ret2
        exact ⟨rfl, hB6⟩
      · have hz0 : z = -1 := by rw [HF.out, if_neg hm0]; rfl
        subst hz0
        go_wp2_with (first
          | (refine wpList_load_wide rfl (.tmp 34) rfl g 3 rfl vs hS6.row ?_)
          | (refine wpList_build0 rfl rfl ?_))
        go_ret2
        exact ⟨rfl, hB6⟩
  · have HKE := Lib.hid hke
    clear hke
    go_wp2_with fail
    refine (of_any w3 0 w.heap.size a.neg A1 n1 c1 xs1 a.e (M - a.e) g1 (by have := HS1.out; omega) sd1 hn1 (by omega) (by omega) _ (by have := HKE.out; omega)).mono ?_
    rintro e w4 ⟨g, ws, rfl, hB4, hg1, hg2, hS4, hnw⟩
    have hs4 := hB4.size
    replace g1 := g1.below hB4 (by have := HS1.out; omega)
    replace g2 := g2.below hB4 (by have := HS1.out; omega)
    replace hT1 := hT1.below hB4 (by have := HS1.out; omega)
    replace hb1 := (hB4.block _ (by have := HS1.out; omega)).trans hb1
    replace hb2 := (hB4.block _ (by have := HS1.out; omega)).trans hb2
    replace hB1 := hB1.trans (hB4.mono (by have := HS1.out; omega))
    have HNW := Lib.hid hnw
    clear hB4 p0 p1 p2 p3 p4 p5 q0 q1 q2 q3 q4 q5 hnw
    go_wp2_with fail
    have hSS : w4.drew.heap[w.heap.size + 1]? = w4.heap[w.heap.size + 1]? := rfl
    refine region_E (fun w' => w'.heap[w.heap.size + 1]? = w4.heap[w.heap.size + 1]?) [] (m := 8) (L := #[false, false, false, false, false, false, false, false]) (by kernel_rfl) (by rfl) (by rfl) ?_
    refine pureE (i := 0) (L := #[true, false, false, false, false, false, false, false]) (v := ?_) rfl (by rfl) (by kernel_rfl) (by kernel_rfl) (by kernel_rfl) (fun _ _ _ h => h) (by rfl) ?hy17 ?rest17
    case hy17 => intro w; go_simp; (try with_reducible rfl)
    try simp only [Act.put, List.setIfInBounds_toArray, List.set_cons_zero, List.set_cons_succ]
    refine pureE (i := 1) (L := #[true, true, false, false, false, false, false, false]) (v := ?_) rfl (by rfl) (by kernel_rfl) (by kernel_rfl) (by kernel_rfl) (fun _ _ _ h => h) (by rfl) ?hy18 ?rest18
    case hy18 => intro w; go_simp; (try with_reducible rfl)
    try simp only [Act.put, List.setIfInBounds_toArray, List.set_cons_zero, List.set_cons_succ]
    refine readE (i := 2) (L := #[true, true, true, false, false, false, false, false]) (v := .bool b.neg) rfl (by rfl) (by kernel_rfl) (by kernel_rfl) (by kernel_rfl) (fun _ _ _ h => h) (by assumption) (by rfl) ?hyA2 ?restA2
    case hyA2 =>
      intro w' h1
      have k := (boxD (h1.trans hb2)).1.1
      go_simp
    try simp only [Act.put, List.setIfInBounds_toArray, List.set_cons_zero, List.set_cons_succ]
    refine pureE (i := 3) (L := #[true, true, true, true, false, false, false, false]) (v := ?_) rfl (by rfl) (by kernel_rfl) (by kernel_rfl) (by kernel_rfl) (fun _ _ _ h => h) (by rfl) ?hy20 ?rest20
    case hy20 => intro w; go_simp; (try with_reducible rfl)
    try simp only [Act.put, List.setIfInBounds_toArray, List.set_cons_zero, List.set_cons_succ]
    refine readE (i := 4) (L := #[true, true, true, true, true, false, false, false]) (v := .agg #[.bool b.neg, .slice A2 n2 c2, .int .i64 b.e]) rfl (by rfl) (by kernel_rfl) (by kernel_rfl) (by kernel_rfl) (fun _ _ _ h => h) (by assumption) (by rfl) ?hyB2 ?restB2
    case hyB2 =>
      intro w' h1
      obtain ⟨⟨k1, k2, k3⟩, _⟩ := boxD (h1.trans hb2)
      go_simp
    try simp only [Act.put, List.setIfInBounds_toArray, List.set_cons_zero, List.set_cons_succ]
    refine pureE (i := 5) (L := #[true, true, true, true, true, true, false, false]) (v := ?_) rfl (by rfl) (by kernel_rfl) (by kernel_rfl) (by kernel_rfl) (fun _ _ _ h => h) (by rfl) ?hy22 ?rest22
    case hy22 => intro w; go_simp; (try with_reducible rfl)
    try simp only [Act.put, List.setIfInBounds_toArray, List.set_cons_zero, List.set_cons_succ]
    refine stepK (i := 6) (L := #[true, true, true, true, true, true, true, false]) rfl (by rfl) (by kernel_rfl) (by rfl) (fun K hK => ?_)
    go_simp
    go_at_call 64
    refine (widen_any w4.drew 0 w.heap.size b.neg A2 n2 c2 xs2 b.e (M - b.e) (g2.drewN 1) (by show w.heap.size ≤ w4.heap.size; have := HS1.out; omega) sd2 hn2 (by omega) (by omega) _ (by have := HKE.out; omega)).mono ?_
    rintro e w5 ⟨us, rfl, hB5', hul, hud, hnu⟩
    have hB5 : Below w4.heap.size w4 w5 := (Below.refl _ w4).drew.trans hB5'
    clear hB5'
    have hs5 := hB5.size
    replace g1 := g1.below hB5 (by have := HS1.out; omega)
    replace hT1 := hT1.below hB5 (by have := HS1.out; omega)
    have hb2' := hB5.block (w.heap.size + 1) (by have := HS1.out; omega)
    replace hB1 := hB1.trans (hB5.mono (by have := HS1.out; omega))
    have hS5 := hS4.of_heap (hB5.block g hg2)
    have HNU := Lib.hid hnu
    clear hB5 hnu hS4
    refine hK _ _ ⟨fun _ _ => hb2', ?_⟩
    clear hK K
    try simp only [Act.put, List.setIfInBounds_toArray, List.set_cons_zero, List.set_cons_succ]
    obtain ⟨sr, mr, hpl⟩ : ∃ sr mr, plusS a.neg (num 4294967296 ws) (!b.neg) (num 4294967296 us) = (sr, mr) := ⟨_, _, rfl⟩
    have hroom : num 4294967296 ws + num 4294967296 us < 4294967296 ^ 74 := by
      rw [HNW.out, HNU.out, SN1.out, SN2.out]
      exact sum_room (shift_lt ha.1 (by omega)) (shift_lt hb.1 (by omega))
    have hcmp : z = if mr = 0 then 0 else if sr then -1 else 1 := by
      rw [← H.out]
      refine cmp_by a b (!b.neg) (fun _ => rfl) sr mr ?_
      rw [HK.out]
      rw [HNW.out, HNU.out, SN1.out, SN2.out] at hpl
      exact hpl
    have HPL := Lib.hid hpl
    have HR := Lib.hid hroom
    have HF := Lib.hid hcmp
    clear hpl hroom hcmp
    refine stepK (i := 7) (L := #[true, true, true, true, true, true, true, true]) rfl (by rfl) (by kernel_rfl) (by rfl) (fun K hK => ?_)
    go_simp
    go_at_call 63
    refine (add_any w5 g a.neg (!b.neg) _ _ ws us hS5 (by omega) hul hud HR.out sr mr HPL.out).mono ?_
    rintro e w6 ⟨rfl, hO6, vs, hS6, hnv⟩
    have hs6 := hO6.size
    replace g1 := g1
    have hB6 := hO6.below hB1 (by have := HS1.out; omega) (by have := HS1.out; omega)
    refine hK _ _ ⟨fun _ h => (hO6.block _ (by have := HS1.out; omega) (by have := HS1.out; omega)).trans h, ?_⟩
    clear hK K hO6 g1 hT1 hB1 hS5
    try simp only [Act.put, List.setIfInBounds_toArray, List.set_cons_zero, List.set_cons_succ]
    refine doneE (by kernel_rfl) ?_ _
    have hvl := hS6.len
    obtain ⟨⟨y0, y1, y2⟩, y3⟩ := And.intro hS6.head (hS6.free 0)
    by_cases hm0 : mr = 0
    · have hz0 : z = 0 := by rw [HF.out, if_pos hm0]
      subst hz0
      have heq := eql_zero w6 vs hvl hS6.dig true (by simp [hnv, hm0])
      go_wp2_with (first
        | (refine wpList_load_wide rfl (.tmp 34) rfl g 3 rfl vs hS6.row ?_)
        | (refine wpList_build0 rfl rfl ?_))
      go_ret2
      exact ⟨rfl, hB6⟩
    · have heq := eql_zero w6 vs hvl hS6.dig false (by simp [hnv, hm0])
      cases sr
      · have hz0 : z = 1 := by rw [HF.out, if_neg hm0]; rfl
        subst hz0
        go_wp2_with (first
          | (refine wpList_load_wide rfl (.tmp 34) rfl g 3 rfl vs hS6.row ?_)
          | (refine wpList_build0 rfl rfl ?_))
        go_ret2
        exact ⟨rfl, hB6⟩
      · have hz0 : z = -1 := by rw [HF.out, if_neg hm0]; rfl
        subst hz0
        go_wp2_with (first
          | (refine wpList_load_wide rfl (.tmp 34) rfl g 3 rfl vs hS6.row ?_)
          | (refine wpList_build0 rfl rfl ?_))
        go_ret2
        exact ⟨rfl, hB6⟩
end Dy
end Go.Proofs.YtlbkepiflhchdaaDoor
namespace Go.Proofs.YtlbkepiflhchdaaDoor
open Go.RowKit
namespace Dy
open Dp
set_option maxHeartbeats 1600000 in
set_option maxRecDepth 100000 in
/-- dyad.Cmp: dyads that may not be. -/
theorem Cmp_bad (w : World) (s1 s2 : Bool) (A1 A2 : Option Addr) (n1 c1 n2 c2 : Nat) (xs1 xs2 : List Int) (e1 e2 : Int) (h1 : Ints w 0 w.heap.size .u32 A1 n1 xs1) (h2 : Ints w 0 w.heap.size .u32 A2 n2 xs2) (h : ¬ MayD s1 xs1 e1 ∨ ¬ MayD s2 xs2 e2) :
    Calls Tryd.prog 39 #[.agg #[.bool s1, .slice A1 n1 c1, .int .i64 e1], .agg #[.bool s2, .slice A2 n2 c2, .int .i64 e2]] w fun e w' => e = .returned (.tuple #[.int .i64 0, .int .i64 8]) ∧ Below w.heap.size w w' := by
  generalize hw1 : (w.alloc (.cells #[.bool s1, .slice A1 n1 c1, .int .i64 e1] 24)).alloc (.cells #[.bool s2, .slice A2 n2 c2, .int .i64 e2] 24) = w1
  have hs1 : w1.heap.size = w.heap.size + 2 := by rw [← hw1]; simp
  have HS1 := Lib.hid hs1
  have hB1 : Below w.heap.size w w1 := by rw [← hw1]; exact ((Below.refl _ w).alloc (Nat.le_refl _) _).alloc (by simp) _
  have hb1 : w1.heap[w.heap.size]? = some (.cells #[.bool s1, .slice A1 n1 c1, .int .i64 e1] 24 (0, 0)) := by
    rw [← hw1, Below.heap_alloc _ _ _ (by simp)]
    exact heap_alloc_last _ _
  have hb2 : w1.heap[w.heap.size + 1]? = some (.cells #[.bool s2, .slice A2 n2 c2, .int .i64 e2] 24 (0, 0)) := by
    rw [← hw1]
    exact heap_alloc2_new _ _ _
  have g1 := h1.below hB1 (Nat.le_refl _)
  have g2 := h2.below hB1 (Nat.le_refl _)
  clear hs1
  obtain ⟨⟨p0, p1, p2⟩, p3, p4, p5⟩ := boxD hb1
  obtain ⟨⟨q0, q1, q2⟩, q3, q4, q5⟩ := boxD hb2
  by_cases hm : MayD s1 xs1 e1
  · have hm2 := h.resolve_left (fun k => k hm)
    clear h
    go_enter Tryd.func39, Tryd.ntmps39
    go_wp2_with fail
    refine (Check_ok w1 0 w.heap.size s1 A1 n1 c1 xs1 e1 g1 (by have := HS1.out; omega) hm).mono ?_
    rintro e w2 ⟨rfl, hB2⟩
    have hs2 := hB2.size
    replace g2 := g2.below hB2 (by have := HS1.out; omega)
    replace hb2 := (hB2.block _ (by have := HS1.out; omega)).trans hb2
    replace hB1 := hB1.trans (hB2.mono (by have := HS1.out; omega))
    clear hB2 p0 p1 p2 p3 p4 p5 q0 q1 q2 q3 q4 q5 hw1 hm
    obtain ⟨⟨q0, q1, q2⟩, q3, q4, q5⟩ := boxD hb2
    go_wp2_with fail
    refine (Check_bad w2 0 w.heap.size s2 A2 n2 c2 xs2 e2 g2 (by have := HS1.out; omega) hm2).mono ?_
    rintro e w3 ⟨rfl, hB2⟩
    replace hB1 := hB1.trans (hB2.mono (by have := HS1.out; omega))
    clear hB2 q0 q1 q2 q3 q4 q5 hm2
    go_wp2
    go_ret2
    exact ⟨rfl, hB1⟩
  · clear h
    go_enter Tryd.func39, Tryd.ntmps39
    go_wp2_with fail
    refine (Check_bad w1 0 w.heap.size s1 A1 n1 c1 xs1 e1 g1 (by have := HS1.out; omega) hm).mono ?_
    rintro e w2 ⟨rfl, hB2⟩
    replace hB1 := hB1.trans (hB2.mono (by have := HS1.out; omega))
    clear hB2 p0 p1 p2 p3 p4 p5 q0 q1 q2 q3 q4 q5 hw1 hm
    go_wp2
    go_ret2
    exact ⟨rfl, hB1⟩
open Classical in
noncomputable def cmpX (s1 : Bool) (xs1 : List Int) (e1 : Int) (s2 : Bool) (xs2 : List Int) (e2 : Int) : Int × Int := if MayD s1 xs1 e1 ∧ MayD s2 xs2 e2 then (cmpD (dn s1 xs1 e1) (dn s2 xs2 e2), 0) else (0, 8)
theorem Cmp_all (w : World) (s1 s2 : Bool) (A1 A2 : Option Addr) (n1 c1 n2 c2 : Nat) (xs1 xs2 : List Int) (e1 e2 : Int) (h1 : Ints w 0 w.heap.size .u32 A1 n1 xs1) (h2 : Ints w 0 w.heap.size .u32 A2 n2 xs2) (hT : Tab w) (z code : Int) (h : cmpX s1 xs1 e1 s2 xs2 e2 = (z, code)) :
    Calls Tryd.prog 39 #[.agg #[.bool s1, .slice A1 n1 c1, .int .i64 e1], .agg #[.bool s2, .slice A2 n2 c2, .int .i64 e2]] w fun e w' => e = .returned (.tuple #[.int .i64 z, .int .i64 code]) ∧ Below w.heap.size w w' := by
  unfold cmpX at h
  split at h
  · rename_i hm
    injection h with h3 h4
    subst h4
    obtain ⟨y1, c1', k1⟩ := dn_ok (dig_ints h1) hm.1
    obtain ⟨y2, c2', k2⟩ := dn_ok (dig_ints h2) hm.2
    have := Cmp_ok w (dn s1 xs1 e1) (dn s2 xs2 e2) y1 y2 A1 n1 c1 (by rw [c1']; exact h1) A2 n2 c2 (by rw [c2']; exact h2) hT z h3
    rw [k1, k2] at this
    exact this
  · rename_i hm
    injection h with h3 h4
    subst h3 h4
    exact Cmp_bad w s1 s2 A1 A2 n1 c1 n2 c2 xs1 xs2 e1 e2 h1 h2 (Classical.not_and_iff_not_or_not.1 hm)
end Dy
end Go.Proofs.YtlbkepiflhchdaaDoor
