/- mass.Same in a seat whose set lacks it: a walk (printed by a program of mine). -/
import Derived.Test.YtmbppgjhdcmckaaGreatDoorQuRootZg
namespace Go.Proofs.YtmbppgjhdcmckaaGreatDoor
open Go.RowKit
namespace Ma
open Dp Dy
attribute [local go_sem] Oper.semAt_some
set_option maxHeartbeats 25600000 in
set_option maxRecDepth 100000 in
theorem MSame_anyP (w : World) (a b : Mv) (hA : MRows w 0 w.heap.size a) (hBb : MRows w 0 w.heap.size b) (k : Bool) (hk : sameM a b = k) :
    Calls Tryz.prog 163 #[.agg #[.bool a.S.s, .slice a.S.A a.S.n a.S.c, .int .i64 a.S.e, .bool a.W.s, .slice a.W.A a.W.n a.W.c, .int .i64 a.W.e, .bool a.C.s, .slice a.C.A a.C.n a.C.c, .int .i64 a.C.e, .bool a.A.s, .slice a.A.A a.A.n a.A.c, .int .i64 a.A.e], .agg #[.bool b.S.s, .slice b.S.A b.S.n b.S.c, .int .i64 b.S.e, .bool b.W.s, .slice b.W.A b.W.n b.W.c, .int .i64 b.W.e, .bool b.C.s, .slice b.C.A b.C.n b.C.c, .int .i64 b.C.e, .bool b.A.s, .slice b.A.A b.A.n b.A.c, .int .i64 b.A.e]] w fun e w' => e = .returned (.bool k) ∧ Below w.heap.size w w' := by
  have HK := Lib.hid hk
  clear hk
  have hmx : Tryz.prog.follows .mixedOrders = true := by kernel_rfl
  refine (callsIn_wide (n := 5)).1 ?_
  refine callsIn_of_wp_marks Tryz.func163 rfl trivial ?_ rfl
  simp only [Tryz.ntmps163, List.size_toArray, List.length_cons, List.length_nil, Nat.reduceAdd, Nat.reduceSub, Array.replicate_succ, Array.replicate_zero, List.push_toArray, List.append_toArray, List.nil_append, List.cons_append]
  gi_wp2_with fail
  refine ⟨trivial, (callsIn_wide.2 (parts_any _ _ _)).mono ?_⟩
  rintro e w2 ⟨rfl, rfl⟩
  gi_wp2_with fail
  obtain ⟨W0, hW0⟩ : ∃ W0, ((((w.alloc (.cells #[.bool a.S.s, .slice a.S.A a.S.n a.S.c, .int .i64 a.S.e, .bool a.W.s, .slice a.W.A a.W.n a.W.c, .int .i64 a.W.e, .bool a.C.s, .slice a.C.A a.C.n a.C.c, .int .i64 a.C.e, .bool a.A.s, .slice a.A.A a.A.n a.A.c, .int .i64 a.A.e] 26)).alloc (.cells #[.bool b.S.s, .slice b.S.A b.S.n b.S.c, .int .i64 b.S.e, .bool b.W.s, .slice b.W.A b.W.n b.W.c, .int .i64 b.W.e, .bool b.C.s, .slice b.C.A b.C.n b.C.c, .int .i64 b.C.e, .bool b.A.s, .slice b.A.A b.A.n b.A.c, .int .i64 b.A.e] 26)).alloc (.cells #[.bool false] 4)).alloc (.cells #[.pointer (some ⟨w.heap.size, 0, none⟩)] 185)).alloc (.cells #[.pointer (some ⟨w.heap.size + 1, 0, none⟩)] 185) = W0 := ⟨_, rfl⟩
  obtain ⟨⟨hM0, hN0, hE0, hS1, hS2⟩, hB0, hlo, hhi⟩ := boxes5 w _ _ _ _ _ hW0
  rw [hW0]
  clear hW0
  refine wpIn_rangeFunc_sep2 (F := Fence.wide) rfl (by decide) (gf := 190) (lb := #[.pointer (some ⟨w.heap.size + 1 + 1 + 1, 0, none⟩), .pointer (some ⟨w.heap.size + 1 + 1 + 1 + 1, 0, none⟩)]) rfl trivial (enters_of Tryz.func190 (by kernel_rfl) rfl)
    (parts_seq _ _ _ w.heap.size (w.heap.size + 1) W0 ⟨hS1, hS2⟩) (by omega) (fun _ => rfl)
    (fun pre O W => O (w.heap.size + 1 + 1) ∧ (∀ x, x ∈ pre → x < 4 → sameV (a.get x) (b.get x) = true) ∧ MBox W w.heap.size a ∧ MBox W (w.heap.size + 1) b ∧ W.heap[w.heap.size + 1 + 1]? = some (.cells #[.bool false] 4 (0, 0)) ∧ Below w.heap.size w W)
    (fun j pre O W => j = .ret ∧ sameM a b = false ∧ W.heap[w.heap.size + 1 + 1]? = some (.cells #[.bool false] 4 (0, 0)) ∧ Below w.heap.size w W)
    (fun O s A B row hs hg hr => ⟨hs.1, hs.2.1, heap_own hs.2.2.1 hg (fun r e => (hr r e).2), heap_own hs.2.2.2.1 hg (fun r e => (hr r e).2), heap_own hs.2.2.2.2.1 hg (fun r e => (hr r e).2), hs.2.2.2.2.2.grown hg hs.2.2.2.2.2.size (fun k e => by have := (hr k e).1; omega)⟩)
    (fun j O s A B row hs hg hr => ⟨hs.1, hs.2.1, heap_own hs.2.2.1 hg (fun r e => (hr r e).2), hs.2.2.2.grown hg hs.2.2.2.size (fun k e => by have := (hr k e).1; omega)⟩)
    (fun s O A B row hs hg hr => ⟨hs.1, hs.2.1, heap_loose hs.2.2.1 hg hr (by omega), heap_loose hs.2.2.2.1 hg hr (by omega), heap_loose hs.2.2.2.2.1 hg hr (by omega), below_loose hs.2.2.2.2.2 (Nat.le_refl _) hg hr (by omega)⟩)
    (fun j s O A B row hs hg hr => ⟨hs.1, hs.2.1, heap_loose hs.2.2.1 hg hr (by omega), below_loose hs.2.2.2 (Nat.le_refl _) hg hr (by omega)⟩)
    (fun k => k = w.heap.size + 1 + 1) (fun k hk e => by omega) (fun k e => by omega) ⟨rfl, (fun x hx => absurd hx (List.not_mem_nil)), hM0, hN0, hE0, hB0⟩
    (fun x a' W => a' = { tmps := #[.agg #[.bool a.S.s, .slice a.S.A a.S.n a.S.c, .int .i64 a.S.e, .bool a.W.s, .slice a.W.A a.W.n a.W.c, .int .i64 a.W.e, .bool a.C.s, .slice a.C.A a.C.n a.C.c, .int .i64 a.C.e, .bool a.A.s, .slice a.A.A a.A.n a.A.c, .int .i64 a.A.e], .agg #[.bool b.S.s, .slice b.S.A b.S.n b.S.c, .int .i64 b.S.e, .bool b.W.s, .slice b.W.A b.W.n b.W.c, .int .i64 b.W.e, .bool b.C.s, .slice b.C.A b.C.n b.C.c, .int .i64 b.C.e, .bool b.A.s, .slice b.A.A b.A.n b.A.c, .int .i64 b.A.e], .pointer (some ⟨w.heap.size, 0, none⟩), .pointer (some ⟨w.heap.size + 1, 0, none⟩), .pointer (some ⟨w.heap.size + 1 + 1, 0, none⟩), .pointer (some ⟨w.heap.size, 3 * x, none⟩), .pointer (some ⟨w.heap.size + 1, 3 * x, none⟩),
      .func (.func 190) #[] #[.pointer (some ⟨w.heap.size + 1 + 1 + 1, 0, none⟩), .pointer (some ⟨w.heap.size + 1 + 1 + 1 + 1, 0, none⟩)], .pointer (some ⟨w.heap.size, 3 * x, none⟩), .pointer (some ⟨w.heap.size + 1, 3 * x, none⟩), undef, undef, undef, undef, undef, undef, undef, undef], defers := [] })
    (fun x a' _ _ _ _ h _ _ => h) ?assign ?body ?done ?stop
  case assign =>
    intro l pre x O W K hgx hsW hi hK
    unfold encM
    gi_wp2
    exact hK _ _ (KeepsFrom.refl _ _) (Gain.refl _ _) hi rfl
  case body =>
    rintro l pre x O a' W ⟨hx4, hpre⟩ hsW ⟨hO, hall, hM, hN, hE, hb⟩ rfl _
    have hrow : Ints W 0 W.heap.size .u32 (a.get x).A (a.get x).n (a.get x).xs := ((hA.get x).below hb (Nat.le_refl _)).more (Nat.le_refl _) hb.size
    have hrow2 : Ints W 0 W.heap.size .u32 (b.get x).A (b.get x).n (b.get x).xs := ((hBb.get x).below hb (Nat.le_refl _)).more (Nat.le_refl _) hb.size
    have hcm := MBox.at_ hM hx4
    have hcn := MBox.at_ hN hx4
    generalize hd : a.get x = d at hcm hrow
    generalize hd' : b.get x = d' at hcn hrow2
    have HD := Lib.hid hd
    have HD' := Lib.hid hd'
    clear hd hd'
    obtain ⟨r, hr⟩ : ∃ r, sameV d d' = r := ⟨_, rfl⟩
    have HR := Lib.hid hr
    clear hr
    gi_wp2
    refine roundRegion_E (Keeps W) [] (m := 8) (L := #[false, false, false, false, false, false, false, false]) hmx (by kernel_rfl) (fun _ _ h => h) (by rfl) (by rfl) ?_
    have kD : Keeps W W.drew := fun _ _ => rfl
    refine pureE (i := 0) (L := #[true, false, false, false, false, false, false, false]) (v := ?_) rfl (by rfl) (by kernel_rfl) (by kernel_rfl) (by kernel_rfl) (fun _ _ _ h => h) (by rfl) ?hy1 ?rest1
    case hy1 => intro w; go_simp; (try with_reducible rfl)
    try simp only [Act.put, List.setIfInBounds_toArray, List.set_cons_zero, List.set_cons_succ]
    refine pureE (i := 1) (L := #[true, true, false, false, false, false, false, false]) (v := ?_) rfl (by rfl) (by kernel_rfl) (by kernel_rfl) (by kernel_rfl) (fun _ _ _ h => h) (by rfl) ?hy2 ?rest2
    case hy2 => intro w; go_simp; (try with_reducible rfl)
    try simp only [Act.put, List.setIfInBounds_toArray, List.set_cons_zero, List.set_cons_succ]
    refine readE (i := 2) (L := #[true, true, true, false, false, false, false, false]) (v := .agg #[.bool d.s, .slice d.A d.n d.c, .int .i64 d.e]) rfl (by rfl) (by kernel_rfl) (by kernel_rfl) (by kernel_rfl) (fun _ _ _ h => h) (by assumption) (by rfl) ?ry2 ?rr2
    case ry2 =>
      intro w' h1
      obtain ⟨⟨k1, k2, k3⟩, _⟩ := MBox.at_ ((h1 _ (by omega)).trans hM) hx4
      rw [HD.out] at k1 k2 k3
      go_simp
    try simp only [Act.put, List.setIfInBounds_toArray, List.set_cons_zero, List.set_cons_succ]
    refine pureE (i := 3) (L := #[true, true, true, true, false, false, false, false]) (v := ?_) rfl (by rfl) (by kernel_rfl) (by kernel_rfl) (by kernel_rfl) (fun _ _ _ h => h) (by rfl) ?hy4 ?rest4
    case hy4 => intro w; go_simp; (try with_reducible rfl)
    try simp only [Act.put, List.setIfInBounds_toArray, List.set_cons_zero, List.set_cons_succ]
    refine pureE (i := 4) (L := #[true, true, true, true, true, false, false, false]) (v := ?_) rfl (by rfl) (by kernel_rfl) (by kernel_rfl) (by kernel_rfl) (fun _ _ _ h => h) (by rfl) ?hy5 ?rest5
    case hy5 => intro w; go_simp; (try with_reducible rfl)
    try simp only [Act.put, List.setIfInBounds_toArray, List.set_cons_zero, List.set_cons_succ]
    refine readE (i := 5) (L := #[true, true, true, true, true, true, false, false]) (v := .agg #[.bool d'.s, .slice d'.A d'.n d'.c, .int .i64 d'.e]) rfl (by rfl) (by kernel_rfl) (by kernel_rfl) (by kernel_rfl) (fun _ _ _ h => h) (by assumption) (by rfl) ?ry5 ?rr5
    case ry5 =>
      intro w' h1
      obtain ⟨⟨k1, k2, k3⟩, _⟩ := MBox.at_ ((h1 _ (by omega)).trans hN) hx4
      rw [HD'.out] at k1 k2 k3
      go_simp
    try simp only [Act.put, List.setIfInBounds_toArray, List.set_cons_zero, List.set_cons_succ]
    refine stepK (i := 6) (L := #[true, true, true, true, true, true, true, false]) rfl (by rfl) (by kernel_rfl) (by rfl) (fun K hK => ?_)
    go_simp
    go_at_call 43
    refine (Pa.dyadSame_any W.drew _ _ _ _ _ _ _ _ _ _ _ _ (hrow.drewN 1) (hrow2.drewN 1) r HR.out).mono ?_
    rintro e W2 ⟨rfl, hB'⟩
    have hB : Below W.heap.size W W2 := (Below.refl _ W).drew.trans hB'
    clear hB'
    refine hK _ _ ⟨fun _ _ p hp => hB.block p hp, ?_⟩
    clear hK K
    try simp only [Act.put, List.setIfInBounds_toArray, List.set_cons_zero, List.set_cons_succ]
    refine pureE (i := 7) (L := #[true, true, true, true, true, true, true, true]) (v := ?_) rfl (by rfl) (by kernel_rfl) (by kernel_rfl) (by kernel_rfl) (fun _ _ _ h => h) (by rfl) ?hy8 ?rest8
    case hy8 => intro w; go_simp; (try with_reducible rfl)
    try simp only [Act.put, List.setIfInBounds_toArray, List.set_cons_zero, List.set_cons_succ]
    refine doneE (by kernel_rfl) ?_ _
    have hE2 := box_on hE hB (by omega)
    obtain ⟨e3, e4⟩ := cells1 hE2
    cases r
    · gi_wp2
      refine ⟨(keeps_below hB).trans ((KeepsOthers.setCell _ _ _).from _), O, (gain_below hB).trans (gain_set hO _), rfl, ?_, set1 hE2 _, (hb.trans (hB.mono hb.size)).setCell (by simp <;> omega) _⟩
      refine Bool.eq_false_iff.2 fun h => ?_
      have := (sameM_iff a b).1 h x hx4
      rw [HD.out, HD'.out, HR.out] at this
      cases this
    · gi_wp2
      refine ⟨keeps_below hB, O, gain_below hB, hO, fun y hy hy4 => ?_, box_on hM hB (by omega), box_on hN hB (by omega), hE2, hb.trans (hB.mono hb.size)⟩
      rcases List.mem_append.1 hy with h | h
      · exact hall y h hy4
      · rw [List.mem_singleton.1 h, HD.out, HD'.out]
        exact HR.out
  case done =>
    rintro D ys O W hD hS ⟨hO, hall, hM, hN, hE, hb⟩ hK
    obtain ⟨e1, e2⟩ := cells1 hE
    have hk := HK.out
    rw [show sameM a b = true from (sameM_iff a b).2 fun x hx => hall x (by rw [hS]; simp; omega) hx] at hk
    subst hk
    clear hS hall
    gi_wp2
    have hK' := (KeepsOthers.setCell W ⟨w.heap.size + 1 + 1, 0, none⟩ (.bool true)).same D _ hK rfl
    have c1 := cells1 ((World.putObj_heap_other (o := .deferred none) (by omega : w.heap.size + 1 + 1 ≠ D)).trans (set1 hE (.bool true)))
    refine ⟨by simp, .inl ⟨_, _, rfl, run_takeDeferred hK', ?_⟩⟩
    refine ⟨.bool true, ?_, rfl, ?_⟩
    · simp [results, Tryz.f163, go_sem, c1.1]
    · exact (hb.setCell (by simp <;> omega) _).trans (belowK_b (w := w) (Nat.le_refl _) _ D _ _ (by omega) hK' rfl rfl)
  case stop =>
    rintro D j pre O W hD hSp ⟨rfl, hm, hE, hb⟩ hK
    have hk := HK.out
    rw [hm] at hk
    subst hk
    gi_wp2
    have c1 := cells1 ((World.putObj_heap_other (o := .deferred none) (by omega : w.heap.size + 1 + 1 ≠ D)).trans hE)
    refine ⟨by simp, .inl ⟨_, _, rfl, run_takeDeferred hK, ?_⟩⟩
    refine ⟨.bool false, ?_, rfl, ?_⟩
    · simp [results, Tryz.f163, go_sem, c1.1]
    · exact hb.trans (belowK_b (w := w) (Nat.le_refl _) _ D _ _ (by omega) hK rfl rfl)
end Ma
end Go.Proofs.YtmbppgjhdcmckaaGreatDoor
