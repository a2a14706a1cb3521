/- headcountref16.Middle: walks (printed by a program of mine). -/
/- headcountref06.Great: a walk (printed by a program of mine). -/
/- headcountref06.Same, May: walks (printed by a program of mine). -/
/- headcountref06.Twin: walks (printed by a program of mine). -/
import Derived.Test.YtlbkepiflhchdaaDoorBm20
import Derived.Test.YtlbkepiflhchdaaDoorBm16
import Derived.Test.YtlbkepiflhchdaaDoorBm15
import Derived.Test.YtlbkepiflhchdaaDoorBm19
namespace Go.Proofs.YtlbkepiflhchdaaDoor
open Go.RowKit
namespace Ma
open Dp Dy
set_option maxHeartbeats 12800000 in
set_option maxRecDepth 100000 in
theorem RMiddle_any (w : World) (a b : Dv) (hA : Ints w 0 w.heap.size .u32 a.A a.n a.xs) (hB : Ints w 0 w.heap.size .u32 b.A b.n b.xs) (A B : Dn) (ia : Is A a) (ib : Is B b) (ma : A.May) (mb : B.May) (r d : Dn) (code : Int) (hr : midD A B = ((r, d), code)) :
    Calls Tryd.prog 81 #[.agg #[.bool a.s, .slice a.A a.n a.c, .int .i64 a.e], .agg #[.bool b.s, .slice b.A b.n b.c, .int .i64 b.e]] w fun e w' => ∃ M D : Dv, e = .returned (.tuple #[.agg #[.bool M.s, .slice M.A M.n M.c, .int .i64 M.e], .agg #[.bool D.s, .slice D.A D.n D.c, .int .i64 D.e], .int .i64 code]) ∧ Below w.heap.size w w' ∧ Is r M ∧ Is d D ∧ Ints w' w.heap.size w'.heap.size .u32 M.A M.n M.xs ∧ Ints w' w.heap.size w'.heap.size .u32 D.A D.n D.xs := by
  obtain ⟨s1, q1, h1⟩ : ∃ s q, addD A B = (s, q) := ⟨_, _, rfl⟩
  obtain ⟨s2, q2, h2⟩ : ∃ s q, halfD s1 = (s, q) := ⟨_, _, rfl⟩
  obtain ⟨s3, q3, h3⟩ : ∃ s q, subD s2 A = (s, q) := ⟨_, _, rfl⟩
  have m1 : s1.May := by have := add_may A B; rw [h1] at this; exact this
  have m2 : s2.May := by have := half_may s1; rw [h2] at this; exact this
  have x1 : addX a.s a.xs a.e b.s b.xs b.e = (s1, q1) := (ia.add ib ma mb).trans h1
  have x2 : halfX s1.neg (canon 4294967296 s1.m) s1.e = (s2, q2) := (Is.half (d := ⟨s1.neg, none, 0, 0, s1.e, canon 4294967296 s1.m⟩) ⟨rfl, rfl, rfl⟩ m1).trans h2
  have x3 : subX s2.neg (canon 4294967296 s2.m) s2.e a.s a.xs a.e = (s3, q3) := (Is.sub (d := ⟨s2.neg, none, 0, 0, s2.e, canon 4294967296 s2.m⟩) ⟨rfl, rfl, rfl⟩ ia m2 ma).trans h3
  have X1 := Lib.hid x1
  have X2 := Lib.hid x2
  have X3 := Lib.hid x3
  have c1 := Lib.hid (add_two h1)
  have c2 := Lib.hid (half_two' h2)
  have c3 := Lib.hid (sub_two h3)
  have hmid : midD A B = if q1 = 0 ∧ q2 = 0 ∧ q3 = 0 then ((s2, s3), 0) else ((Dn.zero, Dn.zero), 10) := by
    unfold midD
    rw [h1, h2, h3]
  rw [hmid] at hr
  have HR := Lib.hid hr
  clear h1 h2 h3 x1 x2 x3 hmid hr
  generalize hw : (((w.alloc (.cells #[.bool a.s, .slice a.A a.n a.c, .int .i64 a.e] 24)).alloc (.cells #[.bool b.s, .slice b.A b.n b.c, .int .i64 b.e] 24)).alloc (.cells #[.bool false, .slice none 0 0, .int .i64 0] 24)).alloc (.cells #[.bool false, .slice none 0 0, .int .i64 0] 24) = w1
  obtain ⟨⟨Y1, Y2, Z1, Z2⟩, hb, lo1, hi1⟩ := boxes4 w _ _ _ _ hw
  have Ia := hA.below hb (Nat.le_refl _)
  have Ib := hB.below hb (Nat.le_refl _)
  go_enter Tryd.func81, Tryd.ntmps81
  obtain ⟨⟨p0, p1, p2⟩, p3, p4, p5⟩ := boxD Y1
  obtain ⟨⟨o0, o1, o2⟩, o3, o4, o5⟩ := boxD Y2
  go_wp2_with fail
  try clear hw
  clear p0 p1 p2 p3 p4 p5 o0 o1 o2 o3 o4 o5
  refine (rAdd_all w1 a.s b.s a.A b.A a.n a.c b.n b.c a.xs b.xs a.e b.e (Ia.more (Nat.le_refl _) (by omega)) (Ib.more (Nat.le_refl _) (by omega)) s1 q1 X1.out).mono ?_
  rintro e w2 ⟨A1, n1, d1, rfl, hc1, hB, I1⟩
  have lw2 : w1.heap.size ≤ w2.heap.size := hB.size
  replace Y1 := (hB.block _ (by omega)).trans Y1
  replace Z1 := (hB.block _ (by omega)).trans Z1
  replace Z2 := (hB.block _ (by omega)).trans Z2
  replace Ia := Ints.below Ia hB (by omega)
  replace hb := hb.trans (hB.mono (by omega))
  clear hB
  have hB := (Below.refl w2.heap.size w2).alloc (Nat.le_refl _) (.cells #[.bool s1.neg, .slice A1 n1 d1, .int .i64 s1.e] 24)
  have M1 := heap_alloc_last w2 (.cells #[.bool s1.neg, .slice A1 n1 d1, .int .i64 s1.e] 24)
  have mw3 : w2.heap.size < (w2.alloc (.cells #[.bool s1.neg, .slice A1 n1 d1, .int .i64 s1.e] 24)).heap.size := by simp
  generalize hww3 : w2.alloc (.cells #[.bool s1.neg, .slice A1 n1 d1, .int .i64 s1.e] 24) = w3 at *
  have lw3 : w2.heap.size ≤ w3.heap.size := hB.size
  replace Y1 := (hB.block _ (by omega)).trans Y1
  replace Z1 := (hB.block _ (by omega)).trans Z1
  replace Z2 := (hB.block _ (by omega)).trans Z2
  replace Ia := Ints.below Ia hB (by omega)
  replace I1 := Ints.below I1 hB (by omega)
  replace hb := hb.trans (hB.mono (by omega))
  clear hB
  rcases c1.out with rfl | rfl
  rotate_left
  · skip
    obtain ⟨⟨z0, z1, z2⟩, z3, z4, z5⟩ := boxD Z1
    obtain ⟨⟨y0, y1, y2⟩, y3, y4, y5⟩ := boxD Z2
    have hr := HR.out
    rw [if_neg (by simp)] at hr
    injection hr with h1 h2
    injection h1 with h1 h3
    subst h1 h2 h3
    go_wp2
    clear z0 z1 z2 z3 z4 z5
    clear y0 y1 y2 y3 y4 y5
    have Q1 := box_put Z1 (.bool false) (.slice none 0 0) (.int .i64 0)
    have Q2 := box_put ((box_far (w := w3) (g := w.heap.size + 1 + 1) (g' := w.heap.size + 1 + 1 + 1) (by omega) (.bool false) (.slice none 0 0) (.int .i64 0)).trans Z2) (.bool false) (.slice none 0 0) (.int .i64 0)
    have Q3 := (box_far (g := w.heap.size + 1 + 1 + 1) (g' := w.heap.size + 1 + 1) (by omega) (.bool false) (.slice none 0 0) (.int .i64 0)).trans Q1
    have hb2 := below_put (below_put hb (g := w.heap.size + 1 + 1) (by omega) (.bool false) (.slice none 0 0) (.int .i64 0)) (g := w.heap.size + 1 + 1 + 1) (by omega) (.bool false) (.slice none 0 0) (.int .i64 0)
    obtain ⟨⟨k0, k1, k2⟩, k3, k4, k5⟩ := boxD Q3
    obtain ⟨⟨j0, j1, j2⟩, j3, j4, j5⟩ := boxD Q2
    exact bodyPost_ret (v := .tuple #[.agg #[.bool false, .slice none 0 0, .int .i64 0], .agg #[.bool false, .slice none 0 0, .int .i64 0], .int .i64 10]) (by simp [results, Tryd.results81, go_sem, k0, k1, k2, j0, j1, j2]) rfl ⟨⟨false, none, 0, 0, 0, []⟩, ⟨false, none, 0, 0, 0, []⟩, rfl, hb2, Is.zero, Is.zero, Ints.nil_ .., Ints.nil_ ..⟩
  · skip
    obtain ⟨⟨z0, z1, z2⟩, z3, z4, z5⟩ := boxD M1
    go_wp2_with fail
    clear z0 z1 z2 z3 z4 z5
    try clear hww3
    refine (rHalf_all w3 s1.neg A1 n1 d1 (canon 4294967296 s1.m) s1.e (I1.more (Nat.zero_le _) (by omega)) s2 q2 X2.out).mono ?_
    rintro e w4 ⟨A2, n2, d2, rfl, hc2, hB, I2⟩
    clear I1 M1
    have lw4 : w3.heap.size ≤ w4.heap.size := hB.size
    replace Y1 := (hB.block _ (by omega)).trans Y1
    replace Z1 := (hB.block _ (by omega)).trans Z1
    replace Z2 := (hB.block _ (by omega)).trans Z2
    replace Ia := Ints.below Ia hB (by omega)
    replace hb := hb.trans (hB.mono (by omega))
    clear hB
    have hB := (Below.refl w4.heap.size w4).alloc (Nat.le_refl _) (.cells #[.bool s2.neg, .slice A2 n2 d2, .int .i64 s2.e] 24)
    have M2 := heap_alloc_last w4 (.cells #[.bool s2.neg, .slice A2 n2 d2, .int .i64 s2.e] 24)
    have mw5 : w4.heap.size < (w4.alloc (.cells #[.bool s2.neg, .slice A2 n2 d2, .int .i64 s2.e] 24)).heap.size := by simp
    generalize hww5 : w4.alloc (.cells #[.bool s2.neg, .slice A2 n2 d2, .int .i64 s2.e] 24) = w5 at *
    have lw5 : w4.heap.size ≤ w5.heap.size := hB.size
    replace Y1 := (hB.block _ (by omega)).trans Y1
    replace Z1 := (hB.block _ (by omega)).trans Z1
    replace Z2 := (hB.block _ (by omega)).trans Z2
    replace Ia := Ints.below Ia hB (by omega)
    replace I2 := Ints.below I2 hB (by omega)
    replace hb := hb.trans (hB.mono (by omega))
    clear hB
    rcases c2.out with rfl | rfl
    rotate_left
    · skip
      obtain ⟨⟨z0, z1, z2⟩, z3, z4, z5⟩ := boxD Z1
      obtain ⟨⟨y0, y1, y2⟩, y3, y4, y5⟩ := boxD Z2
      have hr := HR.out
      rw [if_neg (by simp)] at hr
      injection hr with h1 h2
      injection h1 with h1 h3
      subst h1 h2 h3
      go_wp2
      clear z0 z1 z2 z3 z4 z5
      clear y0 y1 y2 y3 y4 y5
      have Q1 := box_put Z1 (.bool false) (.slice none 0 0) (.int .i64 0)
      have Q2 := box_put ((box_far (w := w5) (g := w.heap.size + 1 + 1) (g' := w.heap.size + 1 + 1 + 1) (by omega) (.bool false) (.slice none 0 0) (.int .i64 0)).trans Z2) (.bool false) (.slice none 0 0) (.int .i64 0)
      have Q3 := (box_far (g := w.heap.size + 1 + 1 + 1) (g' := w.heap.size + 1 + 1) (by omega) (.bool false) (.slice none 0 0) (.int .i64 0)).trans Q1
      have hb2 := below_put (below_put hb (g := w.heap.size + 1 + 1) (by omega) (.bool false) (.slice none 0 0) (.int .i64 0)) (g := w.heap.size + 1 + 1 + 1) (by omega) (.bool false) (.slice none 0 0) (.int .i64 0)
      obtain ⟨⟨k0, k1, k2⟩, k3, k4, k5⟩ := boxD Q3
      obtain ⟨⟨j0, j1, j2⟩, j3, j4, j5⟩ := boxD Q2
      exact bodyPost_ret (v := .tuple #[.agg #[.bool false, .slice none 0 0, .int .i64 0], .agg #[.bool false, .slice none 0 0, .int .i64 0], .int .i64 10]) (by simp [results, Tryd.results81, go_sem, k0, k1, k2, j0, j1, j2]) rfl ⟨⟨false, none, 0, 0, 0, []⟩, ⟨false, none, 0, 0, 0, []⟩, rfl, hb2, Is.zero, Is.zero, Ints.nil_ .., Ints.nil_ ..⟩
    · skip
      obtain ⟨⟨z0, z1, z2⟩, z3, z4, z5⟩ := boxD M2
      obtain ⟨⟨y0, y1, y2⟩, y3, y4, y5⟩ := boxD Y1
      go_wp2_with fail
      clear z0 z1 z2 z3 z4 z5
      clear y0 y1 y2 y3 y4 y5
      try clear hww5
      refine (rSub_all w5 s2.neg a.s A2 a.A n2 d2 a.n a.c (canon 4294967296 s2.m) a.xs s2.e a.e (I2.more (Nat.zero_le _) (by omega)) (Ia.more (Nat.zero_le _) (by omega)) s3 q3 X3.out).mono ?_
      rintro e w6 ⟨A3, n3, d3, rfl, hc3, hB, I3⟩
      have lw6 : w5.heap.size ≤ w6.heap.size := hB.size
      replace M2 := (hB.block _ (by omega)).trans M2
      replace Z1 := (hB.block _ (by omega)).trans Z1
      replace Z2 := (hB.block _ (by omega)).trans Z2
      replace I2 := Ints.below I2 hB (by omega)
      replace hb := hb.trans (hB.mono (by omega))
      clear hB
      have hB := (Below.refl w6.heap.size w6).alloc (Nat.le_refl _) (.cells #[.bool s3.neg, .slice A3 n3 d3, .int .i64 s3.e] 24)
      have M3 := heap_alloc_last w6 (.cells #[.bool s3.neg, .slice A3 n3 d3, .int .i64 s3.e] 24)
      have mw7 : w6.heap.size < (w6.alloc (.cells #[.bool s3.neg, .slice A3 n3 d3, .int .i64 s3.e] 24)).heap.size := by simp
      generalize hww7 : w6.alloc (.cells #[.bool s3.neg, .slice A3 n3 d3, .int .i64 s3.e] 24) = w7 at *
      have lw7 : w6.heap.size ≤ w7.heap.size := hB.size
      replace M2 := (hB.block _ (by omega)).trans M2
      replace Z1 := (hB.block _ (by omega)).trans Z1
      replace Z2 := (hB.block _ (by omega)).trans Z2
      replace I2 := Ints.below I2 hB (by omega)
      replace I3 := Ints.below I3 hB (by omega)
      replace hb := hb.trans (hB.mono (by omega))
      clear hB
      rcases c3.out with rfl | rfl
      rotate_left
      · skip
        obtain ⟨⟨z0, z1, z2⟩, z3, z4, z5⟩ := boxD Z1
        obtain ⟨⟨y0, y1, y2⟩, y3, y4, y5⟩ := boxD Z2
        have hr := HR.out
        rw [if_neg (by simp)] at hr
        injection hr with h1 h2
        injection h1 with h1 h3
        subst h1 h2 h3
        go_wp2
        clear z0 z1 z2 z3 z4 z5
        clear y0 y1 y2 y3 y4 y5
        have Q1 := box_put Z1 (.bool false) (.slice none 0 0) (.int .i64 0)
        have Q2 := box_put ((box_far (w := w7) (g := w.heap.size + 1 + 1) (g' := w.heap.size + 1 + 1 + 1) (by omega) (.bool false) (.slice none 0 0) (.int .i64 0)).trans Z2) (.bool false) (.slice none 0 0) (.int .i64 0)
        have Q3 := (box_far (g := w.heap.size + 1 + 1 + 1) (g' := w.heap.size + 1 + 1) (by omega) (.bool false) (.slice none 0 0) (.int .i64 0)).trans Q1
        have hb2 := below_put (below_put hb (g := w.heap.size + 1 + 1) (by omega) (.bool false) (.slice none 0 0) (.int .i64 0)) (g := w.heap.size + 1 + 1 + 1) (by omega) (.bool false) (.slice none 0 0) (.int .i64 0)
        obtain ⟨⟨k0, k1, k2⟩, k3, k4, k5⟩ := boxD Q3
        obtain ⟨⟨j0, j1, j2⟩, j3, j4, j5⟩ := boxD Q2
        exact bodyPost_ret (v := .tuple #[.agg #[.bool false, .slice none 0 0, .int .i64 0], .agg #[.bool false, .slice none 0 0, .int .i64 0], .int .i64 10]) (by simp [results, Tryd.results81, go_sem, k0, k1, k2, j0, j1, j2]) rfl ⟨⟨false, none, 0, 0, 0, []⟩, ⟨false, none, 0, 0, 0, []⟩, rfl, hb2, Is.zero, Is.zero, Ints.nil_ .., Ints.nil_ ..⟩
      · skip
        go_wp2_with fail
        try clear hww7
        refine region_E (fun W' : World => W'.heap[w4.heap.size]? = some (.cells #[.bool s2.neg, .slice A2 n2 d2, .int .i64 s2.e] 24 (0, 0)) ∧ W'.heap[w6.heap.size]? = some (.cells #[.bool s3.neg, .slice A3 n3 d3, .int .i64 s3.e] 24 (0, 0))) [] (m := 5) (L := #[false, false, false, false, false]) (by kernel_rfl) (by rfl) (by rfl) ?_
        have hS0 : w7.drew.heap[w4.heap.size]? = some (.cells #[.bool s2.neg, .slice A2 n2 d2, .int .i64 s2.e] 24 (0, 0)) ∧ w7.drew.heap[w6.heap.size]? = some (.cells #[.bool s3.neg, .slice A3 n3 d3, .int .i64 s3.e] 24 (0, 0)) := ⟨M2, M3⟩
        refine readE (i := 0) (L := #[true, false, false, false, false]) (v := .agg #[.bool s2.neg, .slice A2 n2 d2, .int .i64 s2.e]) rfl (by rfl) (by kernel_rfl) (by kernel_rfl) (by kernel_rfl) (fun _ _ _ h => h) (by assumption) (by rfl) ?yr0 ?zr0
        case yr0 =>
          intro w' h1
          obtain ⟨⟨e0, e1, e2⟩, _⟩ := boxD h1.1
          go_simp
        try simp only [Act.put, List.setIfInBounds_toArray, List.set_cons_zero, List.set_cons_succ]
        refine readE (i := 1) (L := #[true, true, false, false, false]) (v := .agg #[.bool s3.neg, .slice A3 n3 d3, .int .i64 s3.e]) rfl (by rfl) (by kernel_rfl) (by kernel_rfl) (by kernel_rfl) (fun _ _ _ h => h) (by assumption) (by rfl) ?yr1 ?zr1
        case yr1 =>
          intro w' h1
          obtain ⟨⟨e0, e1, e2⟩, _⟩ := boxD h1.2
          go_simp
        try simp only [Act.put, List.setIfInBounds_toArray, List.set_cons_zero, List.set_cons_succ]
        have Z1' : w7.drew.heap[w.heap.size + 1 + 1]? = _ := Z1
        have Z2' : w7.drew.heap[w.heap.size + 1 + 1 + 1]? = _ := Z2
        have hb8 : Below w.heap.size w w7.drew := hb.drew
        replace I2 : Ints w7.drew w3.heap.size w4.heap.size .u32 A2 n2 (canon 4294967296 s2.m) := Ints.drewN I2 1
        replace I3 : Ints w7.drew w5.heap.size w6.heap.size .u32 A3 n3 (canon 4294967296 s3.m) := Ints.drewN I3 1
        have l8 : w7.heap.size ≤ w7.drew.heap.size := Nat.le_refl _
        clear Z1 Z2 hb Ia hS0 M2 M3
        generalize w7.drew = w8 at *
        obtain ⟨⟨z0, z1, z2⟩, z3, z4, z5⟩ := boxD Z1'
        refine stepK (i := 2) (L := #[true, true, true, false, false]) rfl (by rfl) (by kernel_rfl) (by rfl) (fun K hK => ?_)
        go_simp
        refine hK _ _ ⟨fun _ h => ⟨(box_far (by omega) _ _ _).trans h.1, (box_far (by omega) _ _ _).trans h.2⟩, ?_⟩
        clear hK K
        clear z0 z1 z2 z3 z4 z5
        try simp only [Act.put, List.setIfInBounds_toArray, List.set_cons_zero, List.set_cons_succ]
        have Q1 := box_put Z1' (.bool s2.neg) (.slice A2 n2 d2) (.int .i64 s2.e)
        have Q2 := (box_far (w := w8) (g := w.heap.size + 1 + 1) (g' := w.heap.size + 1 + 1 + 1) (by omega) (.bool s2.neg) (.slice A2 n2 d2) (.int .i64 s2.e)).trans Z2'
        have hb9 := below_put hb8 (g := w.heap.size + 1 + 1) (by omega) (.bool s2.neg) (.slice A2 n2 d2) (.int .i64 s2.e)
        have hs9 := size_put (w := w8) (g := w.heap.size + 1 + 1) (.bool s2.neg) (.slice A2 n2 d2) (.int .i64 s2.e)
        replace I2 := ints_put I2 (g := w.heap.size + 1 + 1) (.inl (by omega)) (.bool s2.neg) (.slice A2 n2 d2) (.int .i64 s2.e)
        replace I3 := ints_put I3 (g := w.heap.size + 1 + 1) (.inl (by omega)) (.bool s2.neg) (.slice A2 n2 d2) (.int .i64 s2.e)
        generalize ((w8.setCell ⟨w.heap.size + 1 + 1, 0, none⟩ (.bool s2.neg)).setCell ⟨w.heap.size + 1 + 1, 1, none⟩ (.slice A2 n2 d2)).setCell ⟨w.heap.size + 1 + 1, 2, none⟩ (.int .i64 s2.e) = w9 at *
        have l9 : w8.heap.size ≤ w9.heap.size := Nat.le_of_eq hs9.symm
        clear hs9
        obtain ⟨⟨z0, z1, z2⟩, z3, z4, z5⟩ := boxD Q2
        refine stepK (i := 3) (L := #[true, true, true, true, false]) rfl (by rfl) (by kernel_rfl) (by rfl) (fun K hK => ?_)
        go_simp
        refine hK _ _ ⟨fun _ h => ⟨(box_far (by omega) _ _ _).trans h.1, (box_far (by omega) _ _ _).trans h.2⟩, ?_⟩
        clear hK K
        clear z0 z1 z2 z3 z4 z5
        try simp only [Act.put, List.setIfInBounds_toArray, List.set_cons_zero, List.set_cons_succ]
        have Q3 := box_put Q2 (.bool s3.neg) (.slice A3 n3 d3) (.int .i64 s3.e)
        have Q4 := (box_far (w := w9) (g := w.heap.size + 1 + 1 + 1) (g' := w.heap.size + 1 + 1) (by omega) (.bool s3.neg) (.slice A3 n3 d3) (.int .i64 s3.e)).trans Q1
        have hb10 := below_put hb9 (g := w.heap.size + 1 + 1 + 1) (by omega) (.bool s3.neg) (.slice A3 n3 d3) (.int .i64 s3.e)
        have hs10 := size_put (w := w9) (g := w.heap.size + 1 + 1 + 1) (.bool s3.neg) (.slice A3 n3 d3) (.int .i64 s3.e)
        replace I2 := ints_put I2 (g := w.heap.size + 1 + 1 + 1) (.inl (by omega)) (.bool s3.neg) (.slice A3 n3 d3) (.int .i64 s3.e)
        replace I3 := ints_put I3 (g := w.heap.size + 1 + 1 + 1) (.inl (by omega)) (.bool s3.neg) (.slice A3 n3 d3) (.int .i64 s3.e)
        generalize ((w9.setCell ⟨w.heap.size + 1 + 1 + 1, 0, none⟩ (.bool s3.neg)).setCell ⟨w.heap.size + 1 + 1 + 1, 1, none⟩ (.slice A3 n3 d3)).setCell ⟨w.heap.size + 1 + 1 + 1, 2, none⟩ (.int .i64 s3.e) = w10 at *
        have l10 : w9.heap.size ≤ w10.heap.size := Nat.le_of_eq hs10.symm
        clear hs10
        refine pureE (i := 4) (L := #[true, true, true, true, true]) (v := ?_) rfl (by rfl) (by kernel_rfl) (by kernel_rfl) (by kernel_rfl) (fun _ _ _ h => h) (by rfl) ?hy5 ?rest5
        case hy5 => intro w; go_simp; (try with_reducible rfl)
        try simp only [Act.put, List.setIfInBounds_toArray, List.set_cons_zero, List.set_cons_succ]
        refine doneE (by kernel_rfl) ?_ _
        go_wp2
        obtain ⟨⟨z0, z1, z2⟩, z3, z4, z5⟩ := boxD Q4
        obtain ⟨⟨k0, k1, k2⟩, k3, k4, k5⟩ := boxD Q3
        have hr := HR.out
        rw [if_pos (by simp)] at hr
        injection hr with h1 h2
        injection h1 with h1 h3
        subst h1 h2 h3
        exact bodyPost_ret (v := .tuple #[.agg #[.bool s2.neg, .slice A2 n2 d2, .int .i64 s2.e], .agg #[.bool s3.neg, .slice A3 n3 d3, .int .i64 s3.e], .int .i64 0]) (by simp [results, Tryd.results81, go_sem, z0, z1, z2, k0, k1, k2]) rfl ⟨⟨s2.neg, A2, n2, d2, s2.e, _⟩, ⟨s3.neg, A3, n3, d3, s3.e, _⟩, rfl, hb10, ⟨rfl, rfl, rfl⟩, ⟨rfl, rfl, rfl⟩, I2.more (by omega) (by omega), I3.more (by omega) (by omega)⟩

end Ma
end Go.Proofs.YtlbkepiflhchdaaDoor

namespace Go.Proofs.YtlbkepiflhchdaaDoor
open Go.RowKit
namespace Ma
open Dp Dy
def Dv.great (d : Dv) : Bool := Pa.Dy.great ⟨d.s, d.xs, d.e⟩
def greatM (m : Mv) : Bool := m.S.great || m.W.great || m.C.great || m.A.great
theorem great_not {m : Mv} (h : greatM m = false) : ∀ x, x < 4 → (m.get x).xs.length ≤ 42 ∧ (m.get x).e ≤ 1100 := by
  have hd : ∀ d : Dv, d.great = false → d.xs.length ≤ 42 ∧ d.e ≤ 1100 := fun d h => by
    simp [Dv.great, Pa.Dy.great] at h
    omega
  unfold greatM at h
  simp only [Bool.or_eq_false_iff] at h
  exact four (hd _ h.1.1.1) (hd _ h.1.1.2) (hd _ h.1.2) (hd _ h.2)
set_option maxHeartbeats 6400000 in
set_option maxRecDepth 100000 in
theorem RGreat_any (w : World) (m : Mv) {lo hi : Nat} (hRm : MRows w lo hi m) (k : Bool) (hk : greatM m = k) :
    Calls Tryd.prog 28 #[.agg #[.bool m.S.s, .slice m.S.A m.S.n m.S.c, .int .i64 m.S.e, .bool m.W.s, .slice m.W.A m.W.n m.W.c, .int .i64 m.W.e, .bool m.C.s, .slice m.C.A m.C.n m.C.c, .int .i64 m.C.e, .bool m.A.s, .slice m.A.A m.A.n m.A.c, .int .i64 m.A.e]] w fun e w' => e = .returned (.bool k) ∧ Below w.heap.size w w' := by
  have L0 := Lib.hid (hRm.get 0).len
  have L1 := Lib.hid (hRm.get 1).len
  have L2 := Lib.hid (hRm.get 2).len
  have L3 := Lib.hid (hRm.get 3).len
  unfold greatM at hk
  obtain ⟨g0, h0⟩ : ∃ g, m.S.great = g := ⟨_, rfl⟩
  obtain ⟨g1, h1⟩ : ∃ g, m.W.great = g := ⟨_, rfl⟩
  obtain ⟨g2, h2⟩ : ∃ g, m.C.great = g := ⟨_, rfl⟩
  obtain ⟨g3, h3⟩ : ∃ g, m.A.great = g := ⟨_, rfl⟩
  rw [h0, h1, h2, h3] at hk
  have HK := Lib.hid hk
  have H0 := Lib.hid h0
  have H1 := Lib.hid h1
  have H2 := Lib.hid h2
  have H3 := Lib.hid h3
  clear hk h0 h1 h2 h3
  generalize hw : w.alloc (.cells #[.bool m.S.s, .slice m.S.A m.S.n m.S.c, .int .i64 m.S.e, .bool m.W.s, .slice m.W.A m.W.n m.W.c, .int .i64 m.W.e, .bool m.C.s, .slice m.C.A m.C.n m.C.c, .int .i64 m.C.e, .bool m.A.s, .slice m.A.A m.A.n m.A.c, .int .i64 m.A.e] 39) = w1
  have hM1 : MBox w1 w.heap.size m := by rw [← hw]; exact heap_alloc_last _ _
  have hb : Below w.heap.size w w1 := by rw [← hw]; exact (Below.refl _ w).alloc (Nat.le_refl _) _
  have hlo : w.heap.size + 1 ≤ w1.heap.size := by rw [← hw]; simp
  obtain ⟨⟨k0, k1, k2, k3, k4, k5, k6, k7, k8, k9, k10, k11⟩, kf⟩ := MBox.cells hM1
  go_enter Tryd.func28, Tryd.ntmps28
  go_wp2_with fail
  try clear hw
  refine (Pa.rGreat_any w1 m.S.s m.S.A m.S.n m.S.c m.S.xs m.S.e L0.out g0 H0.out).mono ?_
  rintro e w2 ⟨rfl, hB⟩
  clear k0 k1 k2 k3 k4 k5 k6 k7 k8 k9 k10 k11 kf
  have l2 := hB.size
  replace hM1 : MBox w2 w.heap.size m := box_on hM1 hB (by omega)
  replace hb := hb.trans (hB.mono (by omega))
  clear hB
  cases g0
  rotate_left
  · go_wp2
    go_ret
    exact ⟨by rw [← HK.out]; simp, hb⟩
  · skip
    obtain ⟨⟨k0, k1, k2, k3, k4, k5, k6, k7, k8, k9, k10, k11⟩, kf⟩ := MBox.cells hM1
    go_wp2_with fail
    refine (Pa.rGreat_any w2 m.W.s m.W.A m.W.n m.W.c m.W.xs m.W.e L1.out g1 H1.out).mono ?_
    rintro e w3 ⟨rfl, hB⟩
    clear k0 k1 k2 k3 k4 k5 k6 k7 k8 k9 k10 k11 kf
    have l3 := hB.size
    replace hM1 : MBox w3 w.heap.size m := box_on hM1 hB (by omega)
    replace hb := hb.trans (hB.mono (by omega))
    clear hB
    cases g1
    rotate_left
    · go_wp2
      go_ret
      exact ⟨by rw [← HK.out]; simp, hb⟩
    · skip
      obtain ⟨⟨k0, k1, k2, k3, k4, k5, k6, k7, k8, k9, k10, k11⟩, kf⟩ := MBox.cells hM1
      go_wp2_with fail
      refine (Pa.rGreat_any w3 m.C.s m.C.A m.C.n m.C.c m.C.xs m.C.e L2.out g2 H2.out).mono ?_
      rintro e w4 ⟨rfl, hB⟩
      clear k0 k1 k2 k3 k4 k5 k6 k7 k8 k9 k10 k11 kf
      have l4 := hB.size
      replace hM1 : MBox w4 w.heap.size m := box_on hM1 hB (by omega)
      replace hb := hb.trans (hB.mono (by omega))
      clear hB
      cases g2
      rotate_left
      · go_wp2
        go_ret
        exact ⟨by rw [← HK.out]; simp, hb⟩
      · skip
        obtain ⟨⟨k0, k1, k2, k3, k4, k5, k6, k7, k8, k9, k10, k11⟩, kf⟩ := MBox.cells hM1
        go_wp2_with fail
        refine (Pa.rGreat_any w4 m.A.s m.A.A m.A.n m.A.c m.A.xs m.A.e L3.out g3 H3.out).mono ?_
        rintro e w5 ⟨rfl, hB⟩
        clear k0 k1 k2 k3 k4 k5 k6 k7 k8 k9 k10 k11 kf
        have l5 := hB.size
        replace hM1 : MBox w5 w.heap.size m := box_on hM1 hB (by omega)
        replace hb := hb.trans (hB.mono (by omega))
        clear hB
        go_wp2
        go_ret
        exact ⟨by rw [← HK.out]; simp, hb⟩
end Ma
end Go.Proofs.YtlbkepiflhchdaaDoor

namespace Go.Proofs.YtlbkepiflhchdaaDoor
open Go.RowKit
namespace Ma
open Dp Dy
open Classical in
noncomputable def mayB (d : Dv) : Bool := decide (d.may)
open Classical in
noncomputable def mayMB (m : Mv) : Bool := mayB m.S && mayB m.W && mayB m.C && mayB m.A
theorem mayMB_iff (m : Mv) : mayMB m = true ↔ m.may := by
  unfold mayMB mayB
  simp only [Bool.and_eq_true, decide_eq_true_eq]
  exact ⟨fun h => four h.1.1.1 h.1.1.2 h.1.2 h.2, fun h => ⟨⟨⟨h 0 (by decide), h 1 (by decide)⟩, h 2 (by decide)⟩, h 3 (by decide)⟩⟩
open Classical in
theorem rMay_all (w : World) (d : Dv) (hX : Ints w 0 w.heap.size .u32 d.A d.n d.xs) (k : Bool) (hk : mayB d = k) :
    Calls Tryd.prog 66 #[.agg #[.bool d.s, .slice d.A d.n d.c, .int .i64 d.e]] w fun e w' => e = .returned (.bool k) ∧ Below w.heap.size w w' := by
  unfold mayB at hk
  by_cases h : d.may
  · rw [decide_eq_true h] at hk
    subst hk
    exact rMay_ok w 0 w.heap.size d.s d.A d.n d.c d.xs d.e hX (Nat.le_refl _) h
  · rw [decide_eq_false h] at hk
    subst hk
    exact rMay_bad w 0 w.heap.size d.s d.A d.n d.c d.xs d.e hX (Nat.le_refl _) h
set_option maxHeartbeats 6400000 in
set_option maxRecDepth 100000 in
theorem RSame_any (w : World) (a b : Mv) (hRa : MRows w 0 w.heap.size a) (hRb : MRows w 0 w.heap.size b) (k : Bool) (hk : sameM a b = k) :
    Calls Tryd.prog 32 #[.agg #[.bool a.S.s, .slice a.S.A a.S.n a.S.c, .int .i64 a.S.e, .bool a.W.s, .slice a.W.A a.W.n a.W.c, .int .i64 a.W.e, .bool a.C.s, .slice a.C.A a.C.n a.C.c, .int .i64 a.C.e, .bool a.A.s, .slice a.A.A a.A.n a.A.c, .int .i64 a.A.e], .agg #[.bool b.S.s, .slice b.S.A b.S.n b.S.c, .int .i64 b.S.e, .bool b.W.s, .slice b.W.A b.W.n b.W.c, .int .i64 b.W.e, .bool b.C.s, .slice b.C.A b.C.n b.C.c, .int .i64 b.C.e, .bool b.A.s, .slice b.A.A b.A.n b.A.c, .int .i64 b.A.e]] w fun e w' => e = .returned (.bool k) ∧ Below w.heap.size w w' := by
  unfold sameM at hk
  obtain ⟨g0, h0⟩ : ∃ g, sameV a.S b.S = g := ⟨_, rfl⟩
  obtain ⟨g1, h1⟩ : ∃ g, sameV a.W b.W = g := ⟨_, rfl⟩
  obtain ⟨g2, h2⟩ : ∃ g, sameV a.C b.C = g := ⟨_, rfl⟩
  obtain ⟨g3, h3⟩ : ∃ g, sameV a.A b.A = g := ⟨_, rfl⟩
  rw [h0, h1, h2, h3] at hk
  have HK := Lib.hid hk
  have H0 := Lib.hid h0
  have H1 := Lib.hid h1
  have H2 := Lib.hid h2
  have H3 := Lib.hid h3
  clear hk h0 h1 h2 h3
  generalize hw : (w.alloc (.cells #[.bool a.S.s, .slice a.S.A a.S.n a.S.c, .int .i64 a.S.e, .bool a.W.s, .slice a.W.A a.W.n a.W.c, .int .i64 a.W.e, .bool a.C.s, .slice a.C.A a.C.n a.C.c, .int .i64 a.C.e, .bool a.A.s, .slice a.A.A a.A.n a.A.c, .int .i64 a.A.e] 39)).alloc (.cells #[.bool b.S.s, .slice b.S.A b.S.n b.S.c, .int .i64 b.S.e, .bool b.W.s, .slice b.W.A b.W.n b.W.c, .int .i64 b.W.e, .bool b.C.s, .slice b.C.A b.C.n b.C.c, .int .i64 b.C.e, .bool b.A.s, .slice b.A.A b.A.n b.A.c, .int .i64 b.A.e] 39) = w1
  obtain ⟨hA1, hB1, hb, hlo, hhi⟩ := boxes2 w _ _ hw
  replace hA1 : MBox w1 w.heap.size a := hA1
  replace hB1 : MBox w1 (w.heap.size + 1) b := hB1
  replace hRa := hRa.below hb (Nat.le_refl _)
  replace hRb := hRb.below hb (Nat.le_refl _)
  obtain ⟨⟨k0, k1, k2, k3, k4, k5, k6, k7, k8, k9, k10, k11⟩, kf⟩ := MBox.cells hA1
  obtain ⟨⟨z0, z1, z2, z3, z4, z5, z6, z7, z8, z9, z10, z11⟩, zf⟩ := MBox.cells hB1
  go_enter Tryd.func32, Tryd.ntmps32
  go_wp2_with fail
  try clear hw
  refine (Pa.rSame_any w1 a.S.s b.S.s a.S.A b.S.A a.S.n a.S.c b.S.n b.S.c a.S.xs b.S.xs a.S.e b.S.e (Ints.more hRa.S (Nat.le_refl _) (by omega)) (Ints.more hRb.S (Nat.le_refl _) (by omega)) g0 H0.out).mono ?_
  rintro e w2 ⟨rfl, hB⟩
  clear k0 k1 k2 k3 k4 k5 k6 k7 k8 k9 k10 k11 kf z0 z1 z2 z3 z4 z5 z6 z7 z8 z9 z10 z11 zf
  have l2 := hB.size
  replace hA1 : MBox w2 w.heap.size a := box_on hA1 hB (by omega)
  replace hB1 : MBox w2 (w.heap.size + 1) b := box_on hB1 hB (by omega)
  replace hRa := hRa.below hB (by omega)
  replace hRb := hRb.below hB (by omega)
  replace hb := hb.trans (hB.mono (by omega))
  clear hB
  cases g0
  · go_wp2
    go_ret
    exact ⟨by rw [← HK.out]; simp, hb⟩
  · skip
    obtain ⟨⟨k0, k1, k2, k3, k4, k5, k6, k7, k8, k9, k10, k11⟩, kf⟩ := MBox.cells hA1
    obtain ⟨⟨z0, z1, z2, z3, z4, z5, z6, z7, z8, z9, z10, z11⟩, zf⟩ := MBox.cells hB1
    go_wp2_with fail
    refine (Pa.rSame_any w2 a.W.s b.W.s a.W.A b.W.A a.W.n a.W.c b.W.n b.W.c a.W.xs b.W.xs a.W.e b.W.e (Ints.more hRa.W (Nat.le_refl _) (by omega)) (Ints.more hRb.W (Nat.le_refl _) (by omega)) g1 H1.out).mono ?_
    rintro e w3 ⟨rfl, hB⟩
    clear k0 k1 k2 k3 k4 k5 k6 k7 k8 k9 k10 k11 kf z0 z1 z2 z3 z4 z5 z6 z7 z8 z9 z10 z11 zf
    have l3 := hB.size
    replace hA1 : MBox w3 w.heap.size a := box_on hA1 hB (by omega)
    replace hB1 : MBox w3 (w.heap.size + 1) b := box_on hB1 hB (by omega)
    replace hRa := hRa.below hB (by omega)
    replace hRb := hRb.below hB (by omega)
    replace hb := hb.trans (hB.mono (by omega))
    clear hB
    cases g1
    · go_wp2
      go_ret
      exact ⟨by rw [← HK.out]; simp, hb⟩
    · skip
      obtain ⟨⟨k0, k1, k2, k3, k4, k5, k6, k7, k8, k9, k10, k11⟩, kf⟩ := MBox.cells hA1
      obtain ⟨⟨z0, z1, z2, z3, z4, z5, z6, z7, z8, z9, z10, z11⟩, zf⟩ := MBox.cells hB1
      go_wp2_with fail
      refine (Pa.rSame_any w3 a.C.s b.C.s a.C.A b.C.A a.C.n a.C.c b.C.n b.C.c a.C.xs b.C.xs a.C.e b.C.e (Ints.more hRa.C (Nat.le_refl _) (by omega)) (Ints.more hRb.C (Nat.le_refl _) (by omega)) g2 H2.out).mono ?_
      rintro e w4 ⟨rfl, hB⟩
      clear k0 k1 k2 k3 k4 k5 k6 k7 k8 k9 k10 k11 kf z0 z1 z2 z3 z4 z5 z6 z7 z8 z9 z10 z11 zf
      have l4 := hB.size
      replace hA1 : MBox w4 w.heap.size a := box_on hA1 hB (by omega)
      replace hB1 : MBox w4 (w.heap.size + 1) b := box_on hB1 hB (by omega)
      replace hRa := hRa.below hB (by omega)
      replace hRb := hRb.below hB (by omega)
      replace hb := hb.trans (hB.mono (by omega))
      clear hB
      cases g2
      · go_wp2
        go_ret
        exact ⟨by rw [← HK.out]; simp, hb⟩
      · skip
        obtain ⟨⟨k0, k1, k2, k3, k4, k5, k6, k7, k8, k9, k10, k11⟩, kf⟩ := MBox.cells hA1
        obtain ⟨⟨z0, z1, z2, z3, z4, z5, z6, z7, z8, z9, z10, z11⟩, zf⟩ := MBox.cells hB1
        go_wp2_with fail
        refine (Pa.rSame_any w4 a.A.s b.A.s a.A.A b.A.A a.A.n a.A.c b.A.n b.A.c a.A.xs b.A.xs a.A.e b.A.e (Ints.more hRa.A (Nat.le_refl _) (by omega)) (Ints.more hRb.A (Nat.le_refl _) (by omega)) g3 H3.out).mono ?_
        rintro e w5 ⟨rfl, hB⟩
        clear k0 k1 k2 k3 k4 k5 k6 k7 k8 k9 k10 k11 kf z0 z1 z2 z3 z4 z5 z6 z7 z8 z9 z10 z11 zf
        have l5 := hB.size
        replace hA1 : MBox w5 w.heap.size a := box_on hA1 hB (by omega)
        replace hB1 : MBox w5 (w.heap.size + 1) b := box_on hB1 hB (by omega)
        replace hRa := hRa.below hB (by omega)
        replace hRb := hRb.below hB (by omega)
        replace hb := hb.trans (hB.mono (by omega))
        clear hB
        go_wp2
        go_ret
        exact ⟨by rw [← HK.out]; simp, hb⟩
set_option maxHeartbeats 6400000 in
set_option maxRecDepth 100000 in
theorem RMay_any (w : World) (m : Mv) (hRm : MRows w 0 w.heap.size m) (k : Bool) (hk : mayMB m = k) :
    Calls Tryd.prog 73 #[.agg #[.bool m.S.s, .slice m.S.A m.S.n m.S.c, .int .i64 m.S.e, .bool m.W.s, .slice m.W.A m.W.n m.W.c, .int .i64 m.W.e, .bool m.C.s, .slice m.C.A m.C.n m.C.c, .int .i64 m.C.e, .bool m.A.s, .slice m.A.A m.A.n m.A.c, .int .i64 m.A.e]] w fun e w' => e = .returned (.bool k) ∧ Below w.heap.size w w' := by
  unfold mayMB at hk
  obtain ⟨g0, h0⟩ : ∃ g, mayB m.S = g := ⟨_, rfl⟩
  obtain ⟨g1, h1⟩ : ∃ g, mayB m.W = g := ⟨_, rfl⟩
  obtain ⟨g2, h2⟩ : ∃ g, mayB m.C = g := ⟨_, rfl⟩
  obtain ⟨g3, h3⟩ : ∃ g, mayB m.A = g := ⟨_, rfl⟩
  rw [h0, h1, h2, h3] at hk
  have HK := Lib.hid hk
  have H0 := Lib.hid h0
  have H1 := Lib.hid h1
  have H2 := Lib.hid h2
  have H3 := Lib.hid h3
  clear hk h0 h1 h2 h3
  generalize hw : w.alloc (.cells #[.bool m.S.s, .slice m.S.A m.S.n m.S.c, .int .i64 m.S.e, .bool m.W.s, .slice m.W.A m.W.n m.W.c, .int .i64 m.W.e, .bool m.C.s, .slice m.C.A m.C.n m.C.c, .int .i64 m.C.e, .bool m.A.s, .slice m.A.A m.A.n m.A.c, .int .i64 m.A.e] 39) = w1
  have hM1 : MBox w1 w.heap.size m := by rw [← hw]; exact heap_alloc_last _ _
  have hb : Below w.heap.size w w1 := by rw [← hw]; exact (Below.refl _ w).alloc (Nat.le_refl _) _
  have hlo : w.heap.size + 1 ≤ w1.heap.size := by rw [← hw]; simp
  replace hRm := hRm.below hb (Nat.le_refl _)
  obtain ⟨⟨k0, k1, k2, k3, k4, k5, k6, k7, k8, k9, k10, k11⟩, kf⟩ := MBox.cells hM1
  go_enter Tryd.func73, Tryd.ntmps73
  go_wp2_with fail
  try clear hw
  refine (rMay_all w1 m.S (Ints.more hRm.S (Nat.le_refl _) (by omega)) g0 H0.out).mono ?_
  rintro e w2 ⟨rfl, hB⟩
  clear k0 k1 k2 k3 k4 k5 k6 k7 k8 k9 k10 k11 kf
  have l2 := hB.size
  replace hM1 : MBox w2 w.heap.size m := box_on hM1 hB (by omega)
  replace hRm := hRm.below hB (by omega)
  replace hb := hb.trans (hB.mono (by omega))
  clear hB
  cases g0
  · go_wp2
    go_ret
    exact ⟨by rw [← HK.out]; simp, hb⟩
  · skip
    obtain ⟨⟨k0, k1, k2, k3, k4, k5, k6, k7, k8, k9, k10, k11⟩, kf⟩ := MBox.cells hM1
    go_wp2_with fail
    refine (rMay_all w2 m.W (Ints.more hRm.W (Nat.le_refl _) (by omega)) g1 H1.out).mono ?_
    rintro e w3 ⟨rfl, hB⟩
    clear k0 k1 k2 k3 k4 k5 k6 k7 k8 k9 k10 k11 kf
    have l3 := hB.size
    replace hM1 : MBox w3 w.heap.size m := box_on hM1 hB (by omega)
    replace hRm := hRm.below hB (by omega)
    replace hb := hb.trans (hB.mono (by omega))
    clear hB
    cases g1
    · go_wp2
      go_ret
      exact ⟨by rw [← HK.out]; simp, hb⟩
    · skip
      obtain ⟨⟨k0, k1, k2, k3, k4, k5, k6, k7, k8, k9, k10, k11⟩, kf⟩ := MBox.cells hM1
      go_wp2_with fail
      refine (rMay_all w3 m.C (Ints.more hRm.C (Nat.le_refl _) (by omega)) g2 H2.out).mono ?_
      rintro e w4 ⟨rfl, hB⟩
      clear k0 k1 k2 k3 k4 k5 k6 k7 k8 k9 k10 k11 kf
      have l4 := hB.size
      replace hM1 : MBox w4 w.heap.size m := box_on hM1 hB (by omega)
      replace hRm := hRm.below hB (by omega)
      replace hb := hb.trans (hB.mono (by omega))
      clear hB
      cases g2
      · go_wp2
        go_ret
        exact ⟨by rw [← HK.out]; simp, hb⟩
      · skip
        obtain ⟨⟨k0, k1, k2, k3, k4, k5, k6, k7, k8, k9, k10, k11⟩, kf⟩ := MBox.cells hM1
        go_wp2_with fail
        refine (rMay_all w4 m.A (Ints.more hRm.A (Nat.le_refl _) (by omega)) g3 H3.out).mono ?_
        rintro e w5 ⟨rfl, hB⟩
        clear k0 k1 k2 k3 k4 k5 k6 k7 k8 k9 k10 k11 kf
        have l5 := hB.size
        replace hM1 : MBox w5 w.heap.size m := box_on hM1 hB (by omega)
        replace hRm := hRm.below hB (by omega)
        replace hb := hb.trans (hB.mono (by omega))
        clear hB
        go_wp2
        go_ret
        exact ⟨by rw [← HK.out]; simp, hb⟩
end Ma
end Go.Proofs.YtlbkepiflhchdaaDoor

namespace Go.Proofs.YtlbkepiflhchdaaDoor
open Go.RowKit
namespace Ma
open Dp Dy
set_option maxHeartbeats 6400000 in
set_option maxRecDepth 100000 in
theorem RTwinM_any (w : World) (m : Mv) (hR : MRows w 0 w.heap.size m) (hn : ∀ x, x < 4 → (m.get x).n ≤ 1000000) :
    Calls Tryd.prog 29 #[.agg #[.bool m.S.s, .slice m.S.A m.S.n m.S.c, .int .i64 m.S.e, .bool m.W.s, .slice m.W.A m.W.n m.W.c, .int .i64 m.W.e, .bool m.C.s, .slice m.C.A m.C.n m.C.c, .int .i64 m.C.e, .bool m.A.s, .slice m.A.A m.A.n m.A.c, .int .i64 m.A.e]] w fun e w' => ∃ m' : Mv, e = .returned (.agg #[.bool m'.S.s, .slice m'.S.A m'.S.n m'.S.c, .int .i64 m'.S.e, .bool m'.W.s, .slice m'.W.A m'.W.n m'.W.c, .int .i64 m'.W.e, .bool m'.C.s, .slice m'.C.A m'.C.n m'.C.c, .int .i64 m'.C.e, .bool m'.A.s, .slice m'.A.A m'.A.n m'.A.c, .int .i64 m'.A.e]) ∧ (∀ x, x < 4 → TwinV (m.get x) (m'.get x)) ∧ Below w.heap.size w w' ∧ MRows w' w.heap.size w'.heap.size m' := by
  generalize hw1 : (w.alloc (.cells #[.bool m.S.s, .slice m.S.A m.S.n m.S.c, .int .i64 m.S.e, .bool m.W.s, .slice m.W.A m.W.n m.W.c, .int .i64 m.W.e, .bool m.C.s, .slice m.C.A m.C.n m.C.c, .int .i64 m.C.e, .bool m.A.s, .slice m.A.A m.A.n m.A.c, .int .i64 m.A.e] 39)).alloc (.cells #[.bool false, .slice none 0 0, .int .i64 0, .bool false, .slice none 0 0, .int .i64 0, .bool false, .slice none 0 0, .int .i64 0, .bool false, .slice none 0 0, .int .i64 0] 39) = w1
  obtain ⟨hM, hZ, hBL, lo1, hi1⟩ := boxes2 w _ _ hw1
  replace hM : MBox w1 w.heap.size m := hM
  replace hZ : MBox w1 (w.heap.size + 1) ZM := hZ
  replace hBL : Below w.heap.size w w1 := hBL
  have Rm : MRows w1 0 w1.heap.size m := hR.on hBL
  have n0 : m.S.n ≤ 1000000 := hn 0 (by decide)
  have n1 : m.W.n ≤ 1000000 := hn 1 (by decide)
  have n2 : m.C.n ≤ 1000000 := hn 2 (by decide)
  have n3 : m.A.n ≤ 1000000 := hn 3 (by decide)
  clear hn
  go_enter Tryd.func29, Tryd.ntmps29
  go_wp2_with fail
  try clear hw1
  refine region_E (Keeps w1) [13] (m := 14) (L := #[false, false, false, false, false, false, false, false, false, false, false, false, false, false]) (by kernel_rfl) (by rfl) (by rfl) ?_
  have kp_ : Keeps w1 w1.drew := fun _ _ => rfl
  have hB : Below w1.heap.size w1 w1.drew := (Below.refl _ _).drew
  replace Rm : MRows w1.drew 0 w1.drew.heap.size _ := MRows.on Rm hB
  replace hBL := hBL.trans (hB.mono (by omega))
  have lw_1 : w1.heap.size ≤ w1.drew.heap.size := hB.size
  clear hB
  generalize w1.drew = w_1 at *
  refine pureE (i := 0) (L := #[true, false, false, false, false, false, false, false, false, false, false, false, false, false]) (v := ?_) rfl (by rfl) (by kernel_rfl) (by kernel_rfl) (by kernel_rfl) (fun _ _ _ h => h) (by rfl) ?hy6 ?rest6
  case hy6 => intro w; go_simp; (try with_reducible rfl)
  try simp only [Act.put, List.setIfInBounds_toArray, List.set_cons_zero, List.set_cons_succ]
  refine pureE (i := 3) (L := #[true, false, false, true, false, false, false, false, false, false, false, false, false, false]) (v := ?_) rfl (by rfl) (by kernel_rfl) (by kernel_rfl) (by kernel_rfl) (fun _ _ _ h => h) (by rfl) ?hy7 ?rest7
  case hy7 => intro w; go_simp; (try with_reducible rfl)
  try simp only [Act.put, List.setIfInBounds_toArray, List.set_cons_zero, List.set_cons_succ]
  refine pureE (i := 6) (L := #[true, false, false, true, false, false, true, false, false, false, false, false, false, false]) (v := ?_) rfl (by rfl) (by kernel_rfl) (by kernel_rfl) (by kernel_rfl) (fun _ _ _ h => h) (by rfl) ?hy8 ?rest8
  case hy8 => intro w; go_simp; (try with_reducible rfl)
  try simp only [Act.put, List.setIfInBounds_toArray, List.set_cons_zero, List.set_cons_succ]
  refine pureE (i := 9) (L := #[true, false, false, true, false, false, true, false, false, true, false, false, false, false]) (v := ?_) rfl (by rfl) (by kernel_rfl) (by kernel_rfl) (by kernel_rfl) (fun _ _ _ h => h) (by rfl) ?hy9 ?rest9
  case hy9 => intro w; go_simp; (try with_reducible rfl)
  try simp only [Act.put, List.setIfInBounds_toArray, List.set_cons_zero, List.set_cons_succ]
  refine readE (i := 1) (L := #[true, true, false, true, false, false, true, false, false, true, false, false, false, false]) (v := .agg #[.bool m.S.s, .slice m.S.A m.S.n m.S.c, .int .i64 m.S.e]) rfl (by rfl) (by kernel_rfl) (by kernel_rfl) (by kernel_rfl) (fun _ _ _ h => h) (by assumption) (by rfl) ?yr_2 ?zr_2
  case yr_2 =>
    intro w' h1
    obtain ⟨⟨k0, k1, k2, k3, k4, k5, k6, k7, k8, k9, k10, k11⟩, kf⟩ := MBox.cells ((h1 _ (by omega)).trans hM)
    go_simp
  try simp only [Act.put, List.setIfInBounds_toArray, List.set_cons_zero, List.set_cons_succ]
  refine readE (i := 4) (L := #[true, true, false, true, true, false, true, false, false, true, false, false, false, false]) (v := .agg #[.bool m.W.s, .slice m.W.A m.W.n m.W.c, .int .i64 m.W.e]) rfl (by rfl) (by kernel_rfl) (by kernel_rfl) (by kernel_rfl) (fun _ _ _ h => h) (by assumption) (by rfl) ?yr_3 ?zr_3
  case yr_3 =>
    intro w' h1
    obtain ⟨⟨k0, k1, k2, k3, k4, k5, k6, k7, k8, k9, k10, k11⟩, kf⟩ := MBox.cells ((h1 _ (by omega)).trans hM)
    go_simp
  try simp only [Act.put, List.setIfInBounds_toArray, List.set_cons_zero, List.set_cons_succ]
  refine readE (i := 7) (L := #[true, true, false, true, true, false, true, true, false, true, false, false, false, false]) (v := .agg #[.bool m.C.s, .slice m.C.A m.C.n m.C.c, .int .i64 m.C.e]) rfl (by rfl) (by kernel_rfl) (by kernel_rfl) (by kernel_rfl) (fun _ _ _ h => h) (by assumption) (by rfl) ?yr_4 ?zr_4
  case yr_4 =>
    intro w' h1
    obtain ⟨⟨k0, k1, k2, k3, k4, k5, k6, k7, k8, k9, k10, k11⟩, kf⟩ := MBox.cells ((h1 _ (by omega)).trans hM)
    go_simp
  try simp only [Act.put, List.setIfInBounds_toArray, List.set_cons_zero, List.set_cons_succ]
  refine readE (i := 10) (L := #[true, true, false, true, true, false, true, true, false, true, true, false, false, false]) (v := .agg #[.bool m.A.s, .slice m.A.A m.A.n m.A.c, .int .i64 m.A.e]) rfl (by rfl) (by kernel_rfl) (by kernel_rfl) (by kernel_rfl) (fun _ _ _ h => h) (by assumption) (by rfl) ?yr_5 ?zr_5
  case yr_5 =>
    intro w' h1
    obtain ⟨⟨k0, k1, k2, k3, k4, k5, k6, k7, k8, k9, k10, k11⟩, kf⟩ := MBox.cells ((h1 _ (by omega)).trans hM)
    go_simp
  try simp only [Act.put, List.setIfInBounds_toArray, List.set_cons_zero, List.set_cons_succ]
  refine stepK (i := 2) (L := #[true, true, true, true, true, false, true, true, false, true, true, false, false, false]) rfl (by rfl) (by kernel_rfl) (by rfl) (fun K hK => ?_)
  go_simp
  go_at_call 19
  refine (Pa.rTwin_any w_1 m.S.s m.S.A m.S.n m.S.c m.S.xs m.S.e (MRows.get Rm 0) n0).mono ?_
  rintro e' w_6 ⟨A0, c0, rfl, hc0, hB, hlt0, hI⟩
  replace kp_ := Keeps.on kp_ (by omega) hB
  have lw_6 : w_1.heap.size ≤ w_6.heap.size := hB.size
  replace Rm := MRows.on Rm hB
  replace hBL := hBL.trans (hB.mono (by omega))
  have I0 : Ints _ (w.heap.size + 2) _ .u32 A0 m.S.n m.S.xs := Ints.more hI (by omega) (Nat.le_refl _)
  clear hI hlt0
  clear hB
  refine hK _ _ ⟨fun _ _ => kp_, ?_⟩
  clear hK K
  try simp only [Act.put, List.setIfInBounds_toArray, List.set_cons_zero, List.set_cons_succ]
  refine stepK (i := 5) (L := #[true, true, true, true, true, true, true, true, false, true, true, false, false, false]) rfl (by rfl) (by kernel_rfl) (by rfl) (fun K hK => ?_)
  go_simp
  go_at_call 19
  refine (Pa.rTwin_any w_6 m.W.s m.W.A m.W.n m.W.c m.W.xs m.W.e (MRows.get Rm 1) n1).mono ?_
  rintro e' w_7 ⟨A1, c1, rfl, hc1, hB, hlt1, hI⟩
  replace kp_ := Keeps.on kp_ (by omega) hB
  have lw_7 : w_6.heap.size ≤ w_7.heap.size := hB.size
  replace Rm := MRows.on Rm hB
  replace I0 := (Ints.below I0 hB (Nat.le_refl _)).more (Nat.le_refl _) hB.size
  replace hBL := hBL.trans (hB.mono (by omega))
  have I1 : Ints _ (w.heap.size + 2) _ .u32 A1 m.W.n m.W.xs := Ints.more hI (by omega) (Nat.le_refl _)
  clear hI hlt1
  clear hB
  refine hK _ _ ⟨fun _ _ => kp_, ?_⟩
  clear hK K
  try simp only [Act.put, List.setIfInBounds_toArray, List.set_cons_zero, List.set_cons_succ]
  refine stepK (i := 8) (L := #[true, true, true, true, true, true, true, true, true, true, true, false, false, false]) rfl (by rfl) (by kernel_rfl) (by rfl) (fun K hK => ?_)
  go_simp
  go_at_call 19
  refine (Pa.rTwin_any w_7 m.C.s m.C.A m.C.n m.C.c m.C.xs m.C.e (MRows.get Rm 2) n2).mono ?_
  rintro e' w_8 ⟨A2, c2, rfl, hc2, hB, hlt2, hI⟩
  replace kp_ := Keeps.on kp_ (by omega) hB
  have lw_8 : w_7.heap.size ≤ w_8.heap.size := hB.size
  replace Rm := MRows.on Rm hB
  replace I0 := (Ints.below I0 hB (Nat.le_refl _)).more (Nat.le_refl _) hB.size
  replace I1 := (Ints.below I1 hB (Nat.le_refl _)).more (Nat.le_refl _) hB.size
  replace hBL := hBL.trans (hB.mono (by omega))
  have I2 : Ints _ (w.heap.size + 2) _ .u32 A2 m.C.n m.C.xs := Ints.more hI (by omega) (Nat.le_refl _)
  clear hI hlt2
  clear hB
  refine hK _ _ ⟨fun _ _ => kp_, ?_⟩
  clear hK K
  try simp only [Act.put, List.setIfInBounds_toArray, List.set_cons_zero, List.set_cons_succ]
  refine stepK (i := 11) (L := #[true, true, true, true, true, true, true, true, true, true, true, true, false, false]) rfl (by rfl) (by kernel_rfl) (by rfl) (fun K hK => ?_)
  go_simp
  go_at_call 19
  refine (Pa.rTwin_any w_8 m.A.s m.A.A m.A.n m.A.c m.A.xs m.A.e (MRows.get Rm 3) n3).mono ?_
  rintro e' w_9 ⟨A3, c3, rfl, hc3, hB, hlt3, hI⟩
  replace kp_ := Keeps.on kp_ (by omega) hB
  have lw_9 : w_8.heap.size ≤ w_9.heap.size := hB.size
  replace Rm := MRows.on Rm hB
  replace I0 := (Ints.below I0 hB (Nat.le_refl _)).more (Nat.le_refl _) hB.size
  replace I1 := (Ints.below I1 hB (Nat.le_refl _)).more (Nat.le_refl _) hB.size
  replace I2 := (Ints.below I2 hB (Nat.le_refl _)).more (Nat.le_refl _) hB.size
  replace hBL := hBL.trans (hB.mono (by omega))
  have I3 : Ints _ (w.heap.size + 2) _ .u32 A3 m.A.n m.A.xs := Ints.more hI (by omega) (Nat.le_refl _)
  clear hI hlt3
  clear hB
  refine hK _ _ ⟨fun _ _ => kp_, ?_⟩
  clear hK K
  try simp only [Act.put, List.setIfInBounds_toArray, List.set_cons_zero, List.set_cons_succ]
  refine pureE (i := 12) (L := #[true, true, true, true, true, true, true, true, true, true, true, true, true, false]) (v := ?_) rfl (by rfl) (by kernel_rfl) (by kernel_rfl) (by kernel_rfl) (fun _ _ _ h => h) (by rfl) ?hy18 ?rest18
  case hy18 => intro w; go_simp; (try with_reducible rfl)
  try simp only [Act.put, List.setIfInBounds_toArray, List.set_cons_zero, List.set_cons_succ]
  have hZ2 : MBox w_9 (w.heap.size + 1) ZM := (kp_ _ (by omega)).trans hZ
  obtain ⟨⟨z0, z1, z2, z3, z4, z5, z6, z7, z8, z9, z10, z11⟩, zf⟩ := MBox.cells hZ2
  refine stepK (i := 13) (L := #[true, true, true, true, true, true, true, true, true, true, true, true, true, true]) rfl (by rfl) (by kernel_rfl) (by rfl) (fun K hK => ?_)
  go_simp
  refine hK _ _ ⟨fun h => absurd h (by decide), ?_⟩
  clear hK K z0 z1 z2 z3 z4 z5 z6 z7 z8 z9 z10 z11 zf
  try simp only [Act.put, List.setIfInBounds_toArray, List.set_cons_zero, List.set_cons_succ]
  obtain ⟨M, hMe⟩ : ∃ M : Mv, M = ⟨⟨m.S.s, A0, m.S.n, c0, m.S.e, m.S.xs⟩, ⟨m.W.s, A1, m.W.n, c1, m.W.e, m.W.xs⟩, ⟨m.C.s, A2, m.C.n, c2, m.C.e, m.C.xs⟩, ⟨m.A.s, A3, m.A.n, c3, m.A.e, m.A.xs⟩⟩ := ⟨_, rfl⟩
  have hX : MBox ((((((((((((w_9.setCell ⟨w.heap.size + 1, 0, none⟩ (.bool m.S.s)).setCell ⟨w.heap.size + 1, 1, none⟩ (.slice A0 m.S.n c0)).setCell ⟨w.heap.size + 1, 2, none⟩ (.int .i64 m.S.e)).setCell ⟨w.heap.size + 1, 3, none⟩ (.bool m.W.s)).setCell ⟨w.heap.size + 1, 4, none⟩ (.slice A1 m.W.n c1)).setCell ⟨w.heap.size + 1, 5, none⟩ (.int .i64 m.W.e)).setCell ⟨w.heap.size + 1, 6, none⟩ (.bool m.C.s)).setCell ⟨w.heap.size + 1, 7, none⟩ (.slice A2 m.C.n c2)).setCell ⟨w.heap.size + 1, 8, none⟩ (.int .i64 m.C.e)).setCell ⟨w.heap.size + 1, 9, none⟩ (.bool m.A.s)).setCell ⟨w.heap.size + 1, 10, none⟩ (.slice A3 m.A.n c3)).setCell ⟨w.heap.size + 1, 11, none⟩ (.int .i64 m.A.e)) (w.heap.size + 1) M := by rw [hMe]; exact MBox.all hZ2 ⟨⟨m.S.s, A0, m.S.n, c0, m.S.e, m.S.xs⟩, ⟨m.W.s, A1, m.W.n, c1, m.W.e, m.W.xs⟩, ⟨m.C.s, A2, m.C.n, c2, m.C.e, m.C.xs⟩, ⟨m.A.s, A3, m.A.n, c3, m.A.e, m.A.xs⟩⟩
  have hRX : MRows ((((((((((((w_9.setCell ⟨w.heap.size + 1, 0, none⟩ (.bool m.S.s)).setCell ⟨w.heap.size + 1, 1, none⟩ (.slice A0 m.S.n c0)).setCell ⟨w.heap.size + 1, 2, none⟩ (.int .i64 m.S.e)).setCell ⟨w.heap.size + 1, 3, none⟩ (.bool m.W.s)).setCell ⟨w.heap.size + 1, 4, none⟩ (.slice A1 m.W.n c1)).setCell ⟨w.heap.size + 1, 5, none⟩ (.int .i64 m.W.e)).setCell ⟨w.heap.size + 1, 6, none⟩ (.bool m.C.s)).setCell ⟨w.heap.size + 1, 7, none⟩ (.slice A2 m.C.n c2)).setCell ⟨w.heap.size + 1, 8, none⟩ (.int .i64 m.C.e)).setCell ⟨w.heap.size + 1, 9, none⟩ (.bool m.A.s)).setCell ⟨w.heap.size + 1, 10, none⟩ (.slice A3 m.A.n c3)).setCell ⟨w.heap.size + 1, 11, none⟩ (.int .i64 m.A.e)) w.heap.size w_9.heap.size M := by
    rw [hMe]
    have hfar : ∀ {A : Option Addr} {n : Nat} {xs : List Int}, Ints w_9 (w.heap.size + 2) w_9.heap.size .u32 A n xs → Ints ((((((((((((w_9.setCell ⟨w.heap.size + 1, 0, none⟩ (.bool m.S.s)).setCell ⟨w.heap.size + 1, 1, none⟩ (.slice A0 m.S.n c0)).setCell ⟨w.heap.size + 1, 2, none⟩ (.int .i64 m.S.e)).setCell ⟨w.heap.size + 1, 3, none⟩ (.bool m.W.s)).setCell ⟨w.heap.size + 1, 4, none⟩ (.slice A1 m.W.n c1)).setCell ⟨w.heap.size + 1, 5, none⟩ (.int .i64 m.W.e)).setCell ⟨w.heap.size + 1, 6, none⟩ (.bool m.C.s)).setCell ⟨w.heap.size + 1, 7, none⟩ (.slice A2 m.C.n c2)).setCell ⟨w.heap.size + 1, 8, none⟩ (.int .i64 m.C.e)).setCell ⟨w.heap.size + 1, 9, none⟩ (.bool m.A.s)).setCell ⟨w.heap.size + 1, 10, none⟩ (.slice A3 m.A.n c3)).setCell ⟨w.heap.size + 1, 11, none⟩ (.int .i64 m.A.e)) w.heap.size w_9.heap.size .u32 A n xs := fun h => (ints_rng h fun k h1 h2 => far_all (by omega) ⟨⟨m.S.s, A0, m.S.n, c0, m.S.e, m.S.xs⟩, ⟨m.W.s, A1, m.W.n, c1, m.W.e, m.W.xs⟩, ⟨m.C.s, A2, m.C.n, c2, m.C.e, m.C.xs⟩, ⟨m.A.s, A3, m.A.n, c3, m.A.e, m.A.xs⟩⟩).more (by omega) (Nat.le_refl _)
    exact ⟨hfar I0, hfar I1, hfar I2, hfar I3⟩
  have hY : Below w.heap.size w ((((((((((((w_9.setCell ⟨w.heap.size + 1, 0, none⟩ (.bool m.S.s)).setCell ⟨w.heap.size + 1, 1, none⟩ (.slice A0 m.S.n c0)).setCell ⟨w.heap.size + 1, 2, none⟩ (.int .i64 m.S.e)).setCell ⟨w.heap.size + 1, 3, none⟩ (.bool m.W.s)).setCell ⟨w.heap.size + 1, 4, none⟩ (.slice A1 m.W.n c1)).setCell ⟨w.heap.size + 1, 5, none⟩ (.int .i64 m.W.e)).setCell ⟨w.heap.size + 1, 6, none⟩ (.bool m.C.s)).setCell ⟨w.heap.size + 1, 7, none⟩ (.slice A2 m.C.n c2)).setCell ⟨w.heap.size + 1, 8, none⟩ (.int .i64 m.C.e)).setCell ⟨w.heap.size + 1, 9, none⟩ (.bool m.A.s)).setCell ⟨w.heap.size + 1, 10, none⟩ (.slice A3 m.A.n c3)).setCell ⟨w.heap.size + 1, 11, none⟩ (.int .i64 m.A.e)) := below_all hBL (by omega) ⟨⟨m.S.s, A0, m.S.n, c0, m.S.e, m.S.xs⟩, ⟨m.W.s, A1, m.W.n, c1, m.W.e, m.W.xs⟩, ⟨m.C.s, A2, m.C.n, c2, m.C.e, m.C.xs⟩, ⟨m.A.s, A3, m.A.n, c3, m.A.e, m.A.xs⟩⟩
  have hs : w_9.heap.size ≤ ((((((((((((w_9.setCell ⟨w.heap.size + 1, 0, none⟩ (.bool m.S.s)).setCell ⟨w.heap.size + 1, 1, none⟩ (.slice A0 m.S.n c0)).setCell ⟨w.heap.size + 1, 2, none⟩ (.int .i64 m.S.e)).setCell ⟨w.heap.size + 1, 3, none⟩ (.bool m.W.s)).setCell ⟨w.heap.size + 1, 4, none⟩ (.slice A1 m.W.n c1)).setCell ⟨w.heap.size + 1, 5, none⟩ (.int .i64 m.W.e)).setCell ⟨w.heap.size + 1, 6, none⟩ (.bool m.C.s)).setCell ⟨w.heap.size + 1, 7, none⟩ (.slice A2 m.C.n c2)).setCell ⟨w.heap.size + 1, 8, none⟩ (.int .i64 m.C.e)).setCell ⟨w.heap.size + 1, 9, none⟩ (.bool m.A.s)).setCell ⟨w.heap.size + 1, 10, none⟩ (.slice A3 m.A.n c3)).setCell ⟨w.heap.size + 1, 11, none⟩ (.int .i64 m.A.e)).heap.size := Nat.le_of_eq (size_all (w := w_9) (g := w.heap.size + 1) ⟨⟨m.S.s, A0, m.S.n, c0, m.S.e, m.S.xs⟩, ⟨m.W.s, A1, m.W.n, c1, m.W.e, m.W.xs⟩, ⟨m.C.s, A2, m.C.n, c2, m.C.e, m.C.xs⟩, ⟨m.A.s, A3, m.A.n, c3, m.A.e, m.A.xs⟩⟩).symm
  generalize ((((((((((((w_9.setCell ⟨w.heap.size + 1, 0, none⟩ (.bool m.S.s)).setCell ⟨w.heap.size + 1, 1, none⟩ (.slice A0 m.S.n c0)).setCell ⟨w.heap.size + 1, 2, none⟩ (.int .i64 m.S.e)).setCell ⟨w.heap.size + 1, 3, none⟩ (.bool m.W.s)).setCell ⟨w.heap.size + 1, 4, none⟩ (.slice A1 m.W.n c1)).setCell ⟨w.heap.size + 1, 5, none⟩ (.int .i64 m.W.e)).setCell ⟨w.heap.size + 1, 6, none⟩ (.bool m.C.s)).setCell ⟨w.heap.size + 1, 7, none⟩ (.slice A2 m.C.n c2)).setCell ⟨w.heap.size + 1, 8, none⟩ (.int .i64 m.C.e)).setCell ⟨w.heap.size + 1, 9, none⟩ (.bool m.A.s)).setCell ⟨w.heap.size + 1, 10, none⟩ (.slice A3 m.A.n c3)).setCell ⟨w.heap.size + 1, 11, none⟩ (.int .i64 m.A.e)) = U at *
  have hTw : ∀ x, x < 4 → TwinV (m.get x) (M.get x) := by
    rw [hMe]
    exact four ⟨rfl, rfl, rfl, rfl, hc0⟩ ⟨rfl, rfl, rfl, rfl, hc1⟩ ⟨rfl, rfl, rfl, rfl, hc2⟩ ⟨rfl, rfl, rfl, rfl, hc3⟩
  refine doneE (by kernel_rfl) ?_ _
  go_wp2
  obtain ⟨⟨k0, k1, k2, k3, k4, k5, k6, k7, k8, k9, k10, k11⟩, kf⟩ := MBox.cells hX
  exact bodyPost_ret (v := .agg #[.bool M.S.s, .slice M.S.A M.S.n M.S.c, .int .i64 M.S.e, .bool M.W.s, .slice M.W.A M.W.n M.W.c, .int .i64 M.W.e, .bool M.C.s, .slice M.C.A M.C.n M.C.c, .int .i64 M.C.e, .bool M.A.s, .slice M.A.A M.A.n M.A.c, .int .i64 M.A.e]) (by simp [results, Tryd.results29, go_sem, k0, k1, k2, k3, k4, k5, k6, k7, k8, k9, k10, k11]) rfl ⟨M, rfl, hTw, hY, hRX.more (Nat.le_refl _) hs⟩
end Ma
end Go.Proofs.YtlbkepiflhchdaaDoor
