/- mean.middle: walks (printed by a program of mine). -/
/- mean.Done: walks (printed by a program of mine). -/
/- Array values of two pointers. -/
import Derived.Test.YtlbkepiflhchdaaDoorBv09
namespace Go.Proofs.YtlbkepiflhchdaaDoor
open Go.RowKit
namespace Ma
open Dp Dy
theorem add_two {A B s : Dn} {q : Int} (h : addD A B = (s, q)) : q = 0 ∨ q = 10 := by
  rcases add_cases A B with k | k
  · rw [h] at k
    exact .inl k
  · rw [h] at k
    injection k with _ k
    exact .inr k
theorem half_two' {A s : Dn} {q : Int} (h : halfD A = (s, q)) : q = 0 ∨ q = 10 := by
  rcases half_cases A with k | k
  · rw [h] at k
    exact .inl k
  · rw [h] at k
    injection k with _ k
    exact .inr k
theorem sub_two {A B s : Dn} {q : Int} (h : subD A B = (s, q)) : q = 0 ∨ q = 10 := by
  rcases sub_cases A B with k | k
  · rw [h] at k
    exact .inl k
  · rw [h] at k
    injection k with _ k
    exact .inr k
set_option maxHeartbeats 12800000 in
set_option maxRecDepth 100000 in
theorem middle_any (w : World) (a b : Dv) (hA : Ints w 0 w.heap.size .u32 a.A a.n a.xs) (hB : Ints w 0 w.heap.size .u32 b.A b.n b.xs) (hT : Tab w) (A B : Dn) (ia : Is A a) (ib : Is B b) (ma : A.May) (mb : B.May) (r d : Dn) (code : Int) (hr : midD A B = ((r, d), code)) :
    Calls Tryd.prog 80 #[.agg #[.bool a.s, .slice a.A a.n a.c, .int .i64 a.e], .agg #[.bool b.s, .slice b.A b.n b.c, .int .i64 b.e]] w fun e w' => ∃ M D : Dv, e = .returned (.tuple #[.agg #[.bool M.s, .slice M.A M.n M.c, .int .i64 M.e], .agg #[.bool D.s, .slice D.A D.n D.c, .int .i64 D.e], .int .i64 code]) ∧ Below w.heap.size w w' ∧ Is r M ∧ Is d D ∧ Ints w' w.heap.size w'.heap.size .u32 M.A M.n M.xs ∧ Ints w' w.heap.size w'.heap.size .u32 D.A D.n D.xs := by
  obtain ⟨s1, q1, h1⟩ : ∃ s q, addD A B = (s, q) := ⟨_, _, rfl⟩
  obtain ⟨s2, q2, h2⟩ : ∃ s q, halfD s1 = (s, q) := ⟨_, _, rfl⟩
  obtain ⟨s3, q3, h3⟩ : ∃ s q, subD s2 A = (s, q) := ⟨_, _, rfl⟩
  have m1 : s1.May := by have := add_may A B; rw [h1] at this; exact this
  have m2 : s2.May := by have := half_may s1; rw [h2] at this; exact this
  have x1 : addX a.s a.xs a.e b.s b.xs b.e = (s1, q1) := (ia.add ib ma mb).trans h1
  have x2 : halfX s1.neg (canon 4294967296 s1.m) s1.e = (s2, q2) := (Is.half (d := ⟨s1.neg, none, 0, 0, s1.e, canon 4294967296 s1.m⟩) ⟨rfl, rfl, rfl⟩ m1).trans h2
  have x3 : subX s2.neg (canon 4294967296 s2.m) s2.e a.s a.xs a.e = (s3, q3) := (Is.sub (d := ⟨s2.neg, none, 0, 0, s2.e, canon 4294967296 s2.m⟩) ⟨rfl, rfl, rfl⟩ ia m2 ma).trans h3
  have X1 := Lib.hid x1
  have X2 := Lib.hid x2
  have X3 := Lib.hid x3
  have c1 := Lib.hid (add_two h1)
  have c2 := Lib.hid (half_two' h2)
  have c3 := Lib.hid (sub_two h3)
  have hmid : midD A B = if q1 = 0 ∧ q2 = 0 ∧ q3 = 0 then ((s2, s3), 0) else ((Dn.zero, Dn.zero), 10) := by
    unfold midD
    rw [h1, h2, h3]
  rw [hmid] at hr
  have HR := Lib.hid hr
  clear h1 h2 h3 x1 x2 x3 hmid hr
  generalize hw : (((w.alloc (.cells #[.bool a.s, .slice a.A a.n a.c, .int .i64 a.e] 24)).alloc (.cells #[.bool b.s, .slice b.A b.n b.c, .int .i64 b.e] 24)).alloc (.cells #[.bool false, .slice none 0 0, .int .i64 0] 24)).alloc (.cells #[.bool false, .slice none 0 0, .int .i64 0] 24) = w1
  obtain ⟨⟨Y1, Y2, Z1, Z2⟩, hb, lo1, hi1⟩ := boxes4 w _ _ _ _ hw
  have tT := hT.below hb hT.lt
  have g0 := hT.lt
  have Ia := hA.below hb (Nat.le_refl _)
  have Ib := hB.below hb (Nat.le_refl _)
  go_enter Tryd.func80, Tryd.ntmps80
  go_wp2_with fail
  apply wp_scope_jumps 0 (fun a' w' => ∃ u7 u8 u9 u10 u11 u12 u13 u14 u15 u16 u17 u18 u19 u20 u21 u22 u23 u24 u25 u26 u27 u28 u29 u30 u31 u32 u33 u34 : Value, a' = { tmps := #[.agg #[.bool a.s, .slice a.A a.n a.c, .int .i64 a.e], .agg #[.bool b.s, .slice b.A b.n b.c, .int .i64 b.e], .pointer (some ⟨w.heap.size, 0, none⟩), .pointer (some ⟨w.heap.size + 1, 0, none⟩), .pointer (some ⟨w.heap.size + 1 + 1, 0, none⟩), .pointer (some ⟨w.heap.size + 1 + 1 + 1, 0, none⟩), .int .i64 10, u7, u8, u9, u10, u11, u12, u13, u14, u15, u16, u17, u18, u19, u20, u21, u22, u23, u24, u25, u26, u27, u28, u29, u30, u31, u32, u33, u34], defers := [] } ∧ (∃ x y z, w'.heap[w.heap.size + 1 + 1]? = some (.cells #[x, y, z] 24 (0, 0))) ∧ (∃ x y z, w'.heap[w.heap.size + 1 + 1 + 1]? = some (.cells #[x, y, z] 24 (0, 0))) ∧ Below w.heap.size w w' ∧ (q1 = 10 ∨ q2 = 10 ∨ q3 = 10)) (fun _ _ => 0) rfl
  · obtain ⟨⟨p0, p1, p2⟩, p3, p4, p5⟩ := boxD Y1
    obtain ⟨⟨o0, o1, o2⟩, o3, o4, o5⟩ := boxD Y2
    go_wp2_with fail
    try clear hw
    refine (Add_all w1 a.s b.s a.A b.A a.n a.c b.n b.c a.xs b.xs a.e b.e (Ia.more (Nat.le_refl _) (by omega)) (Ib.more (Nat.le_refl _) (by omega)) tT s1 q1 X1.out).mono ?_
    rintro e w2 ⟨A1, n1, d1, rfl, hc1, hB, I1⟩
    clear p0 p1 p2 p3 p4 p5 o0 o1 o2 o3 o4 o5
    have lw2 : w1.heap.size ≤ w2.heap.size := hB.size
    replace Y1 := (hB.block _ (by omega)).trans Y1
    replace Z1 := (hB.block _ (by omega)).trans Z1
    replace Z2 := (hB.block _ (by omega)).trans Z2
    replace Ia := Ints.below Ia hB (by omega)
    replace hb := hb.trans (hB.mono (by omega))
    replace tT := tT.below hB tT.lt
    clear hB
    obtain ⟨⟨z0, z1, z2⟩, z3, z4, z5⟩ := boxD Z1
    obtain ⟨⟨z0, z1, z2⟩, z3, z4, z5⟩ := boxD Z1
    rcases c1.out with rfl | rfl
    rotate_left
    · go_wp2_with fail
      clear z0 z1 z2 z3 z4 z5
      have Z1_ := box_put Z1 (.bool s1.neg) (.slice A1 n1 d1) (.int .i64 s1.e)
      have hb_ := below_put hb (g := w.heap.size + 1 + 1) (by omega) (.bool s1.neg) (.slice A1 n1 d1) (.int .i64 s1.e)
      have hs_ := size_put (w := w2) (g := w.heap.size + 1 + 1) (.bool s1.neg) (.slice A1 n1 d1) (.int .i64 s1.e)
      have hf_ : ∀ k, k ≠ w.heap.size + 1 + 1 → (((w2.setCell ⟨w.heap.size + 1 + 1, 0, none⟩ (.bool s1.neg)).setCell ⟨w.heap.size + 1 + 1, 1, none⟩ (.slice A1 n1 d1)).setCell ⟨w.heap.size + 1 + 1, 2, none⟩ (.int .i64 s1.e)).heap[k]? = w2.heap[k]? := fun k hk => box_far (Ne.symm hk) _ _ _
      generalize ((w2.setCell ⟨w.heap.size + 1 + 1, 0, none⟩ (.bool s1.neg)).setCell ⟨w.heap.size + 1 + 1, 1, none⟩ (.slice A1 n1 d1)).setCell ⟨w.heap.size + 1 + 1, 2, none⟩ (.int .i64 s1.e) = w3 at *
      have lw3 : w2.heap.size ≤ w3.heap.size := Nat.le_of_eq hs_.symm
      have l2w3 : w3.heap.size ≤ w2.heap.size := Nat.le_of_eq hs_
      clear hs_ Z1
      have Z1 := Z1_
      replace hb := hb_
      clear Z1_ hb_
      replace tT := tT.keep (hf_ 0 (by omega))
      replace Y1 := (hf_ _ (by omega)).trans Y1
      replace Z2 := (hf_ _ (by omega)).trans Z2
      clear hf_
      refine wp_goto ?_
      simp only [Exit.then]
      try show Exit.jump _ _ _ _ _ _
      simp only [Exit.jump]
      skip
      exact ⟨trivial, _, _, _, _, _, _, _, _, _, _, _, _, _, _, _, _, _, _, _, _, _, _, _, _, _, _, _, _, rfl, ⟨_, _, _, Z1⟩, ⟨_, _, _, Z2⟩, hb, (by simp)⟩
    · skip
      have k1_ := box_put Z1 (.bool s1.neg) (.slice A1 n1 d1) (.int .i64 s1.e)
      obtain ⟨⟨m0, m1_, m2_⟩, m3, m4, m5⟩ := boxD k1_
      go_wp2_with fail
      clear m0 m1_ m2_ m3 m4 m5 k1_
      clear z0 z1 z2 z3 z4 z5
      have Z1_ := box_put Z1 (.bool s1.neg) (.slice A1 n1 d1) (.int .i64 s1.e)
      have hb_ := below_put hb (g := w.heap.size + 1 + 1) (by omega) (.bool s1.neg) (.slice A1 n1 d1) (.int .i64 s1.e)
      have hs_ := size_put (w := w2) (g := w.heap.size + 1 + 1) (.bool s1.neg) (.slice A1 n1 d1) (.int .i64 s1.e)
      have hf_ : ∀ k, k ≠ w.heap.size + 1 + 1 → (((w2.setCell ⟨w.heap.size + 1 + 1, 0, none⟩ (.bool s1.neg)).setCell ⟨w.heap.size + 1 + 1, 1, none⟩ (.slice A1 n1 d1)).setCell ⟨w.heap.size + 1 + 1, 2, none⟩ (.int .i64 s1.e)).heap[k]? = w2.heap[k]? := fun k hk => box_far (Ne.symm hk) _ _ _
      generalize ((w2.setCell ⟨w.heap.size + 1 + 1, 0, none⟩ (.bool s1.neg)).setCell ⟨w.heap.size + 1 + 1, 1, none⟩ (.slice A1 n1 d1)).setCell ⟨w.heap.size + 1 + 1, 2, none⟩ (.int .i64 s1.e) = w3 at *
      have lw3 : w2.heap.size ≤ w3.heap.size := Nat.le_of_eq hs_.symm
      have l2w3 : w3.heap.size ≤ w2.heap.size := Nat.le_of_eq hs_
      clear hs_ Z1
      have Z1 := Z1_
      replace hb := hb_
      clear Z1_ hb_
      replace tT := tT.keep (hf_ 0 (by omega))
      replace Y1 := (hf_ _ (by omega)).trans Y1
      replace Z2 := (hf_ _ (by omega)).trans Z2
      replace I1 := ints_rng I1 (w' := w3) (fun b h1 h2 => hf_ b (by omega))
      replace Ia := ints_rng Ia (w' := w3) (fun b h1 h2 => hf_ b (by omega))
      clear hf_
      refine (Half_all w3 s1.neg A1 n1 d1 (canon 4294967296 s1.m) s1.e (I1.more (Nat.zero_le _) (by omega)) tT s2 q2 X2.out).mono ?_
      rintro e w4 ⟨A2, n2, d2, rfl, hc2, hB, I2⟩
      clear I1
      have lw4 : w3.heap.size ≤ w4.heap.size := hB.size
      replace Y1 := (hB.block _ (by omega)).trans Y1
      replace Z1 := (hB.block _ (by omega)).trans Z1
      replace Z2 := (hB.block _ (by omega)).trans Z2
      replace Ia := Ints.below Ia hB (by omega)
      replace hb := hb.trans (hB.mono (by omega))
      replace tT := tT.below hB tT.lt
      clear hB
      obtain ⟨⟨z0, z1, z2⟩, z3, z4, z5⟩ := boxD Z1
      rcases c2.out with rfl | rfl
      rotate_left
      · go_wp2_with fail
        clear z0 z1 z2 z3 z4 z5
        have Z1_ := box_put Z1 (.bool s2.neg) (.slice A2 n2 d2) (.int .i64 s2.e)
        have hb_ := below_put hb (g := w.heap.size + 1 + 1) (by omega) (.bool s2.neg) (.slice A2 n2 d2) (.int .i64 s2.e)
        have hs_ := size_put (w := w4) (g := w.heap.size + 1 + 1) (.bool s2.neg) (.slice A2 n2 d2) (.int .i64 s2.e)
        have hf_ : ∀ k, k ≠ w.heap.size + 1 + 1 → (((w4.setCell ⟨w.heap.size + 1 + 1, 0, none⟩ (.bool s2.neg)).setCell ⟨w.heap.size + 1 + 1, 1, none⟩ (.slice A2 n2 d2)).setCell ⟨w.heap.size + 1 + 1, 2, none⟩ (.int .i64 s2.e)).heap[k]? = w4.heap[k]? := fun k hk => box_far (Ne.symm hk) _ _ _
        generalize ((w4.setCell ⟨w.heap.size + 1 + 1, 0, none⟩ (.bool s2.neg)).setCell ⟨w.heap.size + 1 + 1, 1, none⟩ (.slice A2 n2 d2)).setCell ⟨w.heap.size + 1 + 1, 2, none⟩ (.int .i64 s2.e) = w5 at *
        have lw5 : w4.heap.size ≤ w5.heap.size := Nat.le_of_eq hs_.symm
        have l2w5 : w5.heap.size ≤ w4.heap.size := Nat.le_of_eq hs_
        clear hs_ Z1
        have Z1 := Z1_
        replace hb := hb_
        clear Z1_ hb_
        replace tT := tT.keep (hf_ 0 (by omega))
        replace Y1 := (hf_ _ (by omega)).trans Y1
        replace Z2 := (hf_ _ (by omega)).trans Z2
        clear hf_
        refine wp_goto ?_
        simp only [Exit.then]
        try show Exit.jump _ _ _ _ _ _
        simp only [Exit.jump]
        skip
        exact ⟨trivial, _, _, _, _, _, _, _, _, _, _, _, _, _, _, _, _, _, _, _, _, _, _, _, _, _, _, _, _, rfl, ⟨_, _, _, Z1⟩, ⟨_, _, _, Z2⟩, hb, (by simp)⟩
      · skip
        have k1_ := box_put Z1 (.bool s2.neg) (.slice A2 n2 d2) (.int .i64 s2.e)
        obtain ⟨⟨m0, m1_, m2_⟩, m3, m4, m5⟩ := boxD k1_
        have ky_ := (box_far (w := w4) (g := w.heap.size + 1 + 1) (g' := w.heap.size) (by omega) (.bool s2.neg) (.slice A2 n2 d2) (.int .i64 s2.e)).trans Y1
        obtain ⟨⟨y0, y1_, y2_⟩, y3, y4, y5⟩ := boxD ky_
        go_wp2_with fail
        clear m0 m1_ m2_ m3 m4 m5 k1_ y0 y1_ y2_ y3 y4 y5 ky_
        clear z0 z1 z2 z3 z4 z5
        have Z1_ := box_put Z1 (.bool s2.neg) (.slice A2 n2 d2) (.int .i64 s2.e)
        have hb_ := below_put hb (g := w.heap.size + 1 + 1) (by omega) (.bool s2.neg) (.slice A2 n2 d2) (.int .i64 s2.e)
        have hs_ := size_put (w := w4) (g := w.heap.size + 1 + 1) (.bool s2.neg) (.slice A2 n2 d2) (.int .i64 s2.e)
        have hf_ : ∀ k, k ≠ w.heap.size + 1 + 1 → (((w4.setCell ⟨w.heap.size + 1 + 1, 0, none⟩ (.bool s2.neg)).setCell ⟨w.heap.size + 1 + 1, 1, none⟩ (.slice A2 n2 d2)).setCell ⟨w.heap.size + 1 + 1, 2, none⟩ (.int .i64 s2.e)).heap[k]? = w4.heap[k]? := fun k hk => box_far (Ne.symm hk) _ _ _
        generalize ((w4.setCell ⟨w.heap.size + 1 + 1, 0, none⟩ (.bool s2.neg)).setCell ⟨w.heap.size + 1 + 1, 1, none⟩ (.slice A2 n2 d2)).setCell ⟨w.heap.size + 1 + 1, 2, none⟩ (.int .i64 s2.e) = w5 at *
        have lw5 : w4.heap.size ≤ w5.heap.size := Nat.le_of_eq hs_.symm
        have l2w5 : w5.heap.size ≤ w4.heap.size := Nat.le_of_eq hs_
        clear hs_ Z1
        have Z1 := Z1_
        replace hb := hb_
        clear Z1_ hb_
        replace tT := tT.keep (hf_ 0 (by omega))
        replace Y1 := (hf_ _ (by omega)).trans Y1
        replace Z2 := (hf_ _ (by omega)).trans Z2
        replace I2 := ints_rng I2 (w' := w5) (fun b h1 h2 => hf_ b (by omega))
        replace Ia := ints_rng Ia (w' := w5) (fun b h1 h2 => hf_ b (by omega))
        clear hf_
        refine (Sub_all w5 s2.neg a.s A2 a.A n2 d2 a.n a.c (canon 4294967296 s2.m) a.xs s2.e a.e (I2.more (Nat.zero_le _) (by omega)) (Ia.more (Nat.zero_le _) (by omega)) tT s3 q3 X3.out).mono ?_
        rintro e w6 ⟨A3, n3, d3, rfl, hc3, hB, I3⟩
        have lw6 : w5.heap.size ≤ w6.heap.size := hB.size
        replace Y1 := (hB.block _ (by omega)).trans Y1
        replace Z1 := (hB.block _ (by omega)).trans Z1
        replace Z2 := (hB.block _ (by omega)).trans Z2
        replace I2 := Ints.below I2 hB (by omega)
        replace hb := hb.trans (hB.mono (by omega))
        replace tT := tT.below hB tT.lt
        clear hB
        obtain ⟨⟨z0, z1, z2⟩, z3, z4, z5⟩ := boxD Z2
        rcases c3.out with rfl | rfl
        rotate_left
        · go_wp2_with fail
          clear z0 z1 z2 z3 z4 z5
          have Z2_ := box_put Z2 (.bool s3.neg) (.slice A3 n3 d3) (.int .i64 s3.e)
          have hb_ := below_put hb (g := w.heap.size + 1 + 1 + 1) (by omega) (.bool s3.neg) (.slice A3 n3 d3) (.int .i64 s3.e)
          have hs_ := size_put (w := w6) (g := w.heap.size + 1 + 1 + 1) (.bool s3.neg) (.slice A3 n3 d3) (.int .i64 s3.e)
          have hf_ : ∀ k, k ≠ w.heap.size + 1 + 1 + 1 → (((w6.setCell ⟨w.heap.size + 1 + 1 + 1, 0, none⟩ (.bool s3.neg)).setCell ⟨w.heap.size + 1 + 1 + 1, 1, none⟩ (.slice A3 n3 d3)).setCell ⟨w.heap.size + 1 + 1 + 1, 2, none⟩ (.int .i64 s3.e)).heap[k]? = w6.heap[k]? := fun k hk => box_far (Ne.symm hk) _ _ _
          generalize ((w6.setCell ⟨w.heap.size + 1 + 1 + 1, 0, none⟩ (.bool s3.neg)).setCell ⟨w.heap.size + 1 + 1 + 1, 1, none⟩ (.slice A3 n3 d3)).setCell ⟨w.heap.size + 1 + 1 + 1, 2, none⟩ (.int .i64 s3.e) = w7 at *
          have lw7 : w6.heap.size ≤ w7.heap.size := Nat.le_of_eq hs_.symm
          have l2w7 : w7.heap.size ≤ w6.heap.size := Nat.le_of_eq hs_
          clear hs_ Z2
          have Z2 := Z2_
          replace hb := hb_
          clear Z2_ hb_
          replace tT := tT.keep (hf_ 0 (by omega))
          replace Y1 := (hf_ _ (by omega)).trans Y1
          replace Z1 := (hf_ _ (by omega)).trans Z1
          clear hf_
          refine wp_goto ?_
          simp only [Exit.then]
          try show Exit.jump _ _ _ _ _ _
          simp only [Exit.jump]
          skip
          exact ⟨trivial, _, _, _, _, _, _, _, _, _, _, _, _, _, _, _, _, _, _, _, _, _, _, _, _, _, _, _, _, rfl, ⟨_, _, _, Z1⟩, ⟨_, _, _, Z2⟩, hb, (by simp)⟩
        · skip
          go_wp2_with fail
          clear z0 z1 z2 z3 z4 z5
          have Z2_ := box_put Z2 (.bool s3.neg) (.slice A3 n3 d3) (.int .i64 s3.e)
          have hb_ := below_put hb (g := w.heap.size + 1 + 1 + 1) (by omega) (.bool s3.neg) (.slice A3 n3 d3) (.int .i64 s3.e)
          have hs_ := size_put (w := w6) (g := w.heap.size + 1 + 1 + 1) (.bool s3.neg) (.slice A3 n3 d3) (.int .i64 s3.e)
          have hf_ : ∀ k, k ≠ w.heap.size + 1 + 1 + 1 → (((w6.setCell ⟨w.heap.size + 1 + 1 + 1, 0, none⟩ (.bool s3.neg)).setCell ⟨w.heap.size + 1 + 1 + 1, 1, none⟩ (.slice A3 n3 d3)).setCell ⟨w.heap.size + 1 + 1 + 1, 2, none⟩ (.int .i64 s3.e)).heap[k]? = w6.heap[k]? := fun k hk => box_far (Ne.symm hk) _ _ _
          generalize ((w6.setCell ⟨w.heap.size + 1 + 1 + 1, 0, none⟩ (.bool s3.neg)).setCell ⟨w.heap.size + 1 + 1 + 1, 1, none⟩ (.slice A3 n3 d3)).setCell ⟨w.heap.size + 1 + 1 + 1, 2, none⟩ (.int .i64 s3.e) = w7 at *
          have lw7 : w6.heap.size ≤ w7.heap.size := Nat.le_of_eq hs_.symm
          have l2w7 : w7.heap.size ≤ w6.heap.size := Nat.le_of_eq hs_
          clear hs_ Z2
          have Z2 := Z2_
          replace hb := hb_
          clear Z2_ hb_
          replace tT := tT.keep (hf_ 0 (by omega))
          replace Y1 := (hf_ _ (by omega)).trans Y1
          replace Z1 := (hf_ _ (by omega)).trans Z1
          replace I2 := ints_rng I2 (w' := w7) (fun b h1 h2 => hf_ b (by omega))
          replace I3 := ints_rng I3 (w' := w7) (fun b h1 h2 => hf_ b (by omega))
          clear hf_
          refine region_E (fun W' : World => W'.heap[w.heap.size + 1 + 1]? = some (.cells #[.bool s2.neg, .slice A2 n2 d2, .int .i64 s2.e] 24 (0, 0)) ∧ W'.heap[w.heap.size + 1 + 1 + 1]? = some (.cells #[.bool s3.neg, .slice A3 n3 d3, .int .i64 s3.e] 24 (0, 0))) [] (m := 5) (L := #[false, false, false, false, false]) (by kernel_rfl) (by rfl) (by rfl) ?_
          have hS0 : w7.drew.heap[w.heap.size + 1 + 1]? = some (.cells #[.bool s2.neg, .slice A2 n2 d2, .int .i64 s2.e] 24 (0, 0)) ∧ w7.drew.heap[w.heap.size + 1 + 1 + 1]? = some (.cells #[.bool s3.neg, .slice A3 n3 d3, .int .i64 s3.e] 24 (0, 0)) := ⟨Z1, Z2⟩
          refine readE (i := 0) (L := #[true, false, false, false, false]) (v := .agg #[.bool s2.neg, .slice A2 n2 d2, .int .i64 s2.e]) rfl (by rfl) (by kernel_rfl) (by kernel_rfl) (by kernel_rfl) (fun _ _ _ h => h) (by assumption) (by rfl) ?yr0 ?zr0
          case yr0 =>
            intro w' h1
            obtain ⟨⟨e0, e1, e2⟩, _⟩ := boxD h1.1
            go_simp
          try simp only [Act.put, List.setIfInBounds_toArray, List.set_cons_zero, List.set_cons_succ]
          refine readE (i := 1) (L := #[true, true, false, false, false]) (v := .agg #[.bool s3.neg, .slice A3 n3 d3, .int .i64 s3.e]) rfl (by rfl) (by kernel_rfl) (by kernel_rfl) (by kernel_rfl) (fun _ _ _ h => h) (by assumption) (by rfl) ?yr1 ?zr1
          case yr1 =>
            intro w' h1
            obtain ⟨⟨e0, e1, e2⟩, _⟩ := boxD h1.2
            go_simp
          try simp only [Act.put, List.setIfInBounds_toArray, List.set_cons_zero, List.set_cons_succ]
          have hb8 : Below w.heap.size w w7.drew := hb.drew
          replace I2 : Ints w7.drew w3.heap.size w4.heap.size .u32 A2 n2 (canon 4294967296 s2.m) := Ints.drewN I2 1
          replace I3 : Ints w7.drew w5.heap.size w6.heap.size .u32 A3 n3 (canon 4294967296 s3.m) := Ints.drewN I3 1
          have l8 : w7.heap.size ≤ w7.drew.heap.size := Nat.le_refl _
          clear Z1 Z2 hb Y1 tT Ia
          generalize w7.drew = w8 at *
          obtain ⟨⟨z0, z1, z2⟩, z3, z4, z5⟩ := boxD hS0.1
          refine stepK (i := 2) (L := #[true, true, true, false, false]) rfl (by rfl) (by kernel_rfl) (by rfl) (fun K hK => ?_)
          go_simp
          refine hK _ _ ⟨fun _ h => ⟨box_put h.1 _ _ _, (box_far (by omega) _ _ _).trans h.2⟩, ?_⟩
          clear hK K
          clear z0 z1 z2 z3 z4 z5
          try simp only [Act.put, List.setIfInBounds_toArray, List.set_cons_zero, List.set_cons_succ]
          have hS9 : (((w8.setCell ⟨w.heap.size + 1 + 1, 0, none⟩ (.bool s2.neg)).setCell ⟨w.heap.size + 1 + 1, 1, none⟩ (.slice A2 n2 d2)).setCell ⟨w.heap.size + 1 + 1, 2, none⟩ (.int .i64 s2.e)).heap[w.heap.size + 1 + 1]? = some (.cells #[.bool s2.neg, .slice A2 n2 d2, .int .i64 s2.e] 24 (0, 0)) ∧ (((w8.setCell ⟨w.heap.size + 1 + 1, 0, none⟩ (.bool s2.neg)).setCell ⟨w.heap.size + 1 + 1, 1, none⟩ (.slice A2 n2 d2)).setCell ⟨w.heap.size + 1 + 1, 2, none⟩ (.int .i64 s2.e)).heap[w.heap.size + 1 + 1 + 1]? = some (.cells #[.bool s3.neg, .slice A3 n3 d3, .int .i64 s3.e] 24 (0, 0)) := ⟨box_put hS0.1 _ _ _, (box_far (by omega) _ _ _).trans hS0.2⟩
          have hb9 := below_put hb8 (g := w.heap.size + 1 + 1) (by omega) (.bool s2.neg) (.slice A2 n2 d2) (.int .i64 s2.e)
          have hs9 := size_put (w := w8) (g := w.heap.size + 1 + 1) (.bool s2.neg) (.slice A2 n2 d2) (.int .i64 s2.e)
          replace I2 := ints_put I2 (g := w.heap.size + 1 + 1) (.inl (by omega)) (.bool s2.neg) (.slice A2 n2 d2) (.int .i64 s2.e)
          replace I3 := ints_put I3 (g := w.heap.size + 1 + 1) (.inl (by omega)) (.bool s2.neg) (.slice A2 n2 d2) (.int .i64 s2.e)
          generalize ((w8.setCell ⟨w.heap.size + 1 + 1, 0, none⟩ (.bool s2.neg)).setCell ⟨w.heap.size + 1 + 1, 1, none⟩ (.slice A2 n2 d2)).setCell ⟨w.heap.size + 1 + 1, 2, none⟩ (.int .i64 s2.e) = w9 at *
          have l9 : w8.heap.size ≤ w9.heap.size := Nat.le_of_eq hs9.symm
          clear hs9
          obtain ⟨⟨z0, z1, z2⟩, z3, z4, z5⟩ := boxD hS9.2
          refine stepK (i := 3) (L := #[true, true, true, true, false]) rfl (by rfl) (by kernel_rfl) (by rfl) (fun K hK => ?_)
          go_simp
          refine hK _ _ ⟨fun _ h => ⟨(box_far (by omega) _ _ _).trans h.1, box_put h.2 _ _ _⟩, ?_⟩
          clear hK K
          clear z0 z1 z2 z3 z4 z5
          try simp only [Act.put, List.setIfInBounds_toArray, List.set_cons_zero, List.set_cons_succ]
          have hS10 : (((w9.setCell ⟨w.heap.size + 1 + 1 + 1, 0, none⟩ (.bool s3.neg)).setCell ⟨w.heap.size + 1 + 1 + 1, 1, none⟩ (.slice A3 n3 d3)).setCell ⟨w.heap.size + 1 + 1 + 1, 2, none⟩ (.int .i64 s3.e)).heap[w.heap.size + 1 + 1]? = some (.cells #[.bool s2.neg, .slice A2 n2 d2, .int .i64 s2.e] 24 (0, 0)) ∧ (((w9.setCell ⟨w.heap.size + 1 + 1 + 1, 0, none⟩ (.bool s3.neg)).setCell ⟨w.heap.size + 1 + 1 + 1, 1, none⟩ (.slice A3 n3 d3)).setCell ⟨w.heap.size + 1 + 1 + 1, 2, none⟩ (.int .i64 s3.e)).heap[w.heap.size + 1 + 1 + 1]? = some (.cells #[.bool s3.neg, .slice A3 n3 d3, .int .i64 s3.e] 24 (0, 0)) := ⟨(box_far (by omega) _ _ _).trans hS9.1, box_put hS9.2 _ _ _⟩
          have hb10 := below_put hb9 (g := w.heap.size + 1 + 1 + 1) (by omega) (.bool s3.neg) (.slice A3 n3 d3) (.int .i64 s3.e)
          have hs10 := size_put (w := w9) (g := w.heap.size + 1 + 1 + 1) (.bool s3.neg) (.slice A3 n3 d3) (.int .i64 s3.e)
          replace I2 := ints_put I2 (g := w.heap.size + 1 + 1 + 1) (.inl (by omega)) (.bool s3.neg) (.slice A3 n3 d3) (.int .i64 s3.e)
          replace I3 := ints_put I3 (g := w.heap.size + 1 + 1 + 1) (.inl (by omega)) (.bool s3.neg) (.slice A3 n3 d3) (.int .i64 s3.e)
          generalize ((w9.setCell ⟨w.heap.size + 1 + 1 + 1, 0, none⟩ (.bool s3.neg)).setCell ⟨w.heap.size + 1 + 1 + 1, 1, none⟩ (.slice A3 n3 d3)).setCell ⟨w.heap.size + 1 + 1 + 1, 2, none⟩ (.int .i64 s3.e) = w10 at *
          have l10 : w9.heap.size ≤ w10.heap.size := Nat.le_of_eq hs10.symm
          clear hs10
          refine pureE (i := 4) (L := #[true, true, true, true, true]) (v := ?_) rfl (by rfl) (by kernel_rfl) (by kernel_rfl) (by kernel_rfl) (fun _ _ _ h => h) (by rfl) ?hy5 ?rest5
          case hy5 => intro w; go_simp; (try with_reducible rfl)
          try simp only [Act.put, List.setIfInBounds_toArray, List.set_cons_zero, List.set_cons_succ]
          refine doneE (by kernel_rfl) ?_ _
          go_wp2_with fail
          simp only [Exit.jump]
          obtain ⟨⟨z0, z1, z2⟩, z3, z4, z5⟩ := boxD hS10.1
          obtain ⟨⟨k0, k1, k2⟩, k3, k4, k5⟩ := boxD hS10.2
          have hr := HR.out
          rw [if_pos (by simp)] at hr
          injection hr with h1 h2
          injection h1 with h1 h3
          subst h1 h2 h3
          exact bodyPost_ret (v := .tuple #[.agg #[.bool s2.neg, .slice A2 n2 d2, .int .i64 s2.e], .agg #[.bool s3.neg, .slice A3 n3 d3, .int .i64 s3.e], .int .i64 0]) (by simp [results, Tryd.results80, go_sem, z0, z1, z2, k0, k1, k2]) rfl ⟨⟨s2.neg, A2, n2, d2, s2.e, _⟩, ⟨s3.neg, A3, n3, d3, s3.e, _⟩, rfl, hb10, ⟨rfl, rfl, rfl⟩, ⟨rfl, rfl, rfl⟩, I2.more (by omega) (by omega), I3.more (by omega) (by omega)⟩
  · rintro a' w' ⟨u7, u8, u9, u10, u11, u12, u13, u14, u15, u16, u17, u18, u19, u20, u21, u22, u23, u24, u25, u26, u27, u28, u29, u30, u31, u32, u33, u34, rfl, ⟨x1, y1, v1, hz1⟩, ⟨x2, y2, v2, hz2⟩, hb, hq⟩
    obtain ⟨⟨z0, z1, z2⟩, z3, z4, z5⟩ := boxD hz1
    obtain ⟨⟨o0, o1, o2⟩, o3, o4, o5⟩ := boxD hz2
    go_wp2_with fail
    simp only [Exit.jump]
    have Z1 := box_put hz1 (.bool false) (.slice none 0 0) (.int .i64 0)
    have Z2 := box_put ((box_far (w := w') (g := w.heap.size + 1 + 1) (g' := w.heap.size + 1 + 1 + 1) (by omega) (.bool false) (.slice none 0 0) (.int .i64 0)).trans hz2) (.bool false) (.slice none 0 0) (.int .i64 0)
    have Z3 := (box_far (g := w.heap.size + 1 + 1 + 1) (g' := w.heap.size + 1 + 1) (by omega) (.bool false) (.slice none 0 0) (.int .i64 0)).trans Z1
    have hb2 := below_put (below_put hb (g := w.heap.size + 1 + 1) (by omega) (.bool false) (.slice none 0 0) (.int .i64 0)) (g := w.heap.size + 1 + 1 + 1) (by omega) (.bool false) (.slice none 0 0) (.int .i64 0)
    obtain ⟨⟨k0, k1, k2⟩, k3, k4, k5⟩ := boxD Z3
    obtain ⟨⟨j0, j1, j2⟩, j3, j4, j5⟩ := boxD Z2
    have hr := HR.out
    rw [if_neg (by omega)] at hr
    injection hr with h1 h2
    injection h1 with h1 h3
    subst h1 h2 h3
    exact bodyPost_ret (v := .tuple #[.agg #[.bool false, .slice none 0 0, .int .i64 0], .agg #[.bool false, .slice none 0 0, .int .i64 0], .int .i64 10]) (by simp [results, Tryd.results80, go_sem, k0, k1, k2, j0, j1, j2]) rfl ⟨⟨false, none, 0, 0, 0, []⟩, ⟨false, none, 0, 0, 0, []⟩, rfl, hb2, Is.zero, Is.zero, Ints.nil_ .., Ints.nil_ ..⟩
end Ma
end Go.Proofs.YtlbkepiflhchdaaDoor
namespace Go.Proofs.YtlbkepiflhchdaaDoor
open Go.RowKit
namespace Ma
open Dp Dy
open Classical in
/-- What is done: what lacks is added to C and A. -/
noncomputable def doneM (m l : Mv) : (Nat → Dn) × Int := if m.may ∧ l.may then addM m ⟨ZM.S, ZM.W, l.C, l.A⟩ else (zR, 8)
set_option maxHeartbeats 12800000 in
set_option maxRecDepth 100000 in
theorem Done_num (w : World) (a b : Mv) (hA : MRows w 0 w.heap.size a) (hB : MRows w 0 w.heap.size b) (hT : Tab w) (R : Nat → Dn) (code : Int) (hR : doneM a b = (R, code)) :
    Calls Tryd.prog 45 #[.agg #[.bool a.S.s, .slice a.S.A a.S.n a.S.c, .int .i64 a.S.e, .bool a.W.s, .slice a.W.A a.W.n a.W.c, .int .i64 a.W.e, .bool a.C.s, .slice a.C.A a.C.n a.C.c, .int .i64 a.C.e, .bool a.A.s, .slice a.A.A a.A.n a.A.c, .int .i64 a.A.e], .agg #[.bool b.S.s, .slice b.S.A b.S.n b.S.c, .int .i64 b.S.e, .bool b.W.s, .slice b.W.A b.W.n b.W.c, .int .i64 b.W.e, .bool b.C.s, .slice b.C.A b.C.n b.C.c, .int .i64 b.C.e, .bool b.A.s, .slice b.A.A b.A.n b.A.c, .int .i64 b.A.e]] w fun e w' => ∃ m' : Mv, e = .returned (.tuple #[.agg #[.bool m'.S.s, .slice m'.S.A m'.S.n m'.S.c, .int .i64 m'.S.e, .bool m'.W.s, .slice m'.W.A m'.W.n m'.W.c, .int .i64 m'.W.e, .bool m'.C.s, .slice m'.C.A m'.C.n m'.C.c, .int .i64 m'.C.e, .bool m'.A.s, .slice m'.A.A m'.A.n m'.A.c, .int .i64 m'.A.e], .int .i64 code]) ∧ Below w.heap.size w w' ∧ IsM R m' ∧ MRows w' w.heap.size w'.heap.size m' := by
  generalize hw1 : ((w.alloc (.cells #[.bool a.S.s, .slice a.S.A a.S.n a.S.c, .int .i64 a.S.e, .bool a.W.s, .slice a.W.A a.W.n a.W.c, .int .i64 a.W.e, .bool a.C.s, .slice a.C.A a.C.n a.C.c, .int .i64 a.C.e, .bool a.A.s, .slice a.A.A a.A.n a.A.c, .int .i64 a.A.e] 39)).alloc (.cells #[.bool b.S.s, .slice b.S.A b.S.n b.S.c, .int .i64 b.S.e, .bool b.W.s, .slice b.W.A b.W.n b.W.c, .int .i64 b.W.e, .bool b.C.s, .slice b.C.A b.C.n b.C.c, .int .i64 b.C.e, .bool b.A.s, .slice b.A.A b.A.n b.A.c, .int .i64 b.A.e] 39)).alloc (.cells #[.bool false, .slice none 0 0, .int .i64 0, .bool false, .slice none 0 0, .int .i64 0, .bool false, .slice none 0 0, .int .i64 0, .bool false, .slice none 0 0, .int .i64 0] 39) = w1
  obtain ⟨hMa, hMb, hZ, hBL, lo1, hi1⟩ := boxes3 w _ _ _ hw1
  replace hMa : MBox w1 w.heap.size a := hMa
  replace hMb : MBox w1 (w.heap.size + 1) b := hMb
  replace hZ : MBox w1 (w.heap.size + 1 + 1) ZM := hZ
  replace hBL : Below w.heap.size w w1 := hBL
  have Ra : MRows w1 0 w1.heap.size a := hA.on hBL
  have Rb : MRows w1 0 w1.heap.size b := hB.on hBL
  have tT := hT.below hBL hT.lt
  have g0 := hT.lt
  have HR := Lib.hid hR
  clear hR
  obtain ⟨ka, hka⟩ : ∃ k, chkM a = k := ⟨_, rfl⟩
  obtain ⟨kb, hkb⟩ : ∃ k, chkM b = k := ⟨_, rfl⟩
  have HKA := Lib.hid hka
  have HKB := Lib.hid hkb
  clear hka hkb
  go_enter Tryd.func45, Tryd.ntmps45
  obtain ⟨⟨q_1_0, q_1_1, q_1_2, q_1_3, q_1_4, q_1_5, q_1_6, q_1_7, q_1_8, q_1_9, q_1_10, q_1_11⟩, q_1f⟩ := MBox.cells hMa
  by_cases hm : a.may
  rotate_left
  · skip
    have k8 : (8 : Int) = ka := by rw [← HKA.out, chk_not hm]
    subst k8
    skip
    have hcode : (zR, (8 : Int)) = (R, code) := by
      rw [← HR.out]
      unfold doneM
      rw [if_neg fun k => hm k.1]
    injection hcode with h1 h2
    subst h1 h2
    clear hm
    go_wp2_with fail
    refine (MCheck_any w1 a Ra 8 HKA.out).mono ?_
    rintro e' w_2 ⟨rfl, hB⟩
    clear q_1_0 q_1_1 q_1_2 q_1_3 q_1_4 q_1_5 q_1_6 q_1_7 q_1_8 q_1_9 q_1_10 q_1_11 q_1f
    have lw_2 : w1.heap.size ≤ w_2.heap.size := hB.size
    replace hMa := box_on hMa hB (by omega)
    replace hMb := box_on hMb hB (by omega)
    replace hZ := box_on hZ hB (by omega)
    replace Ra := MRows.on Ra hB
    replace Rb := MRows.on Rb hB
    replace hBL := hBL.trans (hB.mono (by omega))
    replace tT := tT.below hB tT.lt
    try clear hw1
    clear hB
    obtain ⟨⟨q_3_0, q_3_1, q_3_2, q_3_3, q_3_4, q_3_5, q_3_6, q_3_7, q_3_8, q_3_9, q_3_10, q_3_11⟩, q_3f⟩ := MBox.cells hZ
    go_wp2
    obtain ⟨U, M, hc_, hMe, hX, hb_, _, _, _⟩ := zero_to hZ
    rw [hc_]
    have hY := hb_ _ _ hBL (by omega)
    clear q_3_0 q_3_1 q_3_2 q_3_3 q_3_4 q_3_5 q_3_6 q_3_7 q_3_8 q_3_9 q_3_10 q_3_11 q_3f
    clear hc_
    obtain ⟨⟨k0, k1, k2, k3, k4, k5, k6, k7, k8, k9, k10, k11⟩, kf⟩ := MBox.cells hX
    refine bodyPost_ret (v := .tuple #[.agg #[.bool M.S.s, .slice M.S.A M.S.n M.S.c, .int .i64 M.S.e, .bool M.W.s, .slice M.W.A M.W.n M.W.c, .int .i64 M.W.e, .bool M.C.s, .slice M.C.A M.C.n M.C.c, .int .i64 M.C.e, .bool M.A.s, .slice M.A.A M.A.n M.A.c, .int .i64 M.A.e], .int .i64 8]) (by simp [results, Tryd.results45, go_sem, k0, k1, k2, k3, k4, k5, k6, k7, k8, k9, k10, k11]) rfl ⟨M, rfl, hY, ?_, ?_⟩
    · rw [hMe]
      exact IsM.zero
    · rw [hMe]
      exact ZM_rows ..
  · skip
    have k0 : (0 : Int) = ka := by rw [← HKA.out, chk_may hm]
    subst k0
    have HMA := Lib.hid hm
    clear hm
    go_wp2_with fail
    refine (MCheck_any w1 a Ra 0 HKA.out).mono ?_
    rintro e' w_4 ⟨rfl, hB⟩
    clear q_1_0 q_1_1 q_1_2 q_1_3 q_1_4 q_1_5 q_1_6 q_1_7 q_1_8 q_1_9 q_1_10 q_1_11 q_1f
    have lw_4 : w1.heap.size ≤ w_4.heap.size := hB.size
    replace hMa := box_on hMa hB (by omega)
    replace hMb := box_on hMb hB (by omega)
    replace hZ := box_on hZ hB (by omega)
    replace Ra := MRows.on Ra hB
    replace Rb := MRows.on Rb hB
    replace hBL := hBL.trans (hB.mono (by omega))
    replace tT := tT.below hB tT.lt
    try clear hw1
    clear hB
    obtain ⟨⟨q_5_0, q_5_1, q_5_2, q_5_3, q_5_4, q_5_5, q_5_6, q_5_7, q_5_8, q_5_9, q_5_10, q_5_11⟩, q_5f⟩ := MBox.cells hMb
    by_cases hm : b.may
    rotate_left
    · skip
      have k8 : (8 : Int) = kb := by rw [← HKB.out, chk_not hm]
      subst k8
      have hcode : (zR, (8 : Int)) = (R, code) := by
        rw [← HR.out]
        unfold doneM
        rw [if_neg fun k => hm k.2]
      injection hcode with h1 h2
      subst h1 h2
      clear hm
      go_wp2_with fail
      refine (MCheck_any w_4 b Rb 8 HKB.out).mono ?_
      rintro e' w_6 ⟨rfl, hB⟩
      clear q_5_0 q_5_1 q_5_2 q_5_3 q_5_4 q_5_5 q_5_6 q_5_7 q_5_8 q_5_9 q_5_10 q_5_11 q_5f
      have lw_6 : w_4.heap.size ≤ w_6.heap.size := hB.size
      replace hMa := box_on hMa hB (by omega)
      replace hMb := box_on hMb hB (by omega)
      replace hZ := box_on hZ hB (by omega)
      replace Ra := MRows.on Ra hB
      replace Rb := MRows.on Rb hB
      replace hBL := hBL.trans (hB.mono (by omega))
      replace tT := tT.below hB tT.lt
      clear hB
      obtain ⟨⟨q_7_0, q_7_1, q_7_2, q_7_3, q_7_4, q_7_5, q_7_6, q_7_7, q_7_8, q_7_9, q_7_10, q_7_11⟩, q_7f⟩ := MBox.cells hZ
      go_wp2
      obtain ⟨U, M, hc_, hMe, hX, hb_, _, _, _⟩ := zero_to hZ
      rw [hc_]
      have hY := hb_ _ _ hBL (by omega)
      clear q_7_0 q_7_1 q_7_2 q_7_3 q_7_4 q_7_5 q_7_6 q_7_7 q_7_8 q_7_9 q_7_10 q_7_11 q_7f
      clear hc_
      obtain ⟨⟨k0, k1, k2, k3, k4, k5, k6, k7, k8, k9, k10, k11⟩, kf⟩ := MBox.cells hX
      refine bodyPost_ret (v := .tuple #[.agg #[.bool M.S.s, .slice M.S.A M.S.n M.S.c, .int .i64 M.S.e, .bool M.W.s, .slice M.W.A M.W.n M.W.c, .int .i64 M.W.e, .bool M.C.s, .slice M.C.A M.C.n M.C.c, .int .i64 M.C.e, .bool M.A.s, .slice M.A.A M.A.n M.A.c, .int .i64 M.A.e], .int .i64 8]) (by simp [results, Tryd.results45, go_sem, k0, k1, k2, k3, k4, k5, k6, k7, k8, k9, k10, k11]) rfl ⟨M, rfl, hY, ?_, ?_⟩
      · rw [hMe]
        exact IsM.zero
      · rw [hMe]
        exact ZM_rows ..
    · skip
      have k0 : (0 : Int) = kb := by rw [← HKB.out, chk_may hm]
      subst k0
      have HMB := Lib.hid hm
      clear hm
      go_wp2_with fail
      refine (MCheck_any w_4 b Rb 0 HKB.out).mono ?_
      rintro e' w_8 ⟨rfl, hB⟩
      clear q_5_0 q_5_1 q_5_2 q_5_3 q_5_4 q_5_5 q_5_6 q_5_7 q_5_8 q_5_9 q_5_10 q_5_11 q_5f
      have lw_8 : w_4.heap.size ≤ w_8.heap.size := hB.size
      replace hMa := box_on hMa hB (by omega)
      replace hMb := box_on hMb hB (by omega)
      replace hZ := box_on hZ hB (by omega)
      replace Ra := MRows.on Ra hB
      replace Rb := MRows.on Rb hB
      replace hBL := hBL.trans (hB.mono (by omega))
      replace tT := tT.below hB tT.lt
      clear hB
      have hadd : addM a ⟨ZM.S, ZM.W, b.C, b.A⟩ = (R, code) := by
        rw [← HR.out]
        unfold doneM
        rw [if_pos ⟨HMA.out, HMB.out⟩]
      have HADD := Lib.hid hadd
      clear hadd
      obtain ⟨⟨q_9_0, q_9_1, q_9_2, q_9_3, q_9_4, q_9_5, q_9_6, q_9_7, q_9_8, q_9_9, q_9_10, q_9_11⟩, q_9f⟩ := MBox.cells hMa
      obtain ⟨⟨q_10_0, q_10_1, q_10_2, q_10_3, q_10_4, q_10_5, q_10_6, q_10_7, q_10_8, q_10_9, q_10_10, q_10_11⟩, q_10f⟩ := MBox.cells hMb
      go_wp2_with fail
      refine (MAdd_num w_8 a ⟨ZM.S, ZM.W, b.C, b.A⟩ Ra ⟨Ints.nil_ .., Ints.nil_ .., Rb.C, Rb.A⟩ tT R code HADD.out).mono ?_
      rintro e' w_11 ⟨x, rfl, hB, hx, rx⟩
      clear q_9_0 q_9_1 q_9_2 q_9_3 q_9_4 q_9_5 q_9_6 q_9_7 q_9_8 q_9_9 q_9_10 q_9_11 q_9f q_10_0 q_10_1 q_10_2 q_10_3 q_10_4 q_10_5 q_10_6 q_10_7 q_10_8 q_10_9 q_10_10 q_10_11 q_10f
      have lw_11 : w_8.heap.size ≤ w_11.heap.size := hB.size
      replace hMa := box_on hMa hB (by omega)
      replace hMb := box_on hMb hB (by omega)
      replace hZ := box_on hZ hB (by omega)
      replace Ra := MRows.on Ra hB
      replace Rb := MRows.on Rb hB
      replace hBL := hBL.trans (hB.mono (by omega))
      replace tT := tT.below hB tT.lt
      replace hx := Lib.hid hx
      clear hB
      obtain ⟨⟨q_12_0, q_12_1, q_12_2, q_12_3, q_12_4, q_12_5, q_12_6, q_12_7, q_12_8, q_12_9, q_12_10, q_12_11⟩, q_12f⟩ := MBox.cells hZ
      go_wp2
      clear q_12_0 q_12_1 q_12_2 q_12_3 q_12_4 q_12_5 q_12_6 q_12_7 q_12_8 q_12_9 q_12_10 q_12_11 q_12f
      obtain ⟨U, hc_, hX, hb3, hf3, l3, l4⟩ := all_to hZ x
      rw [hc_]
      clear hc_
      have hY := hb3 _ _ hBL (by omega)
      replace rx := rows_rng rx (w' := U) (fun b h1 h2 => hf3 b (by omega))
      obtain ⟨⟨k0, k1, k2, k3, k4, k5, k6, k7, k8, k9, k10, k11⟩, kf⟩ := MBox.cells hX
      exact bodyPost_ret (v := .tuple #[.agg #[.bool x.S.s, .slice x.S.A x.S.n x.S.c, .int .i64 x.S.e, .bool x.W.s, .slice x.W.A x.W.n x.W.c, .int .i64 x.W.e, .bool x.C.s, .slice x.C.A x.C.n x.C.c, .int .i64 x.C.e, .bool x.A.s, .slice x.A.A x.A.n x.A.c, .int .i64 x.A.e], .int .i64 code]) (by simp [results, Tryd.results45, go_sem, k0, k1, k2, k3, k4, k5, k6, k7, k8, k9, k10, k11]) rfl ⟨x, rfl, hY, hx.out, rx.more (by omega) (by omega)⟩
end Ma
end Go.Proofs.YtlbkepiflhchdaaDoor
namespace Go.Proofs.YtlbkepiflhchdaaDoor
open Go.RowKit
namespace Ma
theorem idx0 (x y : Option Addr) (W : World) : (Instr.index 102 (.agg #[.pointer x, .pointer y]) (.int .i64 0)).run Tryd.prog W = .ok (.pointer x) W := by
  simp [Instr.index, run_underlying Tryd.underlying102, asIntOf, go_sem, part, sizeOf, isAgg]
theorem idx1 (x y : Option Addr) (W : World) : (Instr.index 102 (.agg #[.pointer x, .pointer y]) (.int .i64 1)).run Tryd.prog W = .ok (.pointer y) W := by
  have hz : Tryd.t101.size = 1 := rfl
  simp [Instr.index, run_underlying Tryd.underlying102, asIntOf, go_sem, part, sizeOf, isAgg, hz]
end Ma
end Go.Proofs.YtlbkepiflhchdaaDoor
