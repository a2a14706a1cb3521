/- headcountref06.Add: walks (printed by a program of mine). -/
import Derived.Test.YtbbnbgllgomolaaDoorBh12
namespace Go.Proofs.YtbbnbgllgomolaaDoor
open Go.RowKit
namespace Ma
open Dp Dy
theorem addX_two {s1 s2 : Bool} {xs1 xs2 : List Int} {e1 e2 : Int} {r : Dn} {q : Int} (h1 : MayD s1 xs1 e1) (h2 : MayD s2 xs2 e2) (h : addX s1 xs1 e1 s2 xs2 e2 = (r, q)) : q = 0 ∨ q = 10 := by
  rw [addX_ok h1 h2] at h
  rcases add_cases (dn s1 xs1 e1) (dn s2 xs2 e2) with k | k
  · rw [h] at k
    exact .inl k
  · rw [h] at k
    injection k with _ k
    exact .inr k
set_option maxHeartbeats 51200000 in
set_option maxRecDepth 100000 in
theorem RAdd_num (w : World) (a b : Mv) (hA : MRows w 0 w.heap.size a) (hB : MRows w 0 w.heap.size b) (R : Nat → Dn) (code : Int) (hR : addM a b = (R, code)) :
    Calls Tryd.prog 43 #[.agg #[.bool a.S.s, .slice a.S.A a.S.n a.S.c, .int .i64 a.S.e, .bool a.W.s, .slice a.W.A a.W.n a.W.c, .int .i64 a.W.e, .bool a.C.s, .slice a.C.A a.C.n a.C.c, .int .i64 a.C.e, .bool a.A.s, .slice a.A.A a.A.n a.A.c, .int .i64 a.A.e], .agg #[.bool b.S.s, .slice b.S.A b.S.n b.S.c, .int .i64 b.S.e, .bool b.W.s, .slice b.W.A b.W.n b.W.c, .int .i64 b.W.e, .bool b.C.s, .slice b.C.A b.C.n b.C.c, .int .i64 b.C.e, .bool b.A.s, .slice b.A.A b.A.n b.A.c, .int .i64 b.A.e]] w fun e w' => ∃ m' : Mv, e = .returned (.tuple #[.agg #[.bool m'.S.s, .slice m'.S.A m'.S.n m'.S.c, .int .i64 m'.S.e, .bool m'.W.s, .slice m'.W.A m'.W.n m'.W.c, .int .i64 m'.W.e, .bool m'.C.s, .slice m'.C.A m'.C.n m'.C.c, .int .i64 m'.C.e, .bool m'.A.s, .slice m'.A.A m'.A.n m'.A.c, .int .i64 m'.A.e], .int .i64 code]) ∧ Below w.heap.size w w' ∧ IsM R m' ∧ MRows w' w.heap.size w'.heap.size m' := by
  generalize hw1 : ((w.alloc (.cells #[.bool a.S.s, .slice a.S.A a.S.n a.S.c, .int .i64 a.S.e, .bool a.W.s, .slice a.W.A a.W.n a.W.c, .int .i64 a.W.e, .bool a.C.s, .slice a.C.A a.C.n a.C.c, .int .i64 a.C.e, .bool a.A.s, .slice a.A.A a.A.n a.A.c, .int .i64 a.A.e] 26)).alloc (.cells #[.bool b.S.s, .slice b.S.A b.S.n b.S.c, .int .i64 b.S.e, .bool b.W.s, .slice b.W.A b.W.n b.W.c, .int .i64 b.W.e, .bool b.C.s, .slice b.C.A b.C.n b.C.c, .int .i64 b.C.e, .bool b.A.s, .slice b.A.A b.A.n b.A.c, .int .i64 b.A.e] 26)).alloc (.cells #[.bool false, .slice none 0 0, .int .i64 0, .bool false, .slice none 0 0, .int .i64 0, .bool false, .slice none 0 0, .int .i64 0, .bool false, .slice none 0 0, .int .i64 0] 26) = w1
  obtain ⟨hMa, hMb, hZ, hBL, lo1, hi1⟩ := boxes3 w _ _ _ hw1
  replace hMa : MBox w1 w.heap.size a := hMa
  replace hMb : MBox w1 (w.heap.size + 1) b := hMb
  replace hZ : MBox w1 (w.heap.size + 1 + 1) ZM := hZ
  replace hBL : Below w.heap.size w w1 := hBL
  have Ra : MRows w1 0 w1.heap.size a := hA.on hBL
  have Rb : MRows w1 0 w1.heap.size b := hB.on hBL
  have HR := Lib.hid hR
  clear hR
  obtain ⟨ga, hga⟩ : ∃ g, mayMB a = g := ⟨_, rfl⟩
  obtain ⟨gb, hgb⟩ : ∃ g, mayMB b = g := ⟨_, rfl⟩
  have HGA := Lib.hid hga
  have HGB := Lib.hid hgb
  clear hga hgb
  go_enter Tryd.func43, Tryd.ntmps43
  obtain ⟨⟨q_1_0, q_1_1, q_1_2, q_1_3, q_1_4, q_1_5, q_1_6, q_1_7, q_1_8, q_1_9, q_1_10, q_1_11⟩, q_1f⟩ := MBox.cells hMa
  go_wp2_with fail
  refine (RMay_any w1 a Ra ga HGA.out).mono ?_
  rintro e' w_2 ⟨rfl, hB⟩
  clear q_1_0 q_1_1 q_1_2 q_1_3 q_1_4 q_1_5 q_1_6 q_1_7 q_1_8 q_1_9 q_1_10 q_1_11 q_1f
  have lw_2 : w1.heap.size ≤ w_2.heap.size := hB.size
  replace hMa := box_on hMa hB (by omega)
  replace hMb := box_on hMb hB (by omega)
  replace hZ := box_on hZ hB (by omega)
  replace Ra := MRows.on Ra hB
  replace Rb := MRows.on Rb hB
  replace hBL := hBL.trans (hB.mono (by omega))
  try clear hw1
  clear hB
  cases ga
  · skip
    have hcode : (zR, (8 : Int)) = (R, code) := by
      rw [← HR.out]
      unfold addM
      rw [if_neg fun k => ?_]
      have := (mayMB_iff a).2 k.1
      rw [HGA.out] at this
      cases this
    injection hcode with h1 h2
    subst h1 h2
    obtain ⟨⟨q_3_0, q_3_1, q_3_2, q_3_3, q_3_4, q_3_5, q_3_6, q_3_7, q_3_8, q_3_9, q_3_10, q_3_11⟩, q_3f⟩ := MBox.cells hZ
    go_wp2
    obtain ⟨U, M, hc_, hMe, hX, hb_, _, _, _⟩ := zero_to hZ
    rw [hc_]
    have hY := hb_ _ _ hBL (by omega)
    clear q_3_0 q_3_1 q_3_2 q_3_3 q_3_4 q_3_5 q_3_6 q_3_7 q_3_8 q_3_9 q_3_10 q_3_11 q_3f
    clear hc_
    obtain ⟨⟨k0, k1, k2, k3, k4, k5, k6, k7, k8, k9, k10, k11⟩, kf⟩ := MBox.cells hX
    refine bodyPost_ret (v := .tuple #[.agg #[.bool M.S.s, .slice M.S.A M.S.n M.S.c, .int .i64 M.S.e, .bool M.W.s, .slice M.W.A M.W.n M.W.c, .int .i64 M.W.e, .bool M.C.s, .slice M.C.A M.C.n M.C.c, .int .i64 M.C.e, .bool M.A.s, .slice M.A.A M.A.n M.A.c, .int .i64 M.A.e], .int .i64 8]) (by simp [results, Tryd.results43, go_sem, k0, k1, k2, k3, k4, k5, k6, k7, k8, k9, k10, k11]) rfl ⟨M, rfl, hY, ?_, ?_⟩
    · rw [hMe]
      exact IsM.zero
    · rw [hMe]
      exact ZM_rows ..
  · skip
    obtain ⟨⟨q_4_0, q_4_1, q_4_2, q_4_3, q_4_4, q_4_5, q_4_6, q_4_7, q_4_8, q_4_9, q_4_10, q_4_11⟩, q_4f⟩ := MBox.cells hMb
    go_wp2_with fail
    refine (RMay_any w_2 b Rb gb HGB.out).mono ?_
    rintro e' w_5 ⟨rfl, hB⟩
    clear q_4_0 q_4_1 q_4_2 q_4_3 q_4_4 q_4_5 q_4_6 q_4_7 q_4_8 q_4_9 q_4_10 q_4_11 q_4f
    have lw_5 : w_2.heap.size ≤ w_5.heap.size := hB.size
    replace hMa := box_on hMa hB (by omega)
    replace hMb := box_on hMb hB (by omega)
    replace hZ := box_on hZ hB (by omega)
    replace Ra := MRows.on Ra hB
    replace Rb := MRows.on Rb hB
    replace hBL := hBL.trans (hB.mono (by omega))
    clear hB
    cases gb
    · skip
      have hcode : (zR, (8 : Int)) = (R, code) := by
        rw [← HR.out]
        unfold addM
        rw [if_neg fun k => ?_]
        have := (mayMB_iff b).2 k.2
        rw [HGB.out] at this
        cases this
      injection hcode with h1 h2
      subst h1 h2
      obtain ⟨⟨q_6_0, q_6_1, q_6_2, q_6_3, q_6_4, q_6_5, q_6_6, q_6_7, q_6_8, q_6_9, q_6_10, q_6_11⟩, q_6f⟩ := MBox.cells hZ
      go_wp2
      obtain ⟨U, M, hc_, hMe, hX, hb_, _, _, _⟩ := zero_to hZ
      rw [hc_]
      have hY := hb_ _ _ hBL (by omega)
      clear q_6_0 q_6_1 q_6_2 q_6_3 q_6_4 q_6_5 q_6_6 q_6_7 q_6_8 q_6_9 q_6_10 q_6_11 q_6f
      clear hc_
      obtain ⟨⟨k0, k1, k2, k3, k4, k5, k6, k7, k8, k9, k10, k11⟩, kf⟩ := MBox.cells hX
      refine bodyPost_ret (v := .tuple #[.agg #[.bool M.S.s, .slice M.S.A M.S.n M.S.c, .int .i64 M.S.e, .bool M.W.s, .slice M.W.A M.W.n M.W.c, .int .i64 M.W.e, .bool M.C.s, .slice M.C.A M.C.n M.C.c, .int .i64 M.C.e, .bool M.A.s, .slice M.A.A M.A.n M.A.c, .int .i64 M.A.e], .int .i64 8]) (by simp [results, Tryd.results43, go_sem, k0, k1, k2, k3, k4, k5, k6, k7, k8, k9, k10, k11]) rfl ⟨M, rfl, hY, ?_, ?_⟩
      · rw [hMe]
        exact IsM.zero
      · rw [hMe]
        exact ZM_rows ..
    · skip
      have ma := Lib.hid ((mayMB_iff a).1 HGA.out)
      have mb := Lib.hid ((mayMB_iff b).1 HGB.out)
      obtain ⟨r0, q0, hx0⟩ : ∃ r q, addX a.S.s a.S.xs a.S.e b.S.s b.S.xs b.S.e = (r, q) := ⟨_, _, rfl⟩
      have HX0 := Lib.hid hx0
      have c0 := Lib.hid (addX_two (ma.out 0 (by decide)) (mb.out 0 (by decide)) hx0)
      clear hx0
      obtain ⟨r1, q1, hx1⟩ : ∃ r q, addX a.W.s a.W.xs a.W.e b.W.s b.W.xs b.W.e = (r, q) := ⟨_, _, rfl⟩
      have HX1 := Lib.hid hx1
      have c1 := Lib.hid (addX_two (ma.out 1 (by decide)) (mb.out 1 (by decide)) hx1)
      clear hx1
      obtain ⟨r2, q2, hx2⟩ : ∃ r q, addX a.C.s a.C.xs a.C.e b.C.s b.C.xs b.C.e = (r, q) := ⟨_, _, rfl⟩
      have HX2 := Lib.hid hx2
      have c2 := Lib.hid (addX_two (ma.out 2 (by decide)) (mb.out 2 (by decide)) hx2)
      clear hx2
      obtain ⟨r3, q3, hx3⟩ : ∃ r q, addX a.A.s a.A.xs a.A.e b.A.s b.A.xs b.A.e = (r, q) := ⟨_, _, rfl⟩
      have HX3 := Lib.hid hx3
      have c3 := Lib.hid (addX_two (ma.out 3 (by decide)) (mb.out 3 (by decide)) hx3)
      clear hx3
      obtain ⟨⟨q_7_0, q_7_1, q_7_2, q_7_3, q_7_4, q_7_5, q_7_6, q_7_7, q_7_8, q_7_9, q_7_10, q_7_11⟩, q_7f⟩ := MBox.cells hMa
      obtain ⟨⟨q_8_0, q_8_1, q_8_2, q_8_3, q_8_4, q_8_5, q_8_6, q_8_7, q_8_8, q_8_9, q_8_10, q_8_11⟩, q_8f⟩ := MBox.cells hMb
      go_wp2_with fail
      refine (rAdd_all w_5 a.S.s b.S.s a.S.A b.S.A a.S.n a.S.c b.S.n b.S.c a.S.xs b.S.xs a.S.e b.S.e (MRows.get Ra 0) (MRows.get Rb 0) r0 q0 HX0.out).mono ?_
      rintro e' w_9 ⟨A0, n0, d0, rfl, hc0, hB, hI⟩
      clear q_7_0 q_7_1 q_7_2 q_7_3 q_7_4 q_7_5 q_7_6 q_7_7 q_7_8 q_7_9 q_7_10 q_7_11 q_7f q_8_0 q_8_1 q_8_2 q_8_3 q_8_4 q_8_5 q_8_6 q_8_7 q_8_8 q_8_9 q_8_10 q_8_11 q_8f
      have lw_9 : w_5.heap.size ≤ w_9.heap.size := hB.size
      replace hMa := box_on hMa hB (by omega)
      replace hMb := box_on hMb hB (by omega)
      replace hZ := box_on hZ hB (by omega)
      replace Ra := MRows.on Ra hB
      replace Rb := MRows.on Rb hB
      replace hBL := hBL.trans (hB.mono (by omega))
      have I0 : Ints _ (w.heap.size + 3) _ .u32 A0 n0 (canon 4294967296 r0.m) := Ints.more hI (by omega) (Nat.le_refl _)
      clear hI
      clear hB
      have hB := (Below.refl w_9.heap.size w_9).alloc (Nat.le_refl _) (.cells #[.bool r0.neg, .slice A0 n0 d0, .int .i64 r0.e] 24)
      have hD0 := heap_alloc_last w_9 (.cells #[.bool r0.neg, .slice A0 n0 d0, .int .i64 r0.e] 24)
      have mw_10 : w_9.heap.size < (w_9.alloc (.cells #[.bool r0.neg, .slice A0 n0 d0, .int .i64 r0.e] 24)).heap.size := by simp
      generalize hww_10 : w_9.alloc (.cells #[.bool r0.neg, .slice A0 n0 d0, .int .i64 r0.e] 24) = w_10 at *
      have lw_10 : w_9.heap.size ≤ w_10.heap.size := hB.size
      replace hMa := box_on hMa hB (by omega)
      replace hMb := box_on hMb hB (by omega)
      replace hZ := box_on hZ hB (by omega)
      replace Ra := MRows.on Ra hB
      replace Rb := MRows.on Rb hB
      replace I0 := (Ints.below I0 hB (Nat.le_refl _)).more (Nat.le_refl _) hB.size
      replace hBL := hBL.trans (hB.mono (by omega))
      clear hB
      obtain ⟨⟨q_11_0, q_11_1, q_11_2, q_11_3, q_11_4, q_11_5, q_11_6, q_11_7, q_11_8, q_11_9, q_11_10, q_11_11⟩, q_11f⟩ := MBox.cells hMa
      obtain ⟨⟨q_12_0, q_12_1, q_12_2, q_12_3, q_12_4, q_12_5, q_12_6, q_12_7, q_12_8, q_12_9, q_12_10, q_12_11⟩, q_12f⟩ := MBox.cells hMb
      go_wp2_with fail
      refine (rAdd_all w_10 a.W.s b.W.s a.W.A b.W.A a.W.n a.W.c b.W.n b.W.c a.W.xs b.W.xs a.W.e b.W.e (MRows.get Ra 1) (MRows.get Rb 1) r1 q1 HX1.out).mono ?_
      rintro e' w_13 ⟨A1, n1, d1, rfl, hc1, hB, hI⟩
      clear q_11_0 q_11_1 q_11_2 q_11_3 q_11_4 q_11_5 q_11_6 q_11_7 q_11_8 q_11_9 q_11_10 q_11_11 q_11f q_12_0 q_12_1 q_12_2 q_12_3 q_12_4 q_12_5 q_12_6 q_12_7 q_12_8 q_12_9 q_12_10 q_12_11 q_12f
      have lw_13 : w_10.heap.size ≤ w_13.heap.size := hB.size
      replace hMa := box_on hMa hB (by omega)
      replace hMb := box_on hMb hB (by omega)
      replace hZ := box_on hZ hB (by omega)
      replace Ra := MRows.on Ra hB
      replace Rb := MRows.on Rb hB
      replace I0 := (Ints.below I0 hB (Nat.le_refl _)).more (Nat.le_refl _) hB.size
      replace hD0 := (hB.block _ (by omega)).trans hD0
      replace hBL := hBL.trans (hB.mono (by omega))
      have I1 : Ints _ (w.heap.size + 3) _ .u32 A1 n1 (canon 4294967296 r1.m) := Ints.more hI (by omega) (Nat.le_refl _)
      clear hI
      try clear hww_10
      clear hB
      have hB := (Below.refl w_13.heap.size w_13).alloc (Nat.le_refl _) (.cells #[.bool r1.neg, .slice A1 n1 d1, .int .i64 r1.e] 24)
      have hD1 := heap_alloc_last w_13 (.cells #[.bool r1.neg, .slice A1 n1 d1, .int .i64 r1.e] 24)
      have mw_14 : w_13.heap.size < (w_13.alloc (.cells #[.bool r1.neg, .slice A1 n1 d1, .int .i64 r1.e] 24)).heap.size := by simp
      generalize hww_14 : w_13.alloc (.cells #[.bool r1.neg, .slice A1 n1 d1, .int .i64 r1.e] 24) = w_14 at *
      have lw_14 : w_13.heap.size ≤ w_14.heap.size := hB.size
      replace hMa := box_on hMa hB (by omega)
      replace hMb := box_on hMb hB (by omega)
      replace hZ := box_on hZ hB (by omega)
      replace Ra := MRows.on Ra hB
      replace Rb := MRows.on Rb hB
      replace I0 := (Ints.below I0 hB (Nat.le_refl _)).more (Nat.le_refl _) hB.size
      replace I1 := (Ints.below I1 hB (Nat.le_refl _)).more (Nat.le_refl _) hB.size
      replace hD0 := (hB.block _ (by omega)).trans hD0
      replace hBL := hBL.trans (hB.mono (by omega))
      clear hB
      obtain ⟨⟨q_15_0, q_15_1, q_15_2, q_15_3, q_15_4, q_15_5, q_15_6, q_15_7, q_15_8, q_15_9, q_15_10, q_15_11⟩, q_15f⟩ := MBox.cells hMa
      obtain ⟨⟨q_16_0, q_16_1, q_16_2, q_16_3, q_16_4, q_16_5, q_16_6, q_16_7, q_16_8, q_16_9, q_16_10, q_16_11⟩, q_16f⟩ := MBox.cells hMb
      go_wp2_with fail
      refine (rAdd_all w_14 a.C.s b.C.s a.C.A b.C.A a.C.n a.C.c b.C.n b.C.c a.C.xs b.C.xs a.C.e b.C.e (MRows.get Ra 2) (MRows.get Rb 2) r2 q2 HX2.out).mono ?_
      rintro e' w_17 ⟨A2, n2, d2, rfl, hc2, hB, hI⟩
      clear q_15_0 q_15_1 q_15_2 q_15_3 q_15_4 q_15_5 q_15_6 q_15_7 q_15_8 q_15_9 q_15_10 q_15_11 q_15f q_16_0 q_16_1 q_16_2 q_16_3 q_16_4 q_16_5 q_16_6 q_16_7 q_16_8 q_16_9 q_16_10 q_16_11 q_16f
      have lw_17 : w_14.heap.size ≤ w_17.heap.size := hB.size
      replace hMa := box_on hMa hB (by omega)
      replace hMb := box_on hMb hB (by omega)
      replace hZ := box_on hZ hB (by omega)
      replace Ra := MRows.on Ra hB
      replace Rb := MRows.on Rb hB
      replace I0 := (Ints.below I0 hB (Nat.le_refl _)).more (Nat.le_refl _) hB.size
      replace I1 := (Ints.below I1 hB (Nat.le_refl _)).more (Nat.le_refl _) hB.size
      replace hD0 := (hB.block _ (by omega)).trans hD0
      replace hD1 := (hB.block _ (by omega)).trans hD1
      replace hBL := hBL.trans (hB.mono (by omega))
      have I2 : Ints _ (w.heap.size + 3) _ .u32 A2 n2 (canon 4294967296 r2.m) := Ints.more hI (by omega) (Nat.le_refl _)
      clear hI
      try clear hww_14
      clear hB
      have hB := (Below.refl w_17.heap.size w_17).alloc (Nat.le_refl _) (.cells #[.bool r2.neg, .slice A2 n2 d2, .int .i64 r2.e] 24)
      have hD2 := heap_alloc_last w_17 (.cells #[.bool r2.neg, .slice A2 n2 d2, .int .i64 r2.e] 24)
      have mw_18 : w_17.heap.size < (w_17.alloc (.cells #[.bool r2.neg, .slice A2 n2 d2, .int .i64 r2.e] 24)).heap.size := by simp
      generalize hww_18 : w_17.alloc (.cells #[.bool r2.neg, .slice A2 n2 d2, .int .i64 r2.e] 24) = w_18 at *
      have lw_18 : w_17.heap.size ≤ w_18.heap.size := hB.size
      replace hMa := box_on hMa hB (by omega)
      replace hMb := box_on hMb hB (by omega)
      replace hZ := box_on hZ hB (by omega)
      replace Ra := MRows.on Ra hB
      replace Rb := MRows.on Rb hB
      replace I0 := (Ints.below I0 hB (Nat.le_refl _)).more (Nat.le_refl _) hB.size
      replace I1 := (Ints.below I1 hB (Nat.le_refl _)).more (Nat.le_refl _) hB.size
      replace I2 := (Ints.below I2 hB (Nat.le_refl _)).more (Nat.le_refl _) hB.size
      replace hD0 := (hB.block _ (by omega)).trans hD0
      replace hD1 := (hB.block _ (by omega)).trans hD1
      replace hBL := hBL.trans (hB.mono (by omega))
      clear hB
      obtain ⟨⟨q_19_0, q_19_1, q_19_2, q_19_3, q_19_4, q_19_5, q_19_6, q_19_7, q_19_8, q_19_9, q_19_10, q_19_11⟩, q_19f⟩ := MBox.cells hMa
      obtain ⟨⟨q_20_0, q_20_1, q_20_2, q_20_3, q_20_4, q_20_5, q_20_6, q_20_7, q_20_8, q_20_9, q_20_10, q_20_11⟩, q_20f⟩ := MBox.cells hMb
      go_wp2_with fail
      refine (rAdd_all w_18 a.A.s b.A.s a.A.A b.A.A a.A.n a.A.c b.A.n b.A.c a.A.xs b.A.xs a.A.e b.A.e (MRows.get Ra 3) (MRows.get Rb 3) r3 q3 HX3.out).mono ?_
      rintro e' w_21 ⟨A3, n3, d3, rfl, hc3, hB, hI⟩
      clear q_19_0 q_19_1 q_19_2 q_19_3 q_19_4 q_19_5 q_19_6 q_19_7 q_19_8 q_19_9 q_19_10 q_19_11 q_19f q_20_0 q_20_1 q_20_2 q_20_3 q_20_4 q_20_5 q_20_6 q_20_7 q_20_8 q_20_9 q_20_10 q_20_11 q_20f
      have lw_21 : w_18.heap.size ≤ w_21.heap.size := hB.size
      replace hMa := box_on hMa hB (by omega)
      replace hMb := box_on hMb hB (by omega)
      replace hZ := box_on hZ hB (by omega)
      replace Ra := MRows.on Ra hB
      replace Rb := MRows.on Rb hB
      replace I0 := (Ints.below I0 hB (Nat.le_refl _)).more (Nat.le_refl _) hB.size
      replace I1 := (Ints.below I1 hB (Nat.le_refl _)).more (Nat.le_refl _) hB.size
      replace I2 := (Ints.below I2 hB (Nat.le_refl _)).more (Nat.le_refl _) hB.size
      replace hD0 := (hB.block _ (by omega)).trans hD0
      replace hD1 := (hB.block _ (by omega)).trans hD1
      replace hD2 := (hB.block _ (by omega)).trans hD2
      replace hBL := hBL.trans (hB.mono (by omega))
      have I3 : Ints _ (w.heap.size + 3) _ .u32 A3 n3 (canon 4294967296 r3.m) := Ints.more hI (by omega) (Nat.le_refl _)
      clear hI
      try clear hww_18
      clear hB
      have hB := (Below.refl w_21.heap.size w_21).alloc (Nat.le_refl _) (.cells #[.bool r3.neg, .slice A3 n3 d3, .int .i64 r3.e] 24)
      have hD3 := heap_alloc_last w_21 (.cells #[.bool r3.neg, .slice A3 n3 d3, .int .i64 r3.e] 24)
      have mw_22 : w_21.heap.size < (w_21.alloc (.cells #[.bool r3.neg, .slice A3 n3 d3, .int .i64 r3.e] 24)).heap.size := by simp
      generalize hww_22 : w_21.alloc (.cells #[.bool r3.neg, .slice A3 n3 d3, .int .i64 r3.e] 24) = w_22 at *
      have lw_22 : w_21.heap.size ≤ w_22.heap.size := hB.size
      replace hMa := box_on hMa hB (by omega)
      replace hMb := box_on hMb hB (by omega)
      replace hZ := box_on hZ hB (by omega)
      replace Ra := MRows.on Ra hB
      replace Rb := MRows.on Rb hB
      replace I0 := (Ints.below I0 hB (Nat.le_refl _)).more (Nat.le_refl _) hB.size
      replace I1 := (Ints.below I1 hB (Nat.le_refl _)).more (Nat.le_refl _) hB.size
      replace I2 := (Ints.below I2 hB (Nat.le_refl _)).more (Nat.le_refl _) hB.size
      replace I3 := (Ints.below I3 hB (Nat.le_refl _)).more (Nat.le_refl _) hB.size
      replace hD0 := (hB.block _ (by omega)).trans hD0
      replace hD1 := (hB.block _ (by omega)).trans hD1
      replace hD2 := (hB.block _ (by omega)).trans hD2
      replace hBL := hBL.trans (hB.mono (by omega))
      clear hB
      obtain ⟨⟨q_23_0, q_23_1, q_23_2, q_23_3, q_23_4, q_23_5, q_23_6, q_23_7, q_23_8, q_23_9, q_23_10, q_23_11⟩, q_23f⟩ := MBox.cells hZ
      obtain ⟨⟨q_24_0, q_24_1, q_24_2⟩, q_24_3, q_24_4, q_24_5⟩ := boxD hD0
      obtain ⟨⟨q_25_0, q_25_1, q_25_2⟩, q_25_3, q_25_4, q_25_5⟩ := boxD hD1
      obtain ⟨⟨q_26_0, q_26_1, q_26_2⟩, q_26_3, q_26_4, q_26_5⟩ := boxD hD2
      obtain ⟨⟨q_27_0, q_27_1, q_27_2⟩, q_27_3, q_27_4, q_27_5⟩ := boxD hD3
      replace c0 := c0.out
      replace c1 := c1.out
      replace c2 := c2.out
      replace c3 := c3.out
      rcases c0 with rfl | rfl <;> rcases c1 with rfl | rfl <;> rcases c2 with rfl | rfl <;> rcases c3 with rfl | rfl
      · skip
        have hmax : ∀ W : World, (Builtin.max_ #[3, 3, 3, 3] 3 #[.int .i64 0, .int .i64 0, .int .i64 0, .int .i64 0]).run Tryd.prog W = .ok (.int .i64 0) W := fun W => run_max4 W _ _ _ _ _ _ _ (by decide)
        go_wp2
        try clear hww_22
        clear q_23_0 q_23_1 q_23_2 q_23_3 q_23_4 q_23_5 q_23_6 q_23_7 q_23_8 q_23_9 q_23_10 q_23_11 q_23f q_24_0 q_24_1 q_24_2 q_24_3 q_24_4 q_24_5 q_25_0 q_25_1 q_25_2 q_25_3 q_25_4 q_25_5 q_26_0 q_26_1 q_26_2 q_26_3 q_26_4 q_26_5 q_27_0 q_27_1 q_27_2 q_27_3 q_27_4 q_27_5
        obtain ⟨M, hMe⟩ : ∃ M : Mv, M = ⟨⟨r0.neg, A0, n0, d0, r0.e, canon 4294967296 r0.m⟩, ⟨r1.neg, A1, n1, d1, r1.e, canon 4294967296 r1.m⟩, ⟨r2.neg, A2, n2, d2, r2.e, canon 4294967296 r2.m⟩, ⟨r3.neg, A3, n3, d3, r3.e, canon 4294967296 r3.m⟩⟩ := ⟨_, rfl⟩
        have hX : MBox ((((((((((((w_22.setCell ⟨w.heap.size + 1 + 1, 0, none⟩ (.bool r0.neg)).setCell ⟨w.heap.size + 1 + 1, 1, none⟩ (.slice A0 n0 d0)).setCell ⟨w.heap.size + 1 + 1, 2, none⟩ (.int .i64 r0.e)).setCell ⟨w.heap.size + 1 + 1, 3, none⟩ (.bool r1.neg)).setCell ⟨w.heap.size + 1 + 1, 4, none⟩ (.slice A1 n1 d1)).setCell ⟨w.heap.size + 1 + 1, 5, none⟩ (.int .i64 r1.e)).setCell ⟨w.heap.size + 1 + 1, 6, none⟩ (.bool r2.neg)).setCell ⟨w.heap.size + 1 + 1, 7, none⟩ (.slice A2 n2 d2)).setCell ⟨w.heap.size + 1 + 1, 8, none⟩ (.int .i64 r2.e)).setCell ⟨w.heap.size + 1 + 1, 9, none⟩ (.bool r3.neg)).setCell ⟨w.heap.size + 1 + 1, 10, none⟩ (.slice A3 n3 d3)).setCell ⟨w.heap.size + 1 + 1, 11, none⟩ (.int .i64 r3.e)) (w.heap.size + 1 + 1) M := by rw [hMe]; exact MBox.all hZ ⟨⟨r0.neg, A0, n0, d0, r0.e, canon 4294967296 r0.m⟩, ⟨r1.neg, A1, n1, d1, r1.e, canon 4294967296 r1.m⟩, ⟨r2.neg, A2, n2, d2, r2.e, canon 4294967296 r2.m⟩, ⟨r3.neg, A3, n3, d3, r3.e, canon 4294967296 r3.m⟩⟩
        have hRX : MRows ((((((((((((w_22.setCell ⟨w.heap.size + 1 + 1, 0, none⟩ (.bool r0.neg)).setCell ⟨w.heap.size + 1 + 1, 1, none⟩ (.slice A0 n0 d0)).setCell ⟨w.heap.size + 1 + 1, 2, none⟩ (.int .i64 r0.e)).setCell ⟨w.heap.size + 1 + 1, 3, none⟩ (.bool r1.neg)).setCell ⟨w.heap.size + 1 + 1, 4, none⟩ (.slice A1 n1 d1)).setCell ⟨w.heap.size + 1 + 1, 5, none⟩ (.int .i64 r1.e)).setCell ⟨w.heap.size + 1 + 1, 6, none⟩ (.bool r2.neg)).setCell ⟨w.heap.size + 1 + 1, 7, none⟩ (.slice A2 n2 d2)).setCell ⟨w.heap.size + 1 + 1, 8, none⟩ (.int .i64 r2.e)).setCell ⟨w.heap.size + 1 + 1, 9, none⟩ (.bool r3.neg)).setCell ⟨w.heap.size + 1 + 1, 10, none⟩ (.slice A3 n3 d3)).setCell ⟨w.heap.size + 1 + 1, 11, none⟩ (.int .i64 r3.e)) w.heap.size w_22.heap.size M := by
          rw [hMe]
          have hfar : ∀ {A : Option Addr} {n : Nat} {xs : List Int}, Ints w_22 (w.heap.size + 3) w_22.heap.size .u32 A n xs → Ints ((((((((((((w_22.setCell ⟨w.heap.size + 1 + 1, 0, none⟩ (.bool r0.neg)).setCell ⟨w.heap.size + 1 + 1, 1, none⟩ (.slice A0 n0 d0)).setCell ⟨w.heap.size + 1 + 1, 2, none⟩ (.int .i64 r0.e)).setCell ⟨w.heap.size + 1 + 1, 3, none⟩ (.bool r1.neg)).setCell ⟨w.heap.size + 1 + 1, 4, none⟩ (.slice A1 n1 d1)).setCell ⟨w.heap.size + 1 + 1, 5, none⟩ (.int .i64 r1.e)).setCell ⟨w.heap.size + 1 + 1, 6, none⟩ (.bool r2.neg)).setCell ⟨w.heap.size + 1 + 1, 7, none⟩ (.slice A2 n2 d2)).setCell ⟨w.heap.size + 1 + 1, 8, none⟩ (.int .i64 r2.e)).setCell ⟨w.heap.size + 1 + 1, 9, none⟩ (.bool r3.neg)).setCell ⟨w.heap.size + 1 + 1, 10, none⟩ (.slice A3 n3 d3)).setCell ⟨w.heap.size + 1 + 1, 11, none⟩ (.int .i64 r3.e)) w.heap.size w_22.heap.size .u32 A n xs := fun h => (ints_rng h fun k h1 h2 => far_all (by omega) ⟨⟨r0.neg, A0, n0, d0, r0.e, canon 4294967296 r0.m⟩, ⟨r1.neg, A1, n1, d1, r1.e, canon 4294967296 r1.m⟩, ⟨r2.neg, A2, n2, d2, r2.e, canon 4294967296 r2.m⟩, ⟨r3.neg, A3, n3, d3, r3.e, canon 4294967296 r3.m⟩⟩).more (by omega) (Nat.le_refl _)
          exact ⟨hfar I0, hfar I1, hfar I2, hfar I3⟩
        have hY : Below w.heap.size w ((((((((((((w_22.setCell ⟨w.heap.size + 1 + 1, 0, none⟩ (.bool r0.neg)).setCell ⟨w.heap.size + 1 + 1, 1, none⟩ (.slice A0 n0 d0)).setCell ⟨w.heap.size + 1 + 1, 2, none⟩ (.int .i64 r0.e)).setCell ⟨w.heap.size + 1 + 1, 3, none⟩ (.bool r1.neg)).setCell ⟨w.heap.size + 1 + 1, 4, none⟩ (.slice A1 n1 d1)).setCell ⟨w.heap.size + 1 + 1, 5, none⟩ (.int .i64 r1.e)).setCell ⟨w.heap.size + 1 + 1, 6, none⟩ (.bool r2.neg)).setCell ⟨w.heap.size + 1 + 1, 7, none⟩ (.slice A2 n2 d2)).setCell ⟨w.heap.size + 1 + 1, 8, none⟩ (.int .i64 r2.e)).setCell ⟨w.heap.size + 1 + 1, 9, none⟩ (.bool r3.neg)).setCell ⟨w.heap.size + 1 + 1, 10, none⟩ (.slice A3 n3 d3)).setCell ⟨w.heap.size + 1 + 1, 11, none⟩ (.int .i64 r3.e)) := below_all hBL (by omega) ⟨⟨r0.neg, A0, n0, d0, r0.e, canon 4294967296 r0.m⟩, ⟨r1.neg, A1, n1, d1, r1.e, canon 4294967296 r1.m⟩, ⟨r2.neg, A2, n2, d2, r2.e, canon 4294967296 r2.m⟩, ⟨r3.neg, A3, n3, d3, r3.e, canon 4294967296 r3.m⟩⟩
        have hs : w_22.heap.size ≤ ((((((((((((w_22.setCell ⟨w.heap.size + 1 + 1, 0, none⟩ (.bool r0.neg)).setCell ⟨w.heap.size + 1 + 1, 1, none⟩ (.slice A0 n0 d0)).setCell ⟨w.heap.size + 1 + 1, 2, none⟩ (.int .i64 r0.e)).setCell ⟨w.heap.size + 1 + 1, 3, none⟩ (.bool r1.neg)).setCell ⟨w.heap.size + 1 + 1, 4, none⟩ (.slice A1 n1 d1)).setCell ⟨w.heap.size + 1 + 1, 5, none⟩ (.int .i64 r1.e)).setCell ⟨w.heap.size + 1 + 1, 6, none⟩ (.bool r2.neg)).setCell ⟨w.heap.size + 1 + 1, 7, none⟩ (.slice A2 n2 d2)).setCell ⟨w.heap.size + 1 + 1, 8, none⟩ (.int .i64 r2.e)).setCell ⟨w.heap.size + 1 + 1, 9, none⟩ (.bool r3.neg)).setCell ⟨w.heap.size + 1 + 1, 10, none⟩ (.slice A3 n3 d3)).setCell ⟨w.heap.size + 1 + 1, 11, none⟩ (.int .i64 r3.e)).heap.size := Nat.le_of_eq (size_all (w := w_22) (g := w.heap.size + 1 + 1) ⟨⟨r0.neg, A0, n0, d0, r0.e, canon 4294967296 r0.m⟩, ⟨r1.neg, A1, n1, d1, r1.e, canon 4294967296 r1.m⟩, ⟨r2.neg, A2, n2, d2, r2.e, canon 4294967296 r2.m⟩, ⟨r3.neg, A3, n3, d3, r3.e, canon 4294967296 r3.m⟩⟩).symm
        generalize ((((((((((((w_22.setCell ⟨w.heap.size + 1 + 1, 0, none⟩ (.bool r0.neg)).setCell ⟨w.heap.size + 1 + 1, 1, none⟩ (.slice A0 n0 d0)).setCell ⟨w.heap.size + 1 + 1, 2, none⟩ (.int .i64 r0.e)).setCell ⟨w.heap.size + 1 + 1, 3, none⟩ (.bool r1.neg)).setCell ⟨w.heap.size + 1 + 1, 4, none⟩ (.slice A1 n1 d1)).setCell ⟨w.heap.size + 1 + 1, 5, none⟩ (.int .i64 r1.e)).setCell ⟨w.heap.size + 1 + 1, 6, none⟩ (.bool r2.neg)).setCell ⟨w.heap.size + 1 + 1, 7, none⟩ (.slice A2 n2 d2)).setCell ⟨w.heap.size + 1 + 1, 8, none⟩ (.int .i64 r2.e)).setCell ⟨w.heap.size + 1 + 1, 9, none⟩ (.bool r3.neg)).setCell ⟨w.heap.size + 1 + 1, 10, none⟩ (.slice A3 n3 d3)).setCell ⟨w.heap.size + 1 + 1, 11, none⟩ (.int .i64 r3.e)) = U at *
        have key : ∀ j, j < 4 → (xAdd a b j).2 = 0 ∧ Is (xAdd a b j).1 (M.get j) := by
          rw [hMe]
          exact four ⟨congrArg Prod.snd HX0.out, by rw [show xAdd a b 0 = _ from HX0.out]; exact ⟨rfl, rfl, rfl⟩⟩ ⟨congrArg Prod.snd HX1.out, by rw [show xAdd a b 1 = _ from HX1.out]; exact ⟨rfl, rfl, rfl⟩⟩ ⟨congrArg Prod.snd HX2.out, by rw [show xAdd a b 2 = _ from HX2.out]; exact ⟨rfl, rfl, rfl⟩⟩ ⟨congrArg Prod.snd HX3.out, by rw [show xAdd a b 3 = _ from HX3.out]; exact ⟨rfl, rfl, rfl⟩⟩
        have hcode : ((fun j => (xAdd a b j).1), (0 : Int)) = (R, code) := by
          rw [← HR.out]
          unfold addM
          rw [if_pos ⟨ma.out, mb.out⟩, if_pos fun j hj => (key j hj).1]
        injection hcode with h1 h2
        subst h1 h2
        obtain ⟨⟨k0, k1, k2, k3, k4, k5, k6, k7, k8, k9, k10, k11⟩, kf⟩ := MBox.cells hX
        exact bodyPost_ret (v := .tuple #[.agg #[.bool M.S.s, .slice M.S.A M.S.n M.S.c, .int .i64 M.S.e, .bool M.W.s, .slice M.W.A M.W.n M.W.c, .int .i64 M.W.e, .bool M.C.s, .slice M.C.A M.C.n M.C.c, .int .i64 M.C.e, .bool M.A.s, .slice M.A.A M.A.n M.A.c, .int .i64 M.A.e], .int .i64 0]) (by simp [results, Tryd.results43, go_sem, k0, k1, k2, k3, k4, k5, k6, k7, k8, k9, k10, k11]) rfl ⟨M, rfl, hY, fun j hj => (key j hj).2, hRX.more (Nat.le_refl _) hs⟩
      · skip
        have hmax : ∀ W : World, (Builtin.max_ #[3, 3, 3, 3] 3 #[.int .i64 0, .int .i64 0, .int .i64 0, .int .i64 10]).run Tryd.prog W = .ok (.int .i64 10) W := fun W => run_max4 W _ _ _ _ _ _ _ (by decide)
        have hcode : (zR, (10 : Int)) = (R, code) := by
          rw [← HR.out]
          unfold addM
          rw [if_pos ⟨ma.out, mb.out⟩, if_neg fun k => ?_]
          have := k 3 (by decide)
          rw [show xAdd a b 3 = _ from HX3.out] at this
          cases this
        injection hcode with h1 h2
        subst h1 h2
        go_wp2
        try clear hww_22
        obtain ⟨U, M, hc_, hMe, hX, hb_, _, _, _⟩ := zero_to hZ
        rw [hc_]
        have hY := hb_ _ _ hBL (by omega)
        clear q_23_0 q_23_1 q_23_2 q_23_3 q_23_4 q_23_5 q_23_6 q_23_7 q_23_8 q_23_9 q_23_10 q_23_11 q_23f q_24_0 q_24_1 q_24_2 q_24_3 q_24_4 q_24_5 q_25_0 q_25_1 q_25_2 q_25_3 q_25_4 q_25_5 q_26_0 q_26_1 q_26_2 q_26_3 q_26_4 q_26_5 q_27_0 q_27_1 q_27_2 q_27_3 q_27_4 q_27_5
        clear hc_
        obtain ⟨⟨k0, k1, k2, k3, k4, k5, k6, k7, k8, k9, k10, k11⟩, kf⟩ := MBox.cells hX
        refine bodyPost_ret (v := .tuple #[.agg #[.bool M.S.s, .slice M.S.A M.S.n M.S.c, .int .i64 M.S.e, .bool M.W.s, .slice M.W.A M.W.n M.W.c, .int .i64 M.W.e, .bool M.C.s, .slice M.C.A M.C.n M.C.c, .int .i64 M.C.e, .bool M.A.s, .slice M.A.A M.A.n M.A.c, .int .i64 M.A.e], .int .i64 10]) (by simp [results, Tryd.results43, go_sem, k0, k1, k2, k3, k4, k5, k6, k7, k8, k9, k10, k11]) rfl ⟨M, rfl, hY, ?_, ?_⟩
        · rw [hMe]
          exact IsM.zero
        · rw [hMe]
          exact ZM_rows ..
      · skip
        have hmax : ∀ W : World, (Builtin.max_ #[3, 3, 3, 3] 3 #[.int .i64 0, .int .i64 0, .int .i64 10, .int .i64 0]).run Tryd.prog W = .ok (.int .i64 10) W := fun W => run_max4 W _ _ _ _ _ _ _ (by decide)
        have hcode : (zR, (10 : Int)) = (R, code) := by
          rw [← HR.out]
          unfold addM
          rw [if_pos ⟨ma.out, mb.out⟩, if_neg fun k => ?_]
          have := k 2 (by decide)
          rw [show xAdd a b 2 = _ from HX2.out] at this
          cases this
        injection hcode with h1 h2
        subst h1 h2
        go_wp2
        try clear hww_22
        obtain ⟨U, M, hc_, hMe, hX, hb_, _, _, _⟩ := zero_to hZ
        rw [hc_]
        have hY := hb_ _ _ hBL (by omega)
        clear q_23_0 q_23_1 q_23_2 q_23_3 q_23_4 q_23_5 q_23_6 q_23_7 q_23_8 q_23_9 q_23_10 q_23_11 q_23f q_24_0 q_24_1 q_24_2 q_24_3 q_24_4 q_24_5 q_25_0 q_25_1 q_25_2 q_25_3 q_25_4 q_25_5 q_26_0 q_26_1 q_26_2 q_26_3 q_26_4 q_26_5 q_27_0 q_27_1 q_27_2 q_27_3 q_27_4 q_27_5
        clear hc_
        obtain ⟨⟨k0, k1, k2, k3, k4, k5, k6, k7, k8, k9, k10, k11⟩, kf⟩ := MBox.cells hX
        refine bodyPost_ret (v := .tuple #[.agg #[.bool M.S.s, .slice M.S.A M.S.n M.S.c, .int .i64 M.S.e, .bool M.W.s, .slice M.W.A M.W.n M.W.c, .int .i64 M.W.e, .bool M.C.s, .slice M.C.A M.C.n M.C.c, .int .i64 M.C.e, .bool M.A.s, .slice M.A.A M.A.n M.A.c, .int .i64 M.A.e], .int .i64 10]) (by simp [results, Tryd.results43, go_sem, k0, k1, k2, k3, k4, k5, k6, k7, k8, k9, k10, k11]) rfl ⟨M, rfl, hY, ?_, ?_⟩
        · rw [hMe]
          exact IsM.zero
        · rw [hMe]
          exact ZM_rows ..
      · skip
        have hmax : ∀ W : World, (Builtin.max_ #[3, 3, 3, 3] 3 #[.int .i64 0, .int .i64 0, .int .i64 10, .int .i64 10]).run Tryd.prog W = .ok (.int .i64 10) W := fun W => run_max4 W _ _ _ _ _ _ _ (by decide)
        have hcode : (zR, (10 : Int)) = (R, code) := by
          rw [← HR.out]
          unfold addM
          rw [if_pos ⟨ma.out, mb.out⟩, if_neg fun k => ?_]
          have := k 2 (by decide)
          rw [show xAdd a b 2 = _ from HX2.out] at this
          cases this
        injection hcode with h1 h2
        subst h1 h2
        go_wp2
        try clear hww_22
        obtain ⟨U, M, hc_, hMe, hX, hb_, _, _, _⟩ := zero_to hZ
        rw [hc_]
        have hY := hb_ _ _ hBL (by omega)
        clear q_23_0 q_23_1 q_23_2 q_23_3 q_23_4 q_23_5 q_23_6 q_23_7 q_23_8 q_23_9 q_23_10 q_23_11 q_23f q_24_0 q_24_1 q_24_2 q_24_3 q_24_4 q_24_5 q_25_0 q_25_1 q_25_2 q_25_3 q_25_4 q_25_5 q_26_0 q_26_1 q_26_2 q_26_3 q_26_4 q_26_5 q_27_0 q_27_1 q_27_2 q_27_3 q_27_4 q_27_5
        clear hc_
        obtain ⟨⟨k0, k1, k2, k3, k4, k5, k6, k7, k8, k9, k10, k11⟩, kf⟩ := MBox.cells hX
        refine bodyPost_ret (v := .tuple #[.agg #[.bool M.S.s, .slice M.S.A M.S.n M.S.c, .int .i64 M.S.e, .bool M.W.s, .slice M.W.A M.W.n M.W.c, .int .i64 M.W.e, .bool M.C.s, .slice M.C.A M.C.n M.C.c, .int .i64 M.C.e, .bool M.A.s, .slice M.A.A M.A.n M.A.c, .int .i64 M.A.e], .int .i64 10]) (by simp [results, Tryd.results43, go_sem, k0, k1, k2, k3, k4, k5, k6, k7, k8, k9, k10, k11]) rfl ⟨M, rfl, hY, ?_, ?_⟩
        · rw [hMe]
          exact IsM.zero
        · rw [hMe]
          exact ZM_rows ..
      · skip
        have hmax : ∀ W : World, (Builtin.max_ #[3, 3, 3, 3] 3 #[.int .i64 0, .int .i64 10, .int .i64 0, .int .i64 0]).run Tryd.prog W = .ok (.int .i64 10) W := fun W => run_max4 W _ _ _ _ _ _ _ (by decide)
        have hcode : (zR, (10 : Int)) = (R, code) := by
          rw [← HR.out]
          unfold addM
          rw [if_pos ⟨ma.out, mb.out⟩, if_neg fun k => ?_]
          have := k 1 (by decide)
          rw [show xAdd a b 1 = _ from HX1.out] at this
          cases this
        injection hcode with h1 h2
        subst h1 h2
        go_wp2
        try clear hww_22
        obtain ⟨U, M, hc_, hMe, hX, hb_, _, _, _⟩ := zero_to hZ
        rw [hc_]
        have hY := hb_ _ _ hBL (by omega)
        clear q_23_0 q_23_1 q_23_2 q_23_3 q_23_4 q_23_5 q_23_6 q_23_7 q_23_8 q_23_9 q_23_10 q_23_11 q_23f q_24_0 q_24_1 q_24_2 q_24_3 q_24_4 q_24_5 q_25_0 q_25_1 q_25_2 q_25_3 q_25_4 q_25_5 q_26_0 q_26_1 q_26_2 q_26_3 q_26_4 q_26_5 q_27_0 q_27_1 q_27_2 q_27_3 q_27_4 q_27_5
        clear hc_
        obtain ⟨⟨k0, k1, k2, k3, k4, k5, k6, k7, k8, k9, k10, k11⟩, kf⟩ := MBox.cells hX
        refine bodyPost_ret (v := .tuple #[.agg #[.bool M.S.s, .slice M.S.A M.S.n M.S.c, .int .i64 M.S.e, .bool M.W.s, .slice M.W.A M.W.n M.W.c, .int .i64 M.W.e, .bool M.C.s, .slice M.C.A M.C.n M.C.c, .int .i64 M.C.e, .bool M.A.s, .slice M.A.A M.A.n M.A.c, .int .i64 M.A.e], .int .i64 10]) (by simp [results, Tryd.results43, go_sem, k0, k1, k2, k3, k4, k5, k6, k7, k8, k9, k10, k11]) rfl ⟨M, rfl, hY, ?_, ?_⟩
        · rw [hMe]
          exact IsM.zero
        · rw [hMe]
          exact ZM_rows ..
      · skip
        have hmax : ∀ W : World, (Builtin.max_ #[3, 3, 3, 3] 3 #[.int .i64 0, .int .i64 10, .int .i64 0, .int .i64 10]).run Tryd.prog W = .ok (.int .i64 10) W := fun W => run_max4 W _ _ _ _ _ _ _ (by decide)
        have hcode : (zR, (10 : Int)) = (R, code) := by
          rw [← HR.out]
          unfold addM
          rw [if_pos ⟨ma.out, mb.out⟩, if_neg fun k => ?_]
          have := k 1 (by decide)
          rw [show xAdd a b 1 = _ from HX1.out] at this
          cases this
        injection hcode with h1 h2
        subst h1 h2
        go_wp2
        try clear hww_22
        obtain ⟨U, M, hc_, hMe, hX, hb_, _, _, _⟩ := zero_to hZ
        rw [hc_]
        have hY := hb_ _ _ hBL (by omega)
        clear q_23_0 q_23_1 q_23_2 q_23_3 q_23_4 q_23_5 q_23_6 q_23_7 q_23_8 q_23_9 q_23_10 q_23_11 q_23f q_24_0 q_24_1 q_24_2 q_24_3 q_24_4 q_24_5 q_25_0 q_25_1 q_25_2 q_25_3 q_25_4 q_25_5 q_26_0 q_26_1 q_26_2 q_26_3 q_26_4 q_26_5 q_27_0 q_27_1 q_27_2 q_27_3 q_27_4 q_27_5
        clear hc_
        obtain ⟨⟨k0, k1, k2, k3, k4, k5, k6, k7, k8, k9, k10, k11⟩, kf⟩ := MBox.cells hX
        refine bodyPost_ret (v := .tuple #[.agg #[.bool M.S.s, .slice M.S.A M.S.n M.S.c, .int .i64 M.S.e, .bool M.W.s, .slice M.W.A M.W.n M.W.c, .int .i64 M.W.e, .bool M.C.s, .slice M.C.A M.C.n M.C.c, .int .i64 M.C.e, .bool M.A.s, .slice M.A.A M.A.n M.A.c, .int .i64 M.A.e], .int .i64 10]) (by simp [results, Tryd.results43, go_sem, k0, k1, k2, k3, k4, k5, k6, k7, k8, k9, k10, k11]) rfl ⟨M, rfl, hY, ?_, ?_⟩
        · rw [hMe]
          exact IsM.zero
        · rw [hMe]
          exact ZM_rows ..
      · skip
        have hmax : ∀ W : World, (Builtin.max_ #[3, 3, 3, 3] 3 #[.int .i64 0, .int .i64 10, .int .i64 10, .int .i64 0]).run Tryd.prog W = .ok (.int .i64 10) W := fun W => run_max4 W _ _ _ _ _ _ _ (by decide)
        have hcode : (zR, (10 : Int)) = (R, code) := by
          rw [← HR.out]
          unfold addM
          rw [if_pos ⟨ma.out, mb.out⟩, if_neg fun k => ?_]
          have := k 1 (by decide)
          rw [show xAdd a b 1 = _ from HX1.out] at this
          cases this
        injection hcode with h1 h2
        subst h1 h2
        go_wp2
        try clear hww_22
        obtain ⟨U, M, hc_, hMe, hX, hb_, _, _, _⟩ := zero_to hZ
        rw [hc_]
        have hY := hb_ _ _ hBL (by omega)
        clear q_23_0 q_23_1 q_23_2 q_23_3 q_23_4 q_23_5 q_23_6 q_23_7 q_23_8 q_23_9 q_23_10 q_23_11 q_23f q_24_0 q_24_1 q_24_2 q_24_3 q_24_4 q_24_5 q_25_0 q_25_1 q_25_2 q_25_3 q_25_4 q_25_5 q_26_0 q_26_1 q_26_2 q_26_3 q_26_4 q_26_5 q_27_0 q_27_1 q_27_2 q_27_3 q_27_4 q_27_5
        clear hc_
        obtain ⟨⟨k0, k1, k2, k3, k4, k5, k6, k7, k8, k9, k10, k11⟩, kf⟩ := MBox.cells hX
        refine bodyPost_ret (v := .tuple #[.agg #[.bool M.S.s, .slice M.S.A M.S.n M.S.c, .int .i64 M.S.e, .bool M.W.s, .slice M.W.A M.W.n M.W.c, .int .i64 M.W.e, .bool M.C.s, .slice M.C.A M.C.n M.C.c, .int .i64 M.C.e, .bool M.A.s, .slice M.A.A M.A.n M.A.c, .int .i64 M.A.e], .int .i64 10]) (by simp [results, Tryd.results43, go_sem, k0, k1, k2, k3, k4, k5, k6, k7, k8, k9, k10, k11]) rfl ⟨M, rfl, hY, ?_, ?_⟩
        · rw [hMe]
          exact IsM.zero
        · rw [hMe]
          exact ZM_rows ..
      · skip
        have hmax : ∀ W : World, (Builtin.max_ #[3, 3, 3, 3] 3 #[.int .i64 0, .int .i64 10, .int .i64 10, .int .i64 10]).run Tryd.prog W = .ok (.int .i64 10) W := fun W => run_max4 W _ _ _ _ _ _ _ (by decide)
        have hcode : (zR, (10 : Int)) = (R, code) := by
          rw [← HR.out]
          unfold addM
          rw [if_pos ⟨ma.out, mb.out⟩, if_neg fun k => ?_]
          have := k 1 (by decide)
          rw [show xAdd a b 1 = _ from HX1.out] at this
          cases this
        injection hcode with h1 h2
        subst h1 h2
        go_wp2
        try clear hww_22
        obtain ⟨U, M, hc_, hMe, hX, hb_, _, _, _⟩ := zero_to hZ
        rw [hc_]
        have hY := hb_ _ _ hBL (by omega)
        clear q_23_0 q_23_1 q_23_2 q_23_3 q_23_4 q_23_5 q_23_6 q_23_7 q_23_8 q_23_9 q_23_10 q_23_11 q_23f q_24_0 q_24_1 q_24_2 q_24_3 q_24_4 q_24_5 q_25_0 q_25_1 q_25_2 q_25_3 q_25_4 q_25_5 q_26_0 q_26_1 q_26_2 q_26_3 q_26_4 q_26_5 q_27_0 q_27_1 q_27_2 q_27_3 q_27_4 q_27_5
        clear hc_
        obtain ⟨⟨k0, k1, k2, k3, k4, k5, k6, k7, k8, k9, k10, k11⟩, kf⟩ := MBox.cells hX
        refine bodyPost_ret (v := .tuple #[.agg #[.bool M.S.s, .slice M.S.A M.S.n M.S.c, .int .i64 M.S.e, .bool M.W.s, .slice M.W.A M.W.n M.W.c, .int .i64 M.W.e, .bool M.C.s, .slice M.C.A M.C.n M.C.c, .int .i64 M.C.e, .bool M.A.s, .slice M.A.A M.A.n M.A.c, .int .i64 M.A.e], .int .i64 10]) (by simp [results, Tryd.results43, go_sem, k0, k1, k2, k3, k4, k5, k6, k7, k8, k9, k10, k11]) rfl ⟨M, rfl, hY, ?_, ?_⟩
        · rw [hMe]
          exact IsM.zero
        · rw [hMe]
          exact ZM_rows ..
      · skip
        have hmax : ∀ W : World, (Builtin.max_ #[3, 3, 3, 3] 3 #[.int .i64 10, .int .i64 0, .int .i64 0, .int .i64 0]).run Tryd.prog W = .ok (.int .i64 10) W := fun W => run_max4 W _ _ _ _ _ _ _ (by decide)
        have hcode : (zR, (10 : Int)) = (R, code) := by
          rw [← HR.out]
          unfold addM
          rw [if_pos ⟨ma.out, mb.out⟩, if_neg fun k => ?_]
          have := k 0 (by decide)
          rw [show xAdd a b 0 = _ from HX0.out] at this
          cases this
        injection hcode with h1 h2
        subst h1 h2
        go_wp2
        try clear hww_22
        obtain ⟨U, M, hc_, hMe, hX, hb_, _, _, _⟩ := zero_to hZ
        rw [hc_]
        have hY := hb_ _ _ hBL (by omega)
        clear q_23_0 q_23_1 q_23_2 q_23_3 q_23_4 q_23_5 q_23_6 q_23_7 q_23_8 q_23_9 q_23_10 q_23_11 q_23f q_24_0 q_24_1 q_24_2 q_24_3 q_24_4 q_24_5 q_25_0 q_25_1 q_25_2 q_25_3 q_25_4 q_25_5 q_26_0 q_26_1 q_26_2 q_26_3 q_26_4 q_26_5 q_27_0 q_27_1 q_27_2 q_27_3 q_27_4 q_27_5
        clear hc_
        obtain ⟨⟨k0, k1, k2, k3, k4, k5, k6, k7, k8, k9, k10, k11⟩, kf⟩ := MBox.cells hX
        refine bodyPost_ret (v := .tuple #[.agg #[.bool M.S.s, .slice M.S.A M.S.n M.S.c, .int .i64 M.S.e, .bool M.W.s, .slice M.W.A M.W.n M.W.c, .int .i64 M.W.e, .bool M.C.s, .slice M.C.A M.C.n M.C.c, .int .i64 M.C.e, .bool M.A.s, .slice M.A.A M.A.n M.A.c, .int .i64 M.A.e], .int .i64 10]) (by simp [results, Tryd.results43, go_sem, k0, k1, k2, k3, k4, k5, k6, k7, k8, k9, k10, k11]) rfl ⟨M, rfl, hY, ?_, ?_⟩
        · rw [hMe]
          exact IsM.zero
        · rw [hMe]
          exact ZM_rows ..
      · skip
        have hmax : ∀ W : World, (Builtin.max_ #[3, 3, 3, 3] 3 #[.int .i64 10, .int .i64 0, .int .i64 0, .int .i64 10]).run Tryd.prog W = .ok (.int .i64 10) W := fun W => run_max4 W _ _ _ _ _ _ _ (by decide)
        have hcode : (zR, (10 : Int)) = (R, code) := by
          rw [← HR.out]
          unfold addM
          rw [if_pos ⟨ma.out, mb.out⟩, if_neg fun k => ?_]
          have := k 0 (by decide)
          rw [show xAdd a b 0 = _ from HX0.out] at this
          cases this
        injection hcode with h1 h2
        subst h1 h2
        go_wp2
        try clear hww_22
        obtain ⟨U, M, hc_, hMe, hX, hb_, _, _, _⟩ := zero_to hZ
        rw [hc_]
        have hY := hb_ _ _ hBL (by omega)
        clear q_23_0 q_23_1 q_23_2 q_23_3 q_23_4 q_23_5 q_23_6 q_23_7 q_23_8 q_23_9 q_23_10 q_23_11 q_23f q_24_0 q_24_1 q_24_2 q_24_3 q_24_4 q_24_5 q_25_0 q_25_1 q_25_2 q_25_3 q_25_4 q_25_5 q_26_0 q_26_1 q_26_2 q_26_3 q_26_4 q_26_5 q_27_0 q_27_1 q_27_2 q_27_3 q_27_4 q_27_5
        clear hc_
        obtain ⟨⟨k0, k1, k2, k3, k4, k5, k6, k7, k8, k9, k10, k11⟩, kf⟩ := MBox.cells hX
        refine bodyPost_ret (v := .tuple #[.agg #[.bool M.S.s, .slice M.S.A M.S.n M.S.c, .int .i64 M.S.e, .bool M.W.s, .slice M.W.A M.W.n M.W.c, .int .i64 M.W.e, .bool M.C.s, .slice M.C.A M.C.n M.C.c, .int .i64 M.C.e, .bool M.A.s, .slice M.A.A M.A.n M.A.c, .int .i64 M.A.e], .int .i64 10]) (by simp [results, Tryd.results43, go_sem, k0, k1, k2, k3, k4, k5, k6, k7, k8, k9, k10, k11]) rfl ⟨M, rfl, hY, ?_, ?_⟩
        · rw [hMe]
          exact IsM.zero
        · rw [hMe]
          exact ZM_rows ..
      · skip
        have hmax : ∀ W : World, (Builtin.max_ #[3, 3, 3, 3] 3 #[.int .i64 10, .int .i64 0, .int .i64 10, .int .i64 0]).run Tryd.prog W = .ok (.int .i64 10) W := fun W => run_max4 W _ _ _ _ _ _ _ (by decide)
        have hcode : (zR, (10 : Int)) = (R, code) := by
          rw [← HR.out]
          unfold addM
          rw [if_pos ⟨ma.out, mb.out⟩, if_neg fun k => ?_]
          have := k 0 (by decide)
          rw [show xAdd a b 0 = _ from HX0.out] at this
          cases this
        injection hcode with h1 h2
        subst h1 h2
        go_wp2
        try clear hww_22
        obtain ⟨U, M, hc_, hMe, hX, hb_, _, _, _⟩ := zero_to hZ
        rw [hc_]
        have hY := hb_ _ _ hBL (by omega)
        clear q_23_0 q_23_1 q_23_2 q_23_3 q_23_4 q_23_5 q_23_6 q_23_7 q_23_8 q_23_9 q_23_10 q_23_11 q_23f q_24_0 q_24_1 q_24_2 q_24_3 q_24_4 q_24_5 q_25_0 q_25_1 q_25_2 q_25_3 q_25_4 q_25_5 q_26_0 q_26_1 q_26_2 q_26_3 q_26_4 q_26_5 q_27_0 q_27_1 q_27_2 q_27_3 q_27_4 q_27_5
        clear hc_
        obtain ⟨⟨k0, k1, k2, k3, k4, k5, k6, k7, k8, k9, k10, k11⟩, kf⟩ := MBox.cells hX
        refine bodyPost_ret (v := .tuple #[.agg #[.bool M.S.s, .slice M.S.A M.S.n M.S.c, .int .i64 M.S.e, .bool M.W.s, .slice M.W.A M.W.n M.W.c, .int .i64 M.W.e, .bool M.C.s, .slice M.C.A M.C.n M.C.c, .int .i64 M.C.e, .bool M.A.s, .slice M.A.A M.A.n M.A.c, .int .i64 M.A.e], .int .i64 10]) (by simp [results, Tryd.results43, go_sem, k0, k1, k2, k3, k4, k5, k6, k7, k8, k9, k10, k11]) rfl ⟨M, rfl, hY, ?_, ?_⟩
        · rw [hMe]
          exact IsM.zero
        · rw [hMe]
          exact ZM_rows ..
      · skip
        have hmax : ∀ W : World, (Builtin.max_ #[3, 3, 3, 3] 3 #[.int .i64 10, .int .i64 0, .int .i64 10, .int .i64 10]).run Tryd.prog W = .ok (.int .i64 10) W := fun W => run_max4 W _ _ _ _ _ _ _ (by decide)
        have hcode : (zR, (10 : Int)) = (R, code) := by
          rw [← HR.out]
          unfold addM
          rw [if_pos ⟨ma.out, mb.out⟩, if_neg fun k => ?_]
          have := k 0 (by decide)
          rw [show xAdd a b 0 = _ from HX0.out] at this
          cases this
        injection hcode with h1 h2
        subst h1 h2
        go_wp2
        try clear hww_22
        obtain ⟨U, M, hc_, hMe, hX, hb_, _, _, _⟩ := zero_to hZ
        rw [hc_]
        have hY := hb_ _ _ hBL (by omega)
        clear q_23_0 q_23_1 q_23_2 q_23_3 q_23_4 q_23_5 q_23_6 q_23_7 q_23_8 q_23_9 q_23_10 q_23_11 q_23f q_24_0 q_24_1 q_24_2 q_24_3 q_24_4 q_24_5 q_25_0 q_25_1 q_25_2 q_25_3 q_25_4 q_25_5 q_26_0 q_26_1 q_26_2 q_26_3 q_26_4 q_26_5 q_27_0 q_27_1 q_27_2 q_27_3 q_27_4 q_27_5
        clear hc_
        obtain ⟨⟨k0, k1, k2, k3, k4, k5, k6, k7, k8, k9, k10, k11⟩, kf⟩ := MBox.cells hX
        refine bodyPost_ret (v := .tuple #[.agg #[.bool M.S.s, .slice M.S.A M.S.n M.S.c, .int .i64 M.S.e, .bool M.W.s, .slice M.W.A M.W.n M.W.c, .int .i64 M.W.e, .bool M.C.s, .slice M.C.A M.C.n M.C.c, .int .i64 M.C.e, .bool M.A.s, .slice M.A.A M.A.n M.A.c, .int .i64 M.A.e], .int .i64 10]) (by simp [results, Tryd.results43, go_sem, k0, k1, k2, k3, k4, k5, k6, k7, k8, k9, k10, k11]) rfl ⟨M, rfl, hY, ?_, ?_⟩
        · rw [hMe]
          exact IsM.zero
        · rw [hMe]
          exact ZM_rows ..
      · skip
        have hmax : ∀ W : World, (Builtin.max_ #[3, 3, 3, 3] 3 #[.int .i64 10, .int .i64 10, .int .i64 0, .int .i64 0]).run Tryd.prog W = .ok (.int .i64 10) W := fun W => run_max4 W _ _ _ _ _ _ _ (by decide)
        have hcode : (zR, (10 : Int)) = (R, code) := by
          rw [← HR.out]
          unfold addM
          rw [if_pos ⟨ma.out, mb.out⟩, if_neg fun k => ?_]
          have := k 0 (by decide)
          rw [show xAdd a b 0 = _ from HX0.out] at this
          cases this
        injection hcode with h1 h2
        subst h1 h2
        go_wp2
        try clear hww_22
        obtain ⟨U, M, hc_, hMe, hX, hb_, _, _, _⟩ := zero_to hZ
        rw [hc_]
        have hY := hb_ _ _ hBL (by omega)
        clear q_23_0 q_23_1 q_23_2 q_23_3 q_23_4 q_23_5 q_23_6 q_23_7 q_23_8 q_23_9 q_23_10 q_23_11 q_23f q_24_0 q_24_1 q_24_2 q_24_3 q_24_4 q_24_5 q_25_0 q_25_1 q_25_2 q_25_3 q_25_4 q_25_5 q_26_0 q_26_1 q_26_2 q_26_3 q_26_4 q_26_5 q_27_0 q_27_1 q_27_2 q_27_3 q_27_4 q_27_5
        clear hc_
        obtain ⟨⟨k0, k1, k2, k3, k4, k5, k6, k7, k8, k9, k10, k11⟩, kf⟩ := MBox.cells hX
        refine bodyPost_ret (v := .tuple #[.agg #[.bool M.S.s, .slice M.S.A M.S.n M.S.c, .int .i64 M.S.e, .bool M.W.s, .slice M.W.A M.W.n M.W.c, .int .i64 M.W.e, .bool M.C.s, .slice M.C.A M.C.n M.C.c, .int .i64 M.C.e, .bool M.A.s, .slice M.A.A M.A.n M.A.c, .int .i64 M.A.e], .int .i64 10]) (by simp [results, Tryd.results43, go_sem, k0, k1, k2, k3, k4, k5, k6, k7, k8, k9, k10, k11]) rfl ⟨M, rfl, hY, ?_, ?_⟩
        · rw [hMe]
          exact IsM.zero
        · rw [hMe]
          exact ZM_rows ..
      · skip
        have hmax : ∀ W : World, (Builtin.max_ #[3, 3, 3, 3] 3 #[.int .i64 10, .int .i64 10, .int .i64 0, .int .i64 10]).run Tryd.prog W = .ok (.int .i64 10) W := fun W => run_max4 W _ _ _ _ _ _ _ (by decide)
        have hcode : (zR, (10 : Int)) = (R, code) := by
          rw [← HR.out]
          unfold addM
          rw [if_pos ⟨ma.out, mb.out⟩, if_neg fun k => ?_]
          have := k 0 (by decide)
          rw [show xAdd a b 0 = _ from HX0.out] at this
          cases this
        injection hcode with h1 h2
        subst h1 h2
        go_wp2
        try clear hww_22
        obtain ⟨U, M, hc_, hMe, hX, hb_, _, _, _⟩ := zero_to hZ
        rw [hc_]
        have hY := hb_ _ _ hBL (by omega)
        clear q_23_0 q_23_1 q_23_2 q_23_3 q_23_4 q_23_5 q_23_6 q_23_7 q_23_8 q_23_9 q_23_10 q_23_11 q_23f q_24_0 q_24_1 q_24_2 q_24_3 q_24_4 q_24_5 q_25_0 q_25_1 q_25_2 q_25_3 q_25_4 q_25_5 q_26_0 q_26_1 q_26_2 q_26_3 q_26_4 q_26_5 q_27_0 q_27_1 q_27_2 q_27_3 q_27_4 q_27_5
        clear hc_
        obtain ⟨⟨k0, k1, k2, k3, k4, k5, k6, k7, k8, k9, k10, k11⟩, kf⟩ := MBox.cells hX
        refine bodyPost_ret (v := .tuple #[.agg #[.bool M.S.s, .slice M.S.A M.S.n M.S.c, .int .i64 M.S.e, .bool M.W.s, .slice M.W.A M.W.n M.W.c, .int .i64 M.W.e, .bool M.C.s, .slice M.C.A M.C.n M.C.c, .int .i64 M.C.e, .bool M.A.s, .slice M.A.A M.A.n M.A.c, .int .i64 M.A.e], .int .i64 10]) (by simp [results, Tryd.results43, go_sem, k0, k1, k2, k3, k4, k5, k6, k7, k8, k9, k10, k11]) rfl ⟨M, rfl, hY, ?_, ?_⟩
        · rw [hMe]
          exact IsM.zero
        · rw [hMe]
          exact ZM_rows ..
      · skip
        have hmax : ∀ W : World, (Builtin.max_ #[3, 3, 3, 3] 3 #[.int .i64 10, .int .i64 10, .int .i64 10, .int .i64 0]).run Tryd.prog W = .ok (.int .i64 10) W := fun W => run_max4 W _ _ _ _ _ _ _ (by decide)
        have hcode : (zR, (10 : Int)) = (R, code) := by
          rw [← HR.out]
          unfold addM
          rw [if_pos ⟨ma.out, mb.out⟩, if_neg fun k => ?_]
          have := k 0 (by decide)
          rw [show xAdd a b 0 = _ from HX0.out] at this
          cases this
        injection hcode with h1 h2
        subst h1 h2
        go_wp2
        try clear hww_22
        obtain ⟨U, M, hc_, hMe, hX, hb_, _, _, _⟩ := zero_to hZ
        rw [hc_]
        have hY := hb_ _ _ hBL (by omega)
        clear q_23_0 q_23_1 q_23_2 q_23_3 q_23_4 q_23_5 q_23_6 q_23_7 q_23_8 q_23_9 q_23_10 q_23_11 q_23f q_24_0 q_24_1 q_24_2 q_24_3 q_24_4 q_24_5 q_25_0 q_25_1 q_25_2 q_25_3 q_25_4 q_25_5 q_26_0 q_26_1 q_26_2 q_26_3 q_26_4 q_26_5 q_27_0 q_27_1 q_27_2 q_27_3 q_27_4 q_27_5
        clear hc_
        obtain ⟨⟨k0, k1, k2, k3, k4, k5, k6, k7, k8, k9, k10, k11⟩, kf⟩ := MBox.cells hX
        refine bodyPost_ret (v := .tuple #[.agg #[.bool M.S.s, .slice M.S.A M.S.n M.S.c, .int .i64 M.S.e, .bool M.W.s, .slice M.W.A M.W.n M.W.c, .int .i64 M.W.e, .bool M.C.s, .slice M.C.A M.C.n M.C.c, .int .i64 M.C.e, .bool M.A.s, .slice M.A.A M.A.n M.A.c, .int .i64 M.A.e], .int .i64 10]) (by simp [results, Tryd.results43, go_sem, k0, k1, k2, k3, k4, k5, k6, k7, k8, k9, k10, k11]) rfl ⟨M, rfl, hY, ?_, ?_⟩
        · rw [hMe]
          exact IsM.zero
        · rw [hMe]
          exact ZM_rows ..
      · skip
        have hmax : ∀ W : World, (Builtin.max_ #[3, 3, 3, 3] 3 #[.int .i64 10, .int .i64 10, .int .i64 10, .int .i64 10]).run Tryd.prog W = .ok (.int .i64 10) W := fun W => run_max4 W _ _ _ _ _ _ _ (by decide)
        have hcode : (zR, (10 : Int)) = (R, code) := by
          rw [← HR.out]
          unfold addM
          rw [if_pos ⟨ma.out, mb.out⟩, if_neg fun k => ?_]
          have := k 0 (by decide)
          rw [show xAdd a b 0 = _ from HX0.out] at this
          cases this
        injection hcode with h1 h2
        subst h1 h2
        go_wp2
        try clear hww_22
        obtain ⟨U, M, hc_, hMe, hX, hb_, _, _, _⟩ := zero_to hZ
        rw [hc_]
        have hY := hb_ _ _ hBL (by omega)
        clear q_23_0 q_23_1 q_23_2 q_23_3 q_23_4 q_23_5 q_23_6 q_23_7 q_23_8 q_23_9 q_23_10 q_23_11 q_23f q_24_0 q_24_1 q_24_2 q_24_3 q_24_4 q_24_5 q_25_0 q_25_1 q_25_2 q_25_3 q_25_4 q_25_5 q_26_0 q_26_1 q_26_2 q_26_3 q_26_4 q_26_5 q_27_0 q_27_1 q_27_2 q_27_3 q_27_4 q_27_5
        clear hc_
        obtain ⟨⟨k0, k1, k2, k3, k4, k5, k6, k7, k8, k9, k10, k11⟩, kf⟩ := MBox.cells hX
        refine bodyPost_ret (v := .tuple #[.agg #[.bool M.S.s, .slice M.S.A M.S.n M.S.c, .int .i64 M.S.e, .bool M.W.s, .slice M.W.A M.W.n M.W.c, .int .i64 M.W.e, .bool M.C.s, .slice M.C.A M.C.n M.C.c, .int .i64 M.C.e, .bool M.A.s, .slice M.A.A M.A.n M.A.c, .int .i64 M.A.e], .int .i64 10]) (by simp [results, Tryd.results43, go_sem, k0, k1, k2, k3, k4, k5, k6, k7, k8, k9, k10, k11]) rfl ⟨M, rfl, hY, ?_, ?_⟩
        · rw [hMe]
          exact IsM.zero
        · rw [hMe]
          exact ZM_rows ..
end Ma
end Go.Proofs.YtbbnbgllgomolaaDoor
