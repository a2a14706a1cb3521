/- headcountref16.Meet: walks (printed by a program of mine). -/
/- headcountref16.Done: walks (printed by a program of mine). -/
/- headcountlaw16.spoil: a walk. -/
/- The law MeanTells: walks (printed by a program of mine). -/
import Derived.Test.YtlbkepiflhchdaaDoorBm22
import Derived.Test.YtlbkepiflhchdaaDoorBm23
import Derived.Test.YtlbkepiflhchdaaDoorBm24
import Derived.Test.YtlbkepiflhchdaaDoorBm21
import Derived.Test.YtlbkepiflhchdaaDoorBm19
import Derived.Test.YtlbkepiflhchdaaDoorBm20
namespace Go.Proofs.YtlbkepiflhchdaaDoor
open Go.RowKit
namespace Ma
open Dp Dy
theorem alloc_dd (w : World) (m n : Dv) : ∃ U, (w.alloc (.cells #[.bool m.s, .slice m.A m.n m.c, .int .i64 m.e] 24)).alloc (.cells #[.bool n.s, .slice n.A n.n n.c, .int .i64 n.e] 24) = U ∧ U.heap[w.heap.size]? = some (.cells #[.bool m.s, .slice m.A m.n m.c, .int .i64 m.e] 24 (0, 0)) ∧ U.heap[w.heap.size + 1]? = some (.cells #[.bool n.s, .slice n.A n.n n.c, .int .i64 n.e] 24 (0, 0)) ∧ Below w.heap.size w U ∧ w.heap.size + 2 ≤ U.heap.size := by
  obtain ⟨h1, h2, h3, h4, _⟩ := boxes2 w (.cells #[.bool m.s, .slice m.A m.n m.c, .int .i64 m.e] 24) (.cells #[.bool n.s, .slice n.A n.n n.c, .int .i64 n.e] 24) rfl
  exact ⟨_, rfl, h1, h2, h3, h4⟩
set_option maxHeartbeats 25600000 in
set_option maxRecDepth 100000 in
theorem RMeet_num (w : World) (a b : Mv) (hA : MRows w 0 w.heap.size a) (hBb : MRows w 0 w.heap.size b) (mR lR : Nat → Dn) (code : Int) (hR : meetM a b = ((mR, lR), code)) :
    Calls Tryd.prog 44 #[.agg #[.bool a.S.s, .slice a.S.A a.S.n a.S.c, .int .i64 a.S.e, .bool a.W.s, .slice a.W.A a.W.n a.W.c, .int .i64 a.W.e, .bool a.C.s, .slice a.C.A a.C.n a.C.c, .int .i64 a.C.e, .bool a.A.s, .slice a.A.A a.A.n a.A.c, .int .i64 a.A.e], .agg #[.bool b.S.s, .slice b.S.A b.S.n b.S.c, .int .i64 b.S.e, .bool b.W.s, .slice b.W.A b.W.n b.W.c, .int .i64 b.W.e, .bool b.C.s, .slice b.C.A b.C.n b.C.c, .int .i64 b.C.e, .bool b.A.s, .slice b.A.A b.A.n b.A.c, .int .i64 b.A.e]] w fun e w' => ∃ m l : Mv, e = .returned (.tuple #[.agg #[.bool m.S.s, .slice m.S.A m.S.n m.S.c, .int .i64 m.S.e, .bool m.W.s, .slice m.W.A m.W.n m.W.c, .int .i64 m.W.e, .bool m.C.s, .slice m.C.A m.C.n m.C.c, .int .i64 m.C.e, .bool m.A.s, .slice m.A.A m.A.n m.A.c, .int .i64 m.A.e], .agg #[.bool l.S.s, .slice l.S.A l.S.n l.S.c, .int .i64 l.S.e, .bool l.W.s, .slice l.W.A l.W.n l.W.c, .int .i64 l.W.e, .bool l.C.s, .slice l.C.A l.C.n l.C.c, .int .i64 l.C.e, .bool l.A.s, .slice l.A.A l.A.n l.A.c, .int .i64 l.A.e], .int .i64 code]) ∧ Below w.heap.size w w' ∧ IsM mR m ∧ IsM lR l ∧ MRows w' w.heap.size w'.heap.size m ∧ MRows w' w.heap.size w'.heap.size l := by
  generalize hw1 : (((w.alloc (.cells #[.bool a.S.s, .slice a.S.A a.S.n a.S.c, .int .i64 a.S.e, .bool a.W.s, .slice a.W.A a.W.n a.W.c, .int .i64 a.W.e, .bool a.C.s, .slice a.C.A a.C.n a.C.c, .int .i64 a.C.e, .bool a.A.s, .slice a.A.A a.A.n a.A.c, .int .i64 a.A.e] 39)).alloc (.cells #[.bool b.S.s, .slice b.S.A b.S.n b.S.c, .int .i64 b.S.e, .bool b.W.s, .slice b.W.A b.W.n b.W.c, .int .i64 b.W.e, .bool b.C.s, .slice b.C.A b.C.n b.C.c, .int .i64 b.C.e, .bool b.A.s, .slice b.A.A b.A.n b.A.c, .int .i64 b.A.e] 39)).alloc (.cells #[.bool false, .slice none 0 0, .int .i64 0, .bool false, .slice none 0 0, .int .i64 0, .bool false, .slice none 0 0, .int .i64 0, .bool false, .slice none 0 0, .int .i64 0] 39)).alloc (.cells #[.bool false, .slice none 0 0, .int .i64 0, .bool false, .slice none 0 0, .int .i64 0, .bool false, .slice none 0 0, .int .i64 0, .bool false, .slice none 0 0, .int .i64 0] 39) = w1
  obtain ⟨⟨hMa, hMb, hZ, hY⟩, hBL, lo1, hi1⟩ := boxes4 w _ _ _ _ hw1
  replace hMa : MBox w1 w.heap.size a := hMa
  replace hMb : MBox w1 (w.heap.size + 1) b := hMb
  replace hZ : MBox w1 (w.heap.size + 1 + 1) ZM := hZ
  replace hY : MBox w1 (w.heap.size + 1 + 1 + 1) ZM := hY
  replace hBL : Below w.heap.size w w1 := hBL
  have Ra : MRows w1 0 w1.heap.size a := hA.on hBL
  have Rb : MRows w1 0 w1.heap.size b := hBb.on hBL
  have HR := Lib.hid hR
  clear hR
  obtain ⟨ga, hga⟩ : ∃ g, mayMB a = g := ⟨_, rfl⟩
  obtain ⟨gb, hgb⟩ : ∃ g, mayMB b = g := ⟨_, rfl⟩
  have HGA := Lib.hid hga
  have HGB := Lib.hid hgb
  clear hga hgb
  go_enter Tryd.func44, Tryd.ntmps44
  obtain ⟨⟨q_1_0, q_1_1, q_1_2, q_1_3, q_1_4, q_1_5, q_1_6, q_1_7, q_1_8, q_1_9, q_1_10, q_1_11⟩, q_1f⟩ := MBox.cells hMa
  go_wp2_with fail
  refine (RMay_any w1 a Ra ga HGA.out).mono ?_
  rintro e' w_2 ⟨rfl, hB⟩
  clear q_1_0 q_1_1 q_1_2 q_1_3 q_1_4 q_1_5 q_1_6 q_1_7 q_1_8 q_1_9 q_1_10 q_1_11 q_1f
  have lw_2 : w1.heap.size ≤ w_2.heap.size := hB.size
  replace hMa := box_on hMa hB (by omega)
  replace hMb := box_on hMb hB (by omega)
  replace hZ := box_on hZ hB (by omega)
  replace hY := box_on hY hB (by omega)
  replace Ra := MRows.on Ra hB
  replace Rb := MRows.on Rb hB
  replace hBL := hBL.trans (hB.mono (by omega))
  try clear hw1
  clear hB
  cases ga
  · skip
    have hcode : ((zR, zR), (8 : Int)) = ((mR, lR), code) := by
      rw [← HR.out]
      unfold meetM
      rw [if_neg fun k => ?_]
      have := (mayMB_iff a).2 k.1
      rw [HGA.out] at this
      cases this
    injection hcode with h1 h2
    injection h1 with h1 h3
    subst h1 h2 h3
    obtain ⟨⟨q_3_0, q_3_1, q_3_2, q_3_3, q_3_4, q_3_5, q_3_6, q_3_7, q_3_8, q_3_9, q_3_10, q_3_11⟩, q_3f⟩ := MBox.cells hZ
    obtain ⟨⟨q_4_0, q_4_1, q_4_2, q_4_3, q_4_4, q_4_5, q_4_6, q_4_7, q_4_8, q_4_9, q_4_10, q_4_11⟩, q_4f⟩ := MBox.cells hY
    go_wp2
    obtain ⟨U1, M1, hc1, hM1, hX1, hb1, hf1, _, _⟩ := zero_to hZ
    rw [hc1]
    obtain ⟨U, M, hc2, hMe, hX2, hb2, hf2, _, _⟩ := zero_to (show MBox U1 (w.heap.size + 1 + 1 + 1) _ from (hf1 _ (by omega)).trans hY)
    rw [hc2]
    replace hX1 : MBox U (w.heap.size + 1 + 1) M := by rw [hMe, ← hM1]; exact (hf2 _ (by omega)).trans hX1
    have hQ := hb2 _ _ (hb1 _ _ hBL (by omega)) (by omega)
    clear q_3_0 q_3_1 q_3_2 q_3_3 q_3_4 q_3_5 q_3_6 q_3_7 q_3_8 q_3_9 q_3_10 q_3_11 q_3f q_4_0 q_4_1 q_4_2 q_4_3 q_4_4 q_4_5 q_4_6 q_4_7 q_4_8 q_4_9 q_4_10 q_4_11 q_4f
    clear hc1 hc2
    obtain ⟨⟨k0, k1, k2, k3, k4, k5, k6, k7, k8, k9, k10, k11⟩, kf⟩ := MBox.cells hX1
    obtain ⟨⟨y0, y1, y2, y3, y4, y5, y6, y7, y8, y9, y10, y11⟩, yf⟩ := MBox.cells hX2
    refine bodyPost_ret (v := .tuple #[.agg #[.bool M.S.s, .slice M.S.A M.S.n M.S.c, .int .i64 M.S.e, .bool M.W.s, .slice M.W.A M.W.n M.W.c, .int .i64 M.W.e, .bool M.C.s, .slice M.C.A M.C.n M.C.c, .int .i64 M.C.e, .bool M.A.s, .slice M.A.A M.A.n M.A.c, .int .i64 M.A.e], .agg #[.bool M.S.s, .slice M.S.A M.S.n M.S.c, .int .i64 M.S.e, .bool M.W.s, .slice M.W.A M.W.n M.W.c, .int .i64 M.W.e, .bool M.C.s, .slice M.C.A M.C.n M.C.c, .int .i64 M.C.e, .bool M.A.s, .slice M.A.A M.A.n M.A.c, .int .i64 M.A.e], .int .i64 8]) (by simp [results, Tryd.results44, go_sem, k0, k1, k2, k3, k4, k5, k6, k7, k8, k9, k10, k11, y0, y1, y2, y3, y4, y5, y6, y7, y8, y9, y10, y11]) rfl ⟨M, M, rfl, hQ, ?_⟩
    rw [hMe]
    exact ⟨IsM.zero, IsM.zero, ZM_rows .., ZM_rows ..⟩
  · skip
    obtain ⟨⟨q_5_0, q_5_1, q_5_2, q_5_3, q_5_4, q_5_5, q_5_6, q_5_7, q_5_8, q_5_9, q_5_10, q_5_11⟩, q_5f⟩ := MBox.cells hMb
    go_wp2_with fail
    refine (RMay_any w_2 b Rb gb HGB.out).mono ?_
    rintro e' w_6 ⟨rfl, hB⟩
    clear q_5_0 q_5_1 q_5_2 q_5_3 q_5_4 q_5_5 q_5_6 q_5_7 q_5_8 q_5_9 q_5_10 q_5_11 q_5f
    have lw_6 : w_2.heap.size ≤ w_6.heap.size := hB.size
    replace hMa := box_on hMa hB (by omega)
    replace hMb := box_on hMb hB (by omega)
    replace hZ := box_on hZ hB (by omega)
    replace hY := box_on hY hB (by omega)
    replace Ra := MRows.on Ra hB
    replace Rb := MRows.on Rb hB
    replace hBL := hBL.trans (hB.mono (by omega))
    clear hB
    cases gb
    · skip
      have hcode : ((zR, zR), (8 : Int)) = ((mR, lR), code) := by
        rw [← HR.out]
        unfold meetM
        rw [if_neg fun k => ?_]
        have := (mayMB_iff b).2 k.2
        rw [HGB.out] at this
        cases this
      injection hcode with h1 h2
      injection h1 with h1 h3
      subst h1 h2 h3
      obtain ⟨⟨q_7_0, q_7_1, q_7_2, q_7_3, q_7_4, q_7_5, q_7_6, q_7_7, q_7_8, q_7_9, q_7_10, q_7_11⟩, q_7f⟩ := MBox.cells hZ
      obtain ⟨⟨q_8_0, q_8_1, q_8_2, q_8_3, q_8_4, q_8_5, q_8_6, q_8_7, q_8_8, q_8_9, q_8_10, q_8_11⟩, q_8f⟩ := MBox.cells hY
      go_wp2
      obtain ⟨U1, M1, hc1, hM1, hX1, hb1, hf1, _, _⟩ := zero_to hZ
      rw [hc1]
      obtain ⟨U, M, hc2, hMe, hX2, hb2, hf2, _, _⟩ := zero_to (show MBox U1 (w.heap.size + 1 + 1 + 1) _ from (hf1 _ (by omega)).trans hY)
      rw [hc2]
      replace hX1 : MBox U (w.heap.size + 1 + 1) M := by rw [hMe, ← hM1]; exact (hf2 _ (by omega)).trans hX1
      have hQ := hb2 _ _ (hb1 _ _ hBL (by omega)) (by omega)
      clear q_7_0 q_7_1 q_7_2 q_7_3 q_7_4 q_7_5 q_7_6 q_7_7 q_7_8 q_7_9 q_7_10 q_7_11 q_7f q_8_0 q_8_1 q_8_2 q_8_3 q_8_4 q_8_5 q_8_6 q_8_7 q_8_8 q_8_9 q_8_10 q_8_11 q_8f
      clear hc1 hc2
      obtain ⟨⟨k0, k1, k2, k3, k4, k5, k6, k7, k8, k9, k10, k11⟩, kf⟩ := MBox.cells hX1
      obtain ⟨⟨y0, y1, y2, y3, y4, y5, y6, y7, y8, y9, y10, y11⟩, yf⟩ := MBox.cells hX2
      refine bodyPost_ret (v := .tuple #[.agg #[.bool M.S.s, .slice M.S.A M.S.n M.S.c, .int .i64 M.S.e, .bool M.W.s, .slice M.W.A M.W.n M.W.c, .int .i64 M.W.e, .bool M.C.s, .slice M.C.A M.C.n M.C.c, .int .i64 M.C.e, .bool M.A.s, .slice M.A.A M.A.n M.A.c, .int .i64 M.A.e], .agg #[.bool M.S.s, .slice M.S.A M.S.n M.S.c, .int .i64 M.S.e, .bool M.W.s, .slice M.W.A M.W.n M.W.c, .int .i64 M.W.e, .bool M.C.s, .slice M.C.A M.C.n M.C.c, .int .i64 M.C.e, .bool M.A.s, .slice M.A.A M.A.n M.A.c, .int .i64 M.A.e], .int .i64 8]) (by simp [results, Tryd.results44, go_sem, k0, k1, k2, k3, k4, k5, k6, k7, k8, k9, k10, k11, y0, y1, y2, y3, y4, y5, y6, y7, y8, y9, y10, y11]) rfl ⟨M, M, rfl, hQ, ?_⟩
      rw [hMe]
      exact ⟨IsM.zero, IsM.zero, ZM_rows .., ZM_rows ..⟩
    · skip
      have HMA := Lib.hid ((mayMB_iff a).1 HGA.out)
      have HMB := Lib.hid ((mayMB_iff b).1 HGB.out)
      obtain ⟨⟨r1, d1⟩, q1, h1⟩ : ∃ X q, midD (dnM a 2) (dnM b 2) = (X, q) := ⟨_, _, rfl⟩
      obtain ⟨⟨r2, d2⟩, q2, h2⟩ : ∃ X q, midD (dnM a 3) (dnM b 3) = (X, q) := ⟨_, _, rfl⟩
      have H1 := Lib.hid h1
      have H2 := Lib.hid h2
      have c1 := Lib.hid (mid_two h1)
      have c2 := Lib.hid (mid_two h2)
      have hmeet : meetM a b = if q1 = 0 ∧ q2 = 0 then ((fun x => if x = 2 then r1 else if x = 3 then r2 else dnM b x, fun x => if x = 2 then d1 else if x = 3 then d2 else Dn.zero), 0) else ((zR, zR), 10) := by
        unfold meetM
        rw [if_pos ⟨HMA.out, HMB.out⟩, h1, h2]
      have HR2 := Lib.hid (hmeet.symm.trans HR.out)
      have iA := Lib.hid (IsM.of hA HMA.out)
      have iB := Lib.hid (IsM.of hBb HMB.out)
      have mA := Lib.hid (dnM_may hA HMA.out)
      have mB := Lib.hid (dnM_may hBb HMB.out)
      clear h1 h2 hmeet
      obtain ⟨⟨q_9_0, q_9_1, q_9_2, q_9_3, q_9_4, q_9_5, q_9_6, q_9_7, q_9_8, q_9_9, q_9_10, q_9_11⟩, q_9f⟩ := MBox.cells hMa
      obtain ⟨⟨q_10_0, q_10_1, q_10_2, q_10_3, q_10_4, q_10_5, q_10_6, q_10_7, q_10_8, q_10_9, q_10_10, q_10_11⟩, q_10f⟩ := MBox.cells hMb
      go_wp2_with fail
      refine (RMiddle_any w_6 a.C b.C (MRows.get Ra 2) (MRows.get Rb 2) (dnM a 2) (dnM b 2) (iA.out 2 (by decide)) (iB.out 2 (by decide)) (mA.out 2 (by decide)) (mB.out 2 (by decide)) r1 d1 q1 H1.out).mono ?_
      rintro e' w_11 ⟨M1, D1, rfl, hB, iM1, iD1, IM1, ID1⟩
      clear q_9_0 q_9_1 q_9_2 q_9_3 q_9_4 q_9_5 q_9_6 q_9_7 q_9_8 q_9_9 q_9_10 q_9_11 q_9f q_10_0 q_10_1 q_10_2 q_10_3 q_10_4 q_10_5 q_10_6 q_10_7 q_10_8 q_10_9 q_10_10 q_10_11 q_10f
      have lw_11 : w_6.heap.size ≤ w_11.heap.size := hB.size
      replace hMa := box_on hMa hB (by omega)
      replace hMb := box_on hMb hB (by omega)
      replace hZ := box_on hZ hB (by omega)
      replace hY := box_on hY hB (by omega)
      replace Ra := MRows.on Ra hB
      replace Rb := MRows.on Rb hB
      replace hBL := hBL.trans (hB.mono (by omega))
      replace iM1 := Lib.hid iM1
      replace iD1 := Lib.hid iD1
      replace IM1 : Ints _ (w.heap.size + 4) _ .u32 M1.A M1.n M1.xs := Ints.more IM1 (by omega) (Nat.le_refl _)
      replace ID1 : Ints _ (w.heap.size + 4) _ .u32 D1.A D1.n D1.xs := Ints.more ID1 (by omega) (Nat.le_refl _)
      clear hB
      obtain ⟨w_12, hww_12, X1_, Y1_, hB, mw_12⟩ := alloc_dd w_11 M1 D1
      have lw_12 : w_11.heap.size ≤ w_12.heap.size := hB.size
      replace hMa := box_on hMa hB (by omega)
      replace hMb := box_on hMb hB (by omega)
      replace hZ := box_on hZ hB (by omega)
      replace hY := box_on hY hB (by omega)
      replace Ra := MRows.on Ra hB
      replace Rb := MRows.on Rb hB
      replace IM1 := (Ints.below IM1 hB (Nat.le_refl _)).more (Nat.le_refl _) hB.size
      replace ID1 := (Ints.below ID1 hB (Nat.le_refl _)).more (Nat.le_refl _) hB.size
      replace hBL := hBL.trans (hB.mono (by omega))
      have X1 := X1_
      have Y1 := Y1_
      clear hB X1_ Y1_
      obtain ⟨⟨q_13_0, q_13_1, q_13_2, q_13_3, q_13_4, q_13_5, q_13_6, q_13_7, q_13_8, q_13_9, q_13_10, q_13_11⟩, q_13f⟩ := MBox.cells hMa
      obtain ⟨⟨q_14_0, q_14_1, q_14_2, q_14_3, q_14_4, q_14_5, q_14_6, q_14_7, q_14_8, q_14_9, q_14_10, q_14_11⟩, q_14f⟩ := MBox.cells hMb
      go_wp2_with fail
      refine (RMiddle_any w_12 a.A b.A (MRows.get Ra 3) (MRows.get Rb 3) (dnM a 3) (dnM b 3) (iA.out 3 (by decide)) (iB.out 3 (by decide)) (mA.out 3 (by decide)) (mB.out 3 (by decide)) r2 d2 q2 H2.out).mono ?_
      rintro e' w_15 ⟨M2, D2, rfl, hB, iM2, iD2, IM2, ID2⟩
      clear q_13_0 q_13_1 q_13_2 q_13_3 q_13_4 q_13_5 q_13_6 q_13_7 q_13_8 q_13_9 q_13_10 q_13_11 q_13f q_14_0 q_14_1 q_14_2 q_14_3 q_14_4 q_14_5 q_14_6 q_14_7 q_14_8 q_14_9 q_14_10 q_14_11 q_14f
      have lw_15 : w_12.heap.size ≤ w_15.heap.size := hB.size
      replace hMa := box_on hMa hB (by omega)
      replace hMb := box_on hMb hB (by omega)
      replace hZ := box_on hZ hB (by omega)
      replace hY := box_on hY hB (by omega)
      replace Ra := MRows.on Ra hB
      replace Rb := MRows.on Rb hB
      replace IM1 := (Ints.below IM1 hB (Nat.le_refl _)).more (Nat.le_refl _) hB.size
      replace ID1 := (Ints.below ID1 hB (Nat.le_refl _)).more (Nat.le_refl _) hB.size
      replace X1 := (hB.block _ (by omega)).trans X1
      replace Y1 := (hB.block _ (by omega)).trans Y1
      replace hBL := hBL.trans (hB.mono (by omega))
      replace iM2 := Lib.hid iM2
      replace iD2 := Lib.hid iD2
      replace IM2 : Ints _ (w.heap.size + 4) _ .u32 M2.A M2.n M2.xs := Ints.more IM2 (by omega) (Nat.le_refl _)
      replace ID2 : Ints _ (w.heap.size + 4) _ .u32 D2.A D2.n D2.xs := Ints.more ID2 (by omega) (Nat.le_refl _)
      try clear hww_12
      clear hB
      obtain ⟨w_16, hww_16, X2_, Y2_, hB, mw_16⟩ := alloc_dd w_15 M2 D2
      have lw_16 : w_15.heap.size ≤ w_16.heap.size := hB.size
      replace hMa := box_on hMa hB (by omega)
      replace hMb := box_on hMb hB (by omega)
      replace hZ := box_on hZ hB (by omega)
      replace hY := box_on hY hB (by omega)
      replace Ra := MRows.on Ra hB
      replace Rb := MRows.on Rb hB
      replace IM1 := (Ints.below IM1 hB (Nat.le_refl _)).more (Nat.le_refl _) hB.size
      replace ID1 := (Ints.below ID1 hB (Nat.le_refl _)).more (Nat.le_refl _) hB.size
      replace IM2 := (Ints.below IM2 hB (Nat.le_refl _)).more (Nat.le_refl _) hB.size
      replace ID2 := (Ints.below ID2 hB (Nat.le_refl _)).more (Nat.le_refl _) hB.size
      replace X1 := (hB.block _ (by omega)).trans X1
      replace Y1 := (hB.block _ (by omega)).trans Y1
      replace hBL := hBL.trans (hB.mono (by omega))
      have X2 := X2_
      have Y2 := Y2_
      clear hB X2_ Y2_
      replace c1 := c1.out
      replace c2 := c2.out
      rcases c1 with rfl | rfl <;> rcases c2 with rfl | rfl
      · skip
        have hmax : ∀ W : World, (Builtin.max_ #[3, 3] 3 #[.int .i64 0, .int .i64 0]).run Tryd.prog W = .ok (.int .i64 0) W := fun W => run_max2 W _ _ _ _ _ (by decide)
        have hcode := HR2.out
        rw [if_pos ⟨rfl, rfl⟩] at hcode
        injection hcode with h1 h2
        injection h1 with h1 h3
        have HM1 := Lib.hid h1
        have HL1 := Lib.hid h3
        subst h2
        try clear hcode
        clear h1 h3
        go_wp2_with fail
        try clear hww_16
        refine region_E (fun W' : World => ∀ p, p < w_16.heap.size → p ≠ w.heap.size + 1 + 1 → p ≠ w.heap.size + 1 + 1 + 1 → W'.heap[p]? = w_16.heap[p]?) [] (m := 14) (L := #[false, false, false, false, false, false, false, false, false, false, false, false, false, false]) (by kernel_rfl) (by rfl) (by rfl) ?_
        have kq_ : ∀ p, p < w_16.heap.size → p ≠ w.heap.size + 1 + 1 → p ≠ w.heap.size + 1 + 1 + 1 → w_16.drew.heap[p]? = w_16.heap[p]? := fun _ _ _ _ => rfl
        refine pureE (i := 0) (L := #[true, false, false, false, false, false, false, false, false, false, false, false, false, false]) (v := ?_) rfl (by rfl) (by kernel_rfl) (by kernel_rfl) (by kernel_rfl) (fun _ _ _ h => h) (by rfl) ?hy1 ?rest1
        case hy1 => intro w; go_simp; (try with_reducible rfl)
        try simp only [Act.put, List.setIfInBounds_toArray, List.set_cons_zero, List.set_cons_succ]
        refine readE (i := 1) (L := #[true, true, false, false, false, false, false, false, false, false, false, false, false, false]) (v := .agg #[.bool b.S.s, .slice b.S.A b.S.n b.S.c, .int .i64 b.S.e]) rfl (by rfl) (by kernel_rfl) (by kernel_rfl) (by kernel_rfl) (fun _ _ _ h => h) (by assumption) (by rfl) ?yr_17 ?zr_17
        case yr_17 =>
          intro w' h1
          obtain ⟨⟨k0, k1, k2, k3, k4, k5, k6, k7, k8, k9, k10, k11⟩, kf⟩ := MBox.cells ((h1 _ (by omega) (by omega) (by omega)).trans hMb)
          go_simp
        try simp only [Act.put, List.setIfInBounds_toArray, List.set_cons_zero, List.set_cons_succ]
        refine pureE (i := 2) (L := #[true, true, true, false, false, false, false, false, false, false, false, false, false, false]) (v := ?_) rfl (by rfl) (by kernel_rfl) (by kernel_rfl) (by kernel_rfl) (fun _ _ _ h => h) (by rfl) ?hy3 ?rest3
        case hy3 => intro w; go_simp; (try with_reducible rfl)
        try simp only [Act.put, List.setIfInBounds_toArray, List.set_cons_zero, List.set_cons_succ]
        refine readE (i := 3) (L := #[true, true, true, true, false, false, false, false, false, false, false, false, false, false]) (v := .agg #[.bool b.W.s, .slice b.W.A b.W.n b.W.c, .int .i64 b.W.e]) rfl (by rfl) (by kernel_rfl) (by kernel_rfl) (by kernel_rfl) (fun _ _ _ h => h) (by assumption) (by rfl) ?yr_18 ?zr_18
        case yr_18 =>
          intro w' h1
          obtain ⟨⟨k0, k1, k2, k3, k4, k5, k6, k7, k8, k9, k10, k11⟩, kf⟩ := MBox.cells ((h1 _ (by omega) (by omega) (by omega)).trans hMb)
          go_simp
        try simp only [Act.put, List.setIfInBounds_toArray, List.set_cons_zero, List.set_cons_succ]
        refine readE (i := 4) (L := #[true, true, true, true, true, false, false, false, false, false, false, false, false, false]) (v := .agg #[.bool M1.s, .slice M1.A M1.n M1.c, .int .i64 M1.e]) rfl (by rfl) (by kernel_rfl) (by kernel_rfl) (by kernel_rfl) (fun _ _ _ h => h) (by assumption) (by rfl) ?yr_19 ?zr_19
        case yr_19 =>
          intro w' h1
          obtain ⟨⟨e0, e1, e2⟩, _⟩ := boxD ((h1 _ (by omega) (by omega) (by omega)).trans X1)
          go_simp
        try simp only [Act.put, List.setIfInBounds_toArray, List.set_cons_zero, List.set_cons_succ]
        refine readE (i := 5) (L := #[true, true, true, true, true, true, false, false, false, false, false, false, false, false]) (v := .agg #[.bool M2.s, .slice M2.A M2.n M2.c, .int .i64 M2.e]) rfl (by rfl) (by kernel_rfl) (by kernel_rfl) (by kernel_rfl) (fun _ _ _ h => h) (by assumption) (by rfl) ?yr_20 ?zr_20
        case yr_20 =>
          intro w' h1
          obtain ⟨⟨e0, e1, e2⟩, _⟩ := boxD ((h1 _ (by omega) (by omega) (by omega)).trans X2)
          go_simp
        try simp only [Act.put, List.setIfInBounds_toArray, List.set_cons_zero, List.set_cons_succ]
        refine pureE (i := 6) (L := #[true, true, true, true, true, true, true, false, false, false, false, false, false, false]) (v := ?_) rfl (by rfl) (by kernel_rfl) (by kernel_rfl) (by kernel_rfl) (fun _ _ _ h => h) (by rfl) ?hy7 ?rest7
        case hy7 => intro w; go_simp; (try with_reducible rfl)
        try simp only [Act.put, List.setIfInBounds_toArray, List.set_cons_zero, List.set_cons_succ]
        refine readE (i := 8) (L := #[true, true, true, true, true, true, true, false, true, false, false, false, false, false]) (v := .agg #[.bool D1.s, .slice D1.A D1.n D1.c, .int .i64 D1.e]) rfl (by rfl) (by kernel_rfl) (by kernel_rfl) (by kernel_rfl) (fun _ _ _ h => h) (by assumption) (by rfl) ?yr_21 ?zr_21
        case yr_21 =>
          intro w' h1
          obtain ⟨⟨e0, e1, e2⟩, _⟩ := boxD ((h1 _ (by omega) (by omega) (by omega)).trans Y1)
          go_simp
        try simp only [Act.put, List.setIfInBounds_toArray, List.set_cons_zero, List.set_cons_succ]
        refine readE (i := 9) (L := #[true, true, true, true, true, true, true, false, true, true, false, false, false, false]) (v := .agg #[.bool D2.s, .slice D2.A D2.n D2.c, .int .i64 D2.e]) rfl (by rfl) (by kernel_rfl) (by kernel_rfl) (by kernel_rfl) (fun _ _ _ h => h) (by assumption) (by rfl) ?yr_22 ?zr_22
        case yr_22 =>
          intro w' h1
          obtain ⟨⟨e0, e1, e2⟩, _⟩ := boxD ((h1 _ (by omega) (by omega) (by omega)).trans Y2)
          go_simp
        try simp only [Act.put, List.setIfInBounds_toArray, List.set_cons_zero, List.set_cons_succ]
        refine pureE (i := 10) (L := #[true, true, true, true, true, true, true, false, true, true, true, false, false, false]) (v := ?_) rfl (by rfl) (by kernel_rfl) (by kernel_rfl) (by kernel_rfl) (fun _ _ _ h => h) (by rfl) ?hy10 ?rest10
        case hy10 => intro w; go_simp; (try with_reducible rfl)
        try simp only [Act.put, List.setIfInBounds_toArray, List.set_cons_zero, List.set_cons_succ]
        obtain ⟨O, hOe⟩ : ∃ O : Mv, O = ⟨b.S, b.W, M1, M2⟩ := ⟨_, rfl⟩
        obtain ⟨K_, hKe⟩ : ∃ K : Mv, K = ⟨ZM.S, ZM.W, D1, D2⟩ := ⟨_, rfl⟩
        have hO1 : IsM mR O := by rw [hOe, ← HM1.out]; exact four (iB.out 0 (by decide)) (iB.out 1 (by decide)) iM1.out iM2.out
        have hK1 : IsM lR K_ := by rw [hKe, ← HL1.out]; exact four Is.zero Is.zero iD1.out iD2.out
        have mO1 : MayR mR := by rw [← HM1.out]; exact four (mB.out 0 (by decide)) (mB.out 1 (by decide)) (mid_may H1.out).1 (mid_may H2.out).1
        have RO : MRows w_16 0 w_16.heap.size O := by rw [hOe]; exact ⟨Rb.S, Rb.W, IM1.more (Nat.zero_le _) (Nat.le_refl _), IM2.more (Nat.zero_le _) (Nat.le_refl _)⟩
        have nO := isM_n2 RO hO1 mO1
        have HOE := Lib.hid hOe
        have HKE := Lib.hid hKe
        replace hO1 := Lib.hid hO1
        replace hK1 := Lib.hid hK1
        clear hOe hKe mO1
        have hB : Below w_16.heap.size w_16 w_16.drew := (Below.refl _ _).drew
        replace RO : MRows w_16.drew 0 w_16.drew.heap.size O := RO.on hB
        have b_ := hBL.trans (hB.mono (by omega))
        have l2 : w_16.heap.size ≤ w_16.drew.heap.size := hB.size
        have J1 := ID1.below hB (Nat.le_refl _)
        have J2 := ID2.below hB (Nat.le_refl _)
        have hZ2 : MBox w_16.drew (w.heap.size + 1 + 1) ZM := hZ
        have hY2 : MBox w_16.drew (w.heap.size + 1 + 1 + 1) ZM := hY
        clear hB
        generalize w_16.drew = w2 at *
        refine stepK (i := 7) (L := #[true, true, true, true, true, true, true, true, true, true, true, false, false, false]) rfl (by rfl) (by kernel_rfl) (by rfl) (fun K hK => ?_)
        go_simp
        go_at_call 29
        have C_ := RTwinM_any w2 O RO nO
        rw [HOE.out] at C_
        refine C_.mono ?_
        rintro e' w3 ⟨o, rfl, hto, hB, Ro⟩
        rw [← HOE.out] at hto
        replace hto := Lib.hid hto
        have l3 := hB.size
        replace kq_ : ∀ p, p < w_16.heap.size → p ≠ w.heap.size + 1 + 1 → p ≠ w.heap.size + 1 + 1 + 1 → w3.heap[p]? = w_16.heap[p]? := fun p hp h1 h2 => (hB.block p (by omega)).trans (kq_ p hp h1 h2)
        replace b_ := b_.trans (hB.mono (by omega))
        replace J1 := J1.below hB (by omega)
        replace J2 := J2.below hB (by omega)
        replace hZ2 := box_on hZ2 hB (by omega)
        replace hY2 := box_on hY2 hB (by omega)
        clear hB C_
        refine hK _ _ ⟨fun _ _ => kq_, ?_⟩
        clear hK K
        try simp only [Act.put, List.setIfInBounds_toArray, List.set_cons_zero, List.set_cons_succ]
        obtain ⟨⟨k0, k1, k2, k3, k4, k5, k6, k7, k8, k9, k10, k11⟩, kf⟩ := MBox.cells hZ2
        refine stepK (i := 11) (L := #[true, true, true, true, true, true, true, true, true, true, true, true, false, false]) rfl (by rfl) (by kernel_rfl) (by rfl) (fun K hK => ?_)
        go_simp
        obtain ⟨w5, hc_, hX, hb_, hf_, l5, l5'⟩ := all_to hZ2 o
        rw [hc_]
        clear hc_ k0 k1 k2 k3 k4 k5 k6 k7 k8 k9 k10 k11 kf
        refine hK _ _ ⟨fun _ h p hp h1 h2 => (hf_ p h1).trans (h p hp h1 h2), ?_⟩
        clear hK K
        try simp only [Act.put, List.setIfInBounds_toArray, List.set_cons_zero, List.set_cons_succ]
        replace b_ := hb_ _ _ b_ (by omega)
        replace hY2 : MBox w5 (w.heap.size + 1 + 1 + 1) ZM := (hf_ _ (by omega)).trans hY2
        replace Ro := rows_rng Ro (w' := w5) (fun b h1 h2 => hf_ b (by omega))
        replace J1 := ints_rng J1 (w' := w5) (fun b h1 h2 => hf_ b (by omega))
        replace J2 := ints_rng J2 (w' := w5) (fun b h1 h2 => hf_ b (by omega))
        clear hb_ hf_ hZ2
        obtain ⟨⟨k0, k1, k2, k3, k4, k5, k6, k7, k8, k9, k10, k11⟩, kf⟩ := MBox.cells hY2
        refine stepK (i := 12) (L := #[true, true, true, true, true, true, true, true, true, true, true, true, true, false]) rfl (by rfl) (by kernel_rfl) (by rfl) (fun K hK => ?_)
        go_simp
        obtain ⟨w6, hc_, hX2, hb_, hf_, l6, l6'⟩ := all_to hY2 ⟨ZM.S, ZM.W, D1, D2⟩
        have hc2 := hc_
        simp only [ZM] at hc2
        first | rw [hc_] | rw [hc2]
        clear hc_ hc2 k0 k1 k2 k3 k4 k5 k6 k7 k8 k9 k10 k11 kf
        refine hK _ _ ⟨fun _ h p hp h1 h2 => (hf_ p h2).trans (h p hp h1 h2), ?_⟩
        clear hK K
        try simp only [Act.put, List.setIfInBounds_toArray, List.set_cons_zero, List.set_cons_succ]
        rw [← HKE.out] at hX2
        replace b_ := hb_ _ _ b_ (by omega)
        replace hX : MBox w6 (w.heap.size + 1 + 1) o := (hf_ _ (by omega)).trans hX
        replace Ro := rows_rng Ro (w' := w6) (fun b h1 h2 => hf_ b (by omega))
        replace J1 := ints_rng J1 (w' := w6) (fun b h1 h2 => hf_ b (by omega))
        replace J2 := ints_rng J2 (w' := w6) (fun b h1 h2 => hf_ b (by omega))
        clear hb_ hf_ hY2
        have RK : MRows w6 w.heap.size w6.heap.size K_ := by rw [HKE.out]; exact ⟨Ints.nil_ .., Ints.nil_ .., J1.more (by omega) (by omega), J2.more (by omega) (by omega)⟩
        refine pureE (i := 13) (L := #[true, true, true, true, true, true, true, true, true, true, true, true, true, true]) (v := ?_) rfl (by rfl) (by kernel_rfl) (by kernel_rfl) (by kernel_rfl) (fun _ _ _ h => h) (by rfl) ?hy14 ?rest14
        case hy14 => intro w; go_simp; (try with_reducible rfl)
        try simp only [Act.put, List.setIfInBounds_toArray, List.set_cons_zero, List.set_cons_succ]
        refine doneE (by kernel_rfl) ?_ _
        go_wp2
        obtain ⟨⟨k0, k1, k2, k3, k4, k5, k6, k7, k8, k9, k10, k11⟩, kf⟩ := MBox.cells hX
        obtain ⟨⟨y0, y1, y2, y3, y4, y5, y6, y7, y8, y9, y10, y11⟩, yf⟩ := MBox.cells hX2
        exact bodyPost_ret (v := .tuple #[.agg #[.bool o.S.s, .slice o.S.A o.S.n o.S.c, .int .i64 o.S.e, .bool o.W.s, .slice o.W.A o.W.n o.W.c, .int .i64 o.W.e, .bool o.C.s, .slice o.C.A o.C.n o.C.c, .int .i64 o.C.e, .bool o.A.s, .slice o.A.A o.A.n o.A.c, .int .i64 o.A.e], .agg #[.bool K_.S.s, .slice K_.S.A K_.S.n K_.S.c, .int .i64 K_.S.e, .bool K_.W.s, .slice K_.W.A K_.W.n K_.W.c, .int .i64 K_.W.e, .bool K_.C.s, .slice K_.C.A K_.C.n K_.C.c, .int .i64 K_.C.e, .bool K_.A.s, .slice K_.A.A K_.A.n K_.A.c, .int .i64 K_.A.e], .int .i64 0]) (by simp [results, Tryd.results44, go_sem, k0, k1, k2, k3, k4, k5, k6, k7, k8, k9, k10, k11, y0, y1, y2, y3, y4, y5, y6, y7, y8, y9, y10, y11]) rfl ⟨o, K_, rfl, b_, hO1.out.twin hto.out, hK1.out, Ro.more (by omega) (by omega), RK⟩
      · skip
        have hmax : ∀ W : World, (Builtin.max_ #[3, 3] 3 #[.int .i64 0, .int .i64 10]).run Tryd.prog W = .ok (.int .i64 10) W := fun W => run_max2 W _ _ _ _ _ (by decide)
        have hcode := HR2.out
        rw [if_neg (by simp)] at hcode
        injection hcode with h1 h2
        injection h1 with h1 h3
        subst h1 h2 h3
        obtain ⟨⟨q_23_0, q_23_1, q_23_2, q_23_3, q_23_4, q_23_5, q_23_6, q_23_7, q_23_8, q_23_9, q_23_10, q_23_11⟩, q_23f⟩ := MBox.cells hZ
        obtain ⟨⟨q_24_0, q_24_1, q_24_2, q_24_3, q_24_4, q_24_5, q_24_6, q_24_7, q_24_8, q_24_9, q_24_10, q_24_11⟩, q_24f⟩ := MBox.cells hY
        go_wp2
        try clear hww_16
        obtain ⟨U1, M1, hc1, hM1, hX1, hb1, hf1, _, _⟩ := zero_to hZ
        rw [hc1]
        obtain ⟨U, M, hc2, hMe, hX2, hb2, hf2, _, _⟩ := zero_to (show MBox U1 (w.heap.size + 1 + 1 + 1) _ from (hf1 _ (by omega)).trans hY)
        rw [hc2]
        replace hX1 : MBox U (w.heap.size + 1 + 1) M := by rw [hMe, ← hM1]; exact (hf2 _ (by omega)).trans hX1
        have hQ := hb2 _ _ (hb1 _ _ hBL (by omega)) (by omega)
        clear q_23_0 q_23_1 q_23_2 q_23_3 q_23_4 q_23_5 q_23_6 q_23_7 q_23_8 q_23_9 q_23_10 q_23_11 q_23f q_24_0 q_24_1 q_24_2 q_24_3 q_24_4 q_24_5 q_24_6 q_24_7 q_24_8 q_24_9 q_24_10 q_24_11 q_24f
        clear hc1 hc2
        obtain ⟨⟨k0, k1, k2, k3, k4, k5, k6, k7, k8, k9, k10, k11⟩, kf⟩ := MBox.cells hX1
        obtain ⟨⟨y0, y1, y2, y3, y4, y5, y6, y7, y8, y9, y10, y11⟩, yf⟩ := MBox.cells hX2
        refine bodyPost_ret (v := .tuple #[.agg #[.bool M.S.s, .slice M.S.A M.S.n M.S.c, .int .i64 M.S.e, .bool M.W.s, .slice M.W.A M.W.n M.W.c, .int .i64 M.W.e, .bool M.C.s, .slice M.C.A M.C.n M.C.c, .int .i64 M.C.e, .bool M.A.s, .slice M.A.A M.A.n M.A.c, .int .i64 M.A.e], .agg #[.bool M.S.s, .slice M.S.A M.S.n M.S.c, .int .i64 M.S.e, .bool M.W.s, .slice M.W.A M.W.n M.W.c, .int .i64 M.W.e, .bool M.C.s, .slice M.C.A M.C.n M.C.c, .int .i64 M.C.e, .bool M.A.s, .slice M.A.A M.A.n M.A.c, .int .i64 M.A.e], .int .i64 10]) (by simp [results, Tryd.results44, go_sem, k0, k1, k2, k3, k4, k5, k6, k7, k8, k9, k10, k11, y0, y1, y2, y3, y4, y5, y6, y7, y8, y9, y10, y11]) rfl ⟨M, M, rfl, hQ, ?_⟩
        rw [hMe]
        exact ⟨IsM.zero, IsM.zero, ZM_rows .., ZM_rows ..⟩
      · skip
        have hmax : ∀ W : World, (Builtin.max_ #[3, 3] 3 #[.int .i64 10, .int .i64 0]).run Tryd.prog W = .ok (.int .i64 10) W := fun W => run_max2 W _ _ _ _ _ (by decide)
        have hcode := HR2.out
        rw [if_neg (by simp)] at hcode
        injection hcode with h1 h2
        injection h1 with h1 h3
        subst h1 h2 h3
        obtain ⟨⟨q_25_0, q_25_1, q_25_2, q_25_3, q_25_4, q_25_5, q_25_6, q_25_7, q_25_8, q_25_9, q_25_10, q_25_11⟩, q_25f⟩ := MBox.cells hZ
        obtain ⟨⟨q_26_0, q_26_1, q_26_2, q_26_3, q_26_4, q_26_5, q_26_6, q_26_7, q_26_8, q_26_9, q_26_10, q_26_11⟩, q_26f⟩ := MBox.cells hY
        go_wp2
        try clear hww_16
        obtain ⟨U1, M1, hc1, hM1, hX1, hb1, hf1, _, _⟩ := zero_to hZ
        rw [hc1]
        obtain ⟨U, M, hc2, hMe, hX2, hb2, hf2, _, _⟩ := zero_to (show MBox U1 (w.heap.size + 1 + 1 + 1) _ from (hf1 _ (by omega)).trans hY)
        rw [hc2]
        replace hX1 : MBox U (w.heap.size + 1 + 1) M := by rw [hMe, ← hM1]; exact (hf2 _ (by omega)).trans hX1
        have hQ := hb2 _ _ (hb1 _ _ hBL (by omega)) (by omega)
        clear q_25_0 q_25_1 q_25_2 q_25_3 q_25_4 q_25_5 q_25_6 q_25_7 q_25_8 q_25_9 q_25_10 q_25_11 q_25f q_26_0 q_26_1 q_26_2 q_26_3 q_26_4 q_26_5 q_26_6 q_26_7 q_26_8 q_26_9 q_26_10 q_26_11 q_26f
        clear hc1 hc2
        obtain ⟨⟨k0, k1, k2, k3, k4, k5, k6, k7, k8, k9, k10, k11⟩, kf⟩ := MBox.cells hX1
        obtain ⟨⟨y0, y1, y2, y3, y4, y5, y6, y7, y8, y9, y10, y11⟩, yf⟩ := MBox.cells hX2
        refine bodyPost_ret (v := .tuple #[.agg #[.bool M.S.s, .slice M.S.A M.S.n M.S.c, .int .i64 M.S.e, .bool M.W.s, .slice M.W.A M.W.n M.W.c, .int .i64 M.W.e, .bool M.C.s, .slice M.C.A M.C.n M.C.c, .int .i64 M.C.e, .bool M.A.s, .slice M.A.A M.A.n M.A.c, .int .i64 M.A.e], .agg #[.bool M.S.s, .slice M.S.A M.S.n M.S.c, .int .i64 M.S.e, .bool M.W.s, .slice M.W.A M.W.n M.W.c, .int .i64 M.W.e, .bool M.C.s, .slice M.C.A M.C.n M.C.c, .int .i64 M.C.e, .bool M.A.s, .slice M.A.A M.A.n M.A.c, .int .i64 M.A.e], .int .i64 10]) (by simp [results, Tryd.results44, go_sem, k0, k1, k2, k3, k4, k5, k6, k7, k8, k9, k10, k11, y0, y1, y2, y3, y4, y5, y6, y7, y8, y9, y10, y11]) rfl ⟨M, M, rfl, hQ, ?_⟩
        rw [hMe]
        exact ⟨IsM.zero, IsM.zero, ZM_rows .., ZM_rows ..⟩
      · skip
        have hmax : ∀ W : World, (Builtin.max_ #[3, 3] 3 #[.int .i64 10, .int .i64 10]).run Tryd.prog W = .ok (.int .i64 10) W := fun W => run_max2 W _ _ _ _ _ (by decide)
        have hcode := HR2.out
        rw [if_neg (by simp)] at hcode
        injection hcode with h1 h2
        injection h1 with h1 h3
        subst h1 h2 h3
        obtain ⟨⟨q_27_0, q_27_1, q_27_2, q_27_3, q_27_4, q_27_5, q_27_6, q_27_7, q_27_8, q_27_9, q_27_10, q_27_11⟩, q_27f⟩ := MBox.cells hZ
        obtain ⟨⟨q_28_0, q_28_1, q_28_2, q_28_3, q_28_4, q_28_5, q_28_6, q_28_7, q_28_8, q_28_9, q_28_10, q_28_11⟩, q_28f⟩ := MBox.cells hY
        go_wp2
        try clear hww_16
        obtain ⟨U1, M1, hc1, hM1, hX1, hb1, hf1, _, _⟩ := zero_to hZ
        rw [hc1]
        obtain ⟨U, M, hc2, hMe, hX2, hb2, hf2, _, _⟩ := zero_to (show MBox U1 (w.heap.size + 1 + 1 + 1) _ from (hf1 _ (by omega)).trans hY)
        rw [hc2]
        replace hX1 : MBox U (w.heap.size + 1 + 1) M := by rw [hMe, ← hM1]; exact (hf2 _ (by omega)).trans hX1
        have hQ := hb2 _ _ (hb1 _ _ hBL (by omega)) (by omega)
        clear q_27_0 q_27_1 q_27_2 q_27_3 q_27_4 q_27_5 q_27_6 q_27_7 q_27_8 q_27_9 q_27_10 q_27_11 q_27f q_28_0 q_28_1 q_28_2 q_28_3 q_28_4 q_28_5 q_28_6 q_28_7 q_28_8 q_28_9 q_28_10 q_28_11 q_28f
        clear hc1 hc2
        obtain ⟨⟨k0, k1, k2, k3, k4, k5, k6, k7, k8, k9, k10, k11⟩, kf⟩ := MBox.cells hX1
        obtain ⟨⟨y0, y1, y2, y3, y4, y5, y6, y7, y8, y9, y10, y11⟩, yf⟩ := MBox.cells hX2
        refine bodyPost_ret (v := .tuple #[.agg #[.bool M.S.s, .slice M.S.A M.S.n M.S.c, .int .i64 M.S.e, .bool M.W.s, .slice M.W.A M.W.n M.W.c, .int .i64 M.W.e, .bool M.C.s, .slice M.C.A M.C.n M.C.c, .int .i64 M.C.e, .bool M.A.s, .slice M.A.A M.A.n M.A.c, .int .i64 M.A.e], .agg #[.bool M.S.s, .slice M.S.A M.S.n M.S.c, .int .i64 M.S.e, .bool M.W.s, .slice M.W.A M.W.n M.W.c, .int .i64 M.W.e, .bool M.C.s, .slice M.C.A M.C.n M.C.c, .int .i64 M.C.e, .bool M.A.s, .slice M.A.A M.A.n M.A.c, .int .i64 M.A.e], .int .i64 10]) (by simp [results, Tryd.results44, go_sem, k0, k1, k2, k3, k4, k5, k6, k7, k8, k9, k10, k11, y0, y1, y2, y3, y4, y5, y6, y7, y8, y9, y10, y11]) rfl ⟨M, M, rfl, hQ, ?_⟩
        rw [hMe]
        exact ⟨IsM.zero, IsM.zero, ZM_rows .., ZM_rows ..⟩
end Ma
end Go.Proofs.YtlbkepiflhchdaaDoor

namespace Go.Proofs.YtlbkepiflhchdaaDoor
open Go.RowKit
namespace Ma
open Dp Dy
set_option maxHeartbeats 12800000 in
set_option maxRecDepth 100000 in
theorem RDone_num (w : World) (a b : Mv) (hA : MRows w 0 w.heap.size a) (hB : MRows w 0 w.heap.size b) (R : Nat → Dn) (code : Int) (hR : doneM a b = (R, code)) :
    Calls Tryd.prog 46 #[.agg #[.bool a.S.s, .slice a.S.A a.S.n a.S.c, .int .i64 a.S.e, .bool a.W.s, .slice a.W.A a.W.n a.W.c, .int .i64 a.W.e, .bool a.C.s, .slice a.C.A a.C.n a.C.c, .int .i64 a.C.e, .bool a.A.s, .slice a.A.A a.A.n a.A.c, .int .i64 a.A.e], .agg #[.bool b.S.s, .slice b.S.A b.S.n b.S.c, .int .i64 b.S.e, .bool b.W.s, .slice b.W.A b.W.n b.W.c, .int .i64 b.W.e, .bool b.C.s, .slice b.C.A b.C.n b.C.c, .int .i64 b.C.e, .bool b.A.s, .slice b.A.A b.A.n b.A.c, .int .i64 b.A.e]] w fun e w' => ∃ m' : Mv, e = .returned (.tuple #[.agg #[.bool m'.S.s, .slice m'.S.A m'.S.n m'.S.c, .int .i64 m'.S.e, .bool m'.W.s, .slice m'.W.A m'.W.n m'.W.c, .int .i64 m'.W.e, .bool m'.C.s, .slice m'.C.A m'.C.n m'.C.c, .int .i64 m'.C.e, .bool m'.A.s, .slice m'.A.A m'.A.n m'.A.c, .int .i64 m'.A.e], .int .i64 code]) ∧ Below w.heap.size w w' ∧ IsM R m' ∧ MRows w' w.heap.size w'.heap.size m' := by
  generalize hw1 : ((w.alloc (.cells #[.bool a.S.s, .slice a.S.A a.S.n a.S.c, .int .i64 a.S.e, .bool a.W.s, .slice a.W.A a.W.n a.W.c, .int .i64 a.W.e, .bool a.C.s, .slice a.C.A a.C.n a.C.c, .int .i64 a.C.e, .bool a.A.s, .slice a.A.A a.A.n a.A.c, .int .i64 a.A.e] 39)).alloc (.cells #[.bool b.S.s, .slice b.S.A b.S.n b.S.c, .int .i64 b.S.e, .bool b.W.s, .slice b.W.A b.W.n b.W.c, .int .i64 b.W.e, .bool b.C.s, .slice b.C.A b.C.n b.C.c, .int .i64 b.C.e, .bool b.A.s, .slice b.A.A b.A.n b.A.c, .int .i64 b.A.e] 39)).alloc (.cells #[.bool false, .slice none 0 0, .int .i64 0, .bool false, .slice none 0 0, .int .i64 0, .bool false, .slice none 0 0, .int .i64 0, .bool false, .slice none 0 0, .int .i64 0] 39) = w1
  obtain ⟨hMa, hMb, hZ, hBL, lo1, hi1⟩ := boxes3 w _ _ _ hw1
  replace hMa : MBox w1 w.heap.size a := hMa
  replace hMb : MBox w1 (w.heap.size + 1) b := hMb
  replace hZ : MBox w1 (w.heap.size + 1 + 1) ZM := hZ
  replace hBL : Below w.heap.size w w1 := hBL
  have Ra : MRows w1 0 w1.heap.size a := hA.on hBL
  have Rb : MRows w1 0 w1.heap.size b := hB.on hBL
  have HR := Lib.hid hR
  clear hR
  obtain ⟨ga, hga⟩ : ∃ g, mayMB a = g := ⟨_, rfl⟩
  obtain ⟨gb, hgb⟩ : ∃ g, mayMB b = g := ⟨_, rfl⟩
  have HGA := Lib.hid hga
  have HGB := Lib.hid hgb
  clear hga hgb
  go_enter Tryd.func46, Tryd.ntmps46
  obtain ⟨⟨q_1_0, q_1_1, q_1_2, q_1_3, q_1_4, q_1_5, q_1_6, q_1_7, q_1_8, q_1_9, q_1_10, q_1_11⟩, q_1f⟩ := MBox.cells hMa
  go_wp2_with fail
  refine (RMay_any w1 a Ra ga HGA.out).mono ?_
  rintro e' w_2 ⟨rfl, hB⟩
  clear q_1_0 q_1_1 q_1_2 q_1_3 q_1_4 q_1_5 q_1_6 q_1_7 q_1_8 q_1_9 q_1_10 q_1_11 q_1f
  have lw_2 : w1.heap.size ≤ w_2.heap.size := hB.size
  replace hMa := box_on hMa hB (by omega)
  replace hMb := box_on hMb hB (by omega)
  replace hZ := box_on hZ hB (by omega)
  replace Ra := MRows.on Ra hB
  replace Rb := MRows.on Rb hB
  replace hBL := hBL.trans (hB.mono (by omega))
  try clear hw1
  clear hB
  cases ga
  · skip
    have hcode : (zR, (8 : Int)) = (R, code) := by
      rw [← HR.out]
      unfold doneM
      rw [if_neg fun k => ?_]
      have := (mayMB_iff a).2 k.1
      rw [HGA.out] at this
      cases this
    injection hcode with h1 h2
    subst h1 h2
    obtain ⟨⟨q_3_0, q_3_1, q_3_2, q_3_3, q_3_4, q_3_5, q_3_6, q_3_7, q_3_8, q_3_9, q_3_10, q_3_11⟩, q_3f⟩ := MBox.cells hZ
    go_wp2
    obtain ⟨U, M, hc_, hMe, hX, hb_, _, _, _⟩ := zero_to hZ
    rw [hc_]
    have hY := hb_ _ _ hBL (by omega)
    clear q_3_0 q_3_1 q_3_2 q_3_3 q_3_4 q_3_5 q_3_6 q_3_7 q_3_8 q_3_9 q_3_10 q_3_11 q_3f
    clear hc_
    obtain ⟨⟨k0, k1, k2, k3, k4, k5, k6, k7, k8, k9, k10, k11⟩, kf⟩ := MBox.cells hX
    refine bodyPost_ret (v := .tuple #[.agg #[.bool M.S.s, .slice M.S.A M.S.n M.S.c, .int .i64 M.S.e, .bool M.W.s, .slice M.W.A M.W.n M.W.c, .int .i64 M.W.e, .bool M.C.s, .slice M.C.A M.C.n M.C.c, .int .i64 M.C.e, .bool M.A.s, .slice M.A.A M.A.n M.A.c, .int .i64 M.A.e], .int .i64 8]) (by simp [results, Tryd.results46, go_sem, k0, k1, k2, k3, k4, k5, k6, k7, k8, k9, k10, k11]) rfl ⟨M, rfl, hY, ?_, ?_⟩
    · rw [hMe]
      exact IsM.zero
    · rw [hMe]
      exact ZM_rows ..
  · skip
    obtain ⟨⟨q_4_0, q_4_1, q_4_2, q_4_3, q_4_4, q_4_5, q_4_6, q_4_7, q_4_8, q_4_9, q_4_10, q_4_11⟩, q_4f⟩ := MBox.cells hMb
    go_wp2_with fail
    refine (RMay_any w_2 b Rb gb HGB.out).mono ?_
    rintro e' w_5 ⟨rfl, hB⟩
    clear q_4_0 q_4_1 q_4_2 q_4_3 q_4_4 q_4_5 q_4_6 q_4_7 q_4_8 q_4_9 q_4_10 q_4_11 q_4f
    have lw_5 : w_2.heap.size ≤ w_5.heap.size := hB.size
    replace hMa := box_on hMa hB (by omega)
    replace hMb := box_on hMb hB (by omega)
    replace hZ := box_on hZ hB (by omega)
    replace Ra := MRows.on Ra hB
    replace Rb := MRows.on Rb hB
    replace hBL := hBL.trans (hB.mono (by omega))
    clear hB
    cases gb
    · skip
      have hcode : (zR, (8 : Int)) = (R, code) := by
        rw [← HR.out]
        unfold doneM
        rw [if_neg fun k => ?_]
        have := (mayMB_iff b).2 k.2
        rw [HGB.out] at this
        cases this
      injection hcode with h1 h2
      subst h1 h2
      obtain ⟨⟨q_6_0, q_6_1, q_6_2, q_6_3, q_6_4, q_6_5, q_6_6, q_6_7, q_6_8, q_6_9, q_6_10, q_6_11⟩, q_6f⟩ := MBox.cells hZ
      go_wp2
      obtain ⟨U, M, hc_, hMe, hX, hb_, _, _, _⟩ := zero_to hZ
      rw [hc_]
      have hY := hb_ _ _ hBL (by omega)
      clear q_6_0 q_6_1 q_6_2 q_6_3 q_6_4 q_6_5 q_6_6 q_6_7 q_6_8 q_6_9 q_6_10 q_6_11 q_6f
      clear hc_
      obtain ⟨⟨k0, k1, k2, k3, k4, k5, k6, k7, k8, k9, k10, k11⟩, kf⟩ := MBox.cells hX
      refine bodyPost_ret (v := .tuple #[.agg #[.bool M.S.s, .slice M.S.A M.S.n M.S.c, .int .i64 M.S.e, .bool M.W.s, .slice M.W.A M.W.n M.W.c, .int .i64 M.W.e, .bool M.C.s, .slice M.C.A M.C.n M.C.c, .int .i64 M.C.e, .bool M.A.s, .slice M.A.A M.A.n M.A.c, .int .i64 M.A.e], .int .i64 8]) (by simp [results, Tryd.results46, go_sem, k0, k1, k2, k3, k4, k5, k6, k7, k8, k9, k10, k11]) rfl ⟨M, rfl, hY, ?_, ?_⟩
      · rw [hMe]
        exact IsM.zero
      · rw [hMe]
        exact ZM_rows ..
    · skip
      have hadd : addM a ⟨ZM.S, ZM.W, b.C, b.A⟩ = (R, code) := by
        rw [← HR.out]
        unfold doneM
        rw [if_pos ⟨(mayMB_iff a).1 HGA.out, (mayMB_iff b).1 HGB.out⟩]
      have HADD := Lib.hid hadd
      clear hadd
      obtain ⟨⟨q_7_0, q_7_1, q_7_2, q_7_3, q_7_4, q_7_5, q_7_6, q_7_7, q_7_8, q_7_9, q_7_10, q_7_11⟩, q_7f⟩ := MBox.cells hMa
      obtain ⟨⟨q_8_0, q_8_1, q_8_2, q_8_3, q_8_4, q_8_5, q_8_6, q_8_7, q_8_8, q_8_9, q_8_10, q_8_11⟩, q_8f⟩ := MBox.cells hMb
      go_wp2_with fail
      refine (RAdd_num w_5 a ⟨ZM.S, ZM.W, b.C, b.A⟩ Ra ⟨Ints.nil_ .., Ints.nil_ .., Rb.C, Rb.A⟩ R code HADD.out).mono ?_
      rintro e' w_9 ⟨x, rfl, hB, hx, rx⟩
      clear q_7_0 q_7_1 q_7_2 q_7_3 q_7_4 q_7_5 q_7_6 q_7_7 q_7_8 q_7_9 q_7_10 q_7_11 q_7f q_8_0 q_8_1 q_8_2 q_8_3 q_8_4 q_8_5 q_8_6 q_8_7 q_8_8 q_8_9 q_8_10 q_8_11 q_8f
      have lw_9 : w_5.heap.size ≤ w_9.heap.size := hB.size
      replace hMa := box_on hMa hB (by omega)
      replace hMb := box_on hMb hB (by omega)
      replace hZ := box_on hZ hB (by omega)
      replace Ra := MRows.on Ra hB
      replace Rb := MRows.on Rb hB
      replace hBL := hBL.trans (hB.mono (by omega))
      replace hx := Lib.hid hx
      clear hB
      obtain ⟨w_10, hwA, hMx_, hB, mA⟩ := alloc_m w_9 x
      have rx2 := rx.below hB (Nat.le_refl _)
      have lw_10 : w_9.heap.size ≤ w_10.heap.size := hB.size
      replace hMa := box_on hMa hB (by omega)
      replace hMb := box_on hMb hB (by omega)
      replace hZ := box_on hZ hB (by omega)
      replace Ra := MRows.on Ra hB
      replace Rb := MRows.on Rb hB
      replace hBL := hBL.trans (hB.mono (by omega))
      have hMx := hMx_
      clear hB hMx_ rx
      obtain ⟨⟨q_11_0, q_11_1, q_11_2, q_11_3, q_11_4, q_11_5, q_11_6, q_11_7, q_11_8, q_11_9, q_11_10, q_11_11⟩, q_11f⟩ := MBox.cells hZ
      obtain ⟨⟨q_12_0, q_12_1, q_12_2, q_12_3, q_12_4, q_12_5, q_12_6, q_12_7, q_12_8, q_12_9, q_12_10, q_12_11⟩, q_12f⟩ := MBox.cells hMx
      have hn1 : w.heap.size + 1 + 1 ≠ w_9.heap.size := by omega
      have hn2 : w_9.heap.size ≠ w.heap.size + 1 + 1 := by omega
      go_wp2
      clear q_11_0 q_11_1 q_11_2 q_11_3 q_11_4 q_11_5 q_11_6 q_11_7 q_11_8 q_11_9 q_11_10 q_11_11 q_11f q_12_0 q_12_1 q_12_2 q_12_3 q_12_4 q_12_5 q_12_6 q_12_7 q_12_8 q_12_9 q_12_10 q_12_11 q_12f
      obtain ⟨U, hc_, hX, hb3, hf3, l3, l4⟩ := all_to hZ x
      rw [hc_]
      clear hc_
      have hY := hb3 _ _ hBL (by omega)
      replace rx2 := rows_rng rx2 (w' := U) (fun b h1 h2 => hf3 b (by omega))
      obtain ⟨⟨k0, k1, k2, k3, k4, k5, k6, k7, k8, k9, k10, k11⟩, kf⟩ := MBox.cells hX
      exact bodyPost_ret (v := .tuple #[.agg #[.bool x.S.s, .slice x.S.A x.S.n x.S.c, .int .i64 x.S.e, .bool x.W.s, .slice x.W.A x.W.n x.W.c, .int .i64 x.W.e, .bool x.C.s, .slice x.C.A x.C.n x.C.c, .int .i64 x.C.e, .bool x.A.s, .slice x.A.A x.A.n x.A.c, .int .i64 x.A.e], .int .i64 code]) (by simp [results, Tryd.results46, go_sem, k0, k1, k2, k3, k4, k5, k6, k7, k8, k9, k10, k11]) rfl ⟨x, rfl, hY, hx.out, rx2.more (by omega) (by omega)⟩
end Ma
end Go.Proofs.YtlbkepiflhchdaaDoor

namespace Go.Proofs.YtlbkepiflhchdaaDoor
open Go.RowKit
namespace Ma
open Dp Dy
set_option maxHeartbeats 12800000 in
set_option maxRecDepth 100000 in
theorem spoil16_any (w : World) (m : Mv) (lo hi : Nat) (h : MRows w lo hi m) (hn : ∀ x, x < 4 → (m.get x).n ≤ 1000000) (hhi : hi ≤ w.heap.size) (hlo : lo ≤ w.heap.size) :
    Calls Tryd.prog 42 #[.agg #[.bool m.S.s, .slice m.S.A m.S.n m.S.c, .int .i64 m.S.e, .bool m.W.s, .slice m.W.A m.W.n m.W.c, .int .i64 m.W.e, .bool m.C.s, .slice m.C.A m.C.n m.C.c, .int .i64 m.C.e, .bool m.A.s, .slice m.A.A m.A.n m.A.c, .int .i64 m.A.e]] w fun e w' => e = .returned (.tuple #[]) ∧ Below lo w w' ∧ From hi w w' := by
  generalize hw : (w.alloc (.cells #[.bool m.S.s, .slice m.S.A m.S.n m.S.c, .int .i64 m.S.e, .bool m.W.s, .slice m.W.A m.W.n m.W.c, .int .i64 m.W.e, .bool m.C.s, .slice m.C.A m.C.n m.C.c, .int .i64 m.C.e, .bool m.A.s, .slice m.A.A m.A.n m.A.c, .int .i64 m.A.e] 39)).alloc (.cells #[.slice m.S.A m.S.n m.S.c, .slice m.W.A m.W.n m.W.c, .slice m.C.A m.C.n m.C.c, .slice m.A.A m.A.n m.A.c] 22) = w1
  obtain ⟨hM, hLB, hBL, lo1, hi1⟩ := boxes2 w _ _ hw
  replace hM : MBox w1 w.heap.size m := hM
  replace hLB : LBox w1 (w.heap.size + 1) m := hLB
  have b1 : Below lo w w1 := hBL.mono hlo
  have f1 : From hi w w1 := fun k _ h2 => hBL.block k h2
  have hW : WrM w1 lo hi m := WrM.of h fun b hb => hBL.block b (by omega)
  clear h hBL
  obtain ⟨⟨k0, k1, k2, k3, k4, k5, k6, k7, k8, k9, k10, k11⟩, kf⟩ := MBox.cells hM
  go_enter Tryd.func42, Tryd.ntmps42
  go_wp2
  clear k0 k1 k2 k3 k4 k5 k6 k7 k8 k9 k10 k11 kf hM
  try clear hw
  go_loopw [3, 4] (fun iv _ wr => ∃ i : Nat, iv = .int .i64 i ∧ i ≤ 4 ∧ LBox wr (w.heap.size + 1) m ∧ Below lo w wr ∧ From hi w wr ∧ WrM wr lo hi m) (fun iv _ _ => 4 - (intOf iv).toNat)
  case atStart => exact ⟨0, rfl, Nat.zero_le _, hLB, b1, f1, hW⟩
  case round =>
    clear hLB b1 f1 hW
    obtain ⟨i, rfl, hi4, hLB, b1, f1, hW⟩ := hrel
    by_cases hlt : i < 4
    · have hwi : IntKind.i64.wrap ((i : Int) + 1) = ((i + 1 : Nat) : Int) := by rw [IntKind.wrap_i64]; omega
      have hni := hn i hlt
      go_wp2
      obtain ⟨wo, rfl⟩ : ∃ wo : World, wo = wr := ⟨_, rfl⟩
      go_loopw [4] (fun kv wr => ∃ k : Nat, kv = .int .i64 k ∧ k ≤ (m.get i).n ∧ LBox wr (w.heap.size + 1) m ∧ Below lo w wr ∧ From hi w wr ∧ WrM wr lo hi m) (fun kv _ => (m.get i).n - (intOf kv).toNat)
      case atStart => exact ⟨0, rfl, Nat.zero_le _, hLB, b1, f1, hW⟩
      case round =>
        clear hLB b1 f1 hW
        obtain ⟨k, rfl, hk, hLB, b1, f1, hW⟩ := hrel
        have q0 := hLB.at_ hlt
        by_cases hkl : k < (m.get i).n
        · obtain ⟨b, off, hA, hb1, hb2, hWr⟩ := hW i hlt (by omega)
          obtain ⟨⟨u, q1⟩, q2⟩ := hWr k hkl
          have hwk : IntKind.i64.wrap ((k : Int) + 1) = ((k + 1 : Nat) : Int) := by rw [IntKind.wrap_i64]; omega
          rw [hA] at q0
          generalize hd : (m.get i).n = n at *
          generalize hc : (m.get i).c = c at *
          go_wp2
          go_roundw
          case rel => exact ⟨k + 1, by first | rfl | (congr 1; omega) | go_num, by omega, (Below.heap_setCell _ _ _ _ (by simp; omega)).trans hLB, b1.setCell hb1 _, f1.setCell hb2 _, hW.set_ _ _⟩
          case measure => first | (simp [intOf]; done) | (simp [intOf]; omega)
        · generalize hA : (m.get i).A = A at *
          generalize hd : (m.get i).n = n at *
          generalize hc : (m.get i).c = c at *
          go_wp2
          go_roundw
          case rel => exact ⟨i + 1, by first | rfl | (congr 1; omega) | go_num, by omega, hLB, b1, f1, hW⟩
          case measure => first | (simp [intOf]; done) | (simp [intOf]; omega)
    · go_wp2
      go_end0
      exact ⟨rfl, b1, f1⟩
end Ma
end Go.Proofs.YtlbkepiflhchdaaDoor

namespace Go.Proofs.YtlbkepiflhchdaaDoor
open Go.RowKit
namespace Ma
open Dp Dy
theorem twin_dn {a u : Mv} (h : ∀ x, x < 4 → TwinV (a.get x) (u.get x)) : dnM u = dnM a := by
  funext j
  obtain ⟨g1, _, g3, g4, _⟩ := twin_all h j
  unfold dnM
  rw [g1, g3, g4]
theorem twin_meet {a b u v : Mv} (h : ∀ x, x < 4 → TwinV (a.get x) (u.get x)) (h' : ∀ x, x < 4 → TwinV (b.get x) (v.get x)) : meetM u v = meetM a b := by
  unfold meetM
  rw [twin_dn h, twin_dn h']
  by_cases hm : a.may ∧ b.may
  · rw [if_pos hm, if_pos (show u.may ∧ v.may from ⟨(twin_may h).2 hm.1, (twin_may h').2 hm.2⟩)]
  · rw [if_neg hm, if_neg (show ¬ (u.may ∧ v.may) from fun k => hm ⟨(twin_may h).1 k.1, (twin_may h').1 k.2⟩)]
theorem twin_done {a b u v : Mv} (h : ∀ x, x < 4 → TwinV (a.get x) (u.get x)) (h' : ∀ x, x < 4 → TwinV (b.get x) (v.get x)) : doneM u v = doneM a b := by
  have e : addM u ⟨ZM.S, ZM.W, v.C, v.A⟩ = addM a ⟨ZM.S, ZM.W, b.C, b.A⟩ :=
    twin_add h (four ⟨rfl, rfl, rfl, rfl, Nat.le_refl _⟩ ⟨rfl, rfl, rfl, rfl, Nat.le_refl _⟩ (h' 2 (by decide)) (h' 3 (by decide)))
  unfold doneM
  rw [e]
  by_cases hm : a.may ∧ b.may
  · rw [if_pos hm, if_pos (show u.may ∧ v.may from ⟨(twin_may h).2 hm.1, (twin_may h').2 hm.2⟩)]
  · rw [if_neg hm, if_neg (show ¬ (u.may ∧ v.may) from fun k => hm ⟨(twin_may h).1 k.1, (twin_may h').1 k.2⟩)]
theorem meetM_may {w : World} {lo hi lo' hi' : Nat} {a b : Mv} (_hA : MRows w lo hi a) (hB : MRows w lo' hi' b) {mR lR : Nat → Dn} {code : Int} (h : meetM a b = ((mR, lR), code)) : MayR mR ∧ MayR lR := by
  unfold meetM at h
  split at h
  · rename_i hm
    split at h
    · injection h with h1 h2
      injection h1 with h1 h3
      subst h1 h3
      have k : ∀ A B : Dn, (midD A B).1.1.May ∧ (midD A B).1.2.May := fun A B => mid_may (A := A) (B := B) (q := (midD A B).2) rfl
      exact ⟨four (dnM_may hB hm.2 0 (by decide)) (dnM_may hB hm.2 1 (by decide)) (k _ _).1 (k _ _).1, four zero_may zero_may (k _ _).2 (k _ _).2⟩
    · injection h with h1 h2
      injection h1 with h1 h3
      subst h1 h3
      exact ⟨zR_may, zR_may⟩
  · injection h with h1 h2
    injection h1 with h1 h3
    subst h1 h3
    exact ⟨zR_may, zR_may⟩
theorem doneM_may {a b : Mv} {R : Nat → Dn} {code : Int} (h : doneM a b = (R, code)) : MayR R := by
  unfold doneM at h
  split at h
  · have := addM_may a ⟨ZM.S, ZM.W, b.C, b.A⟩
    rw [h] at this
    exact this
  · injection h with h1 h2
    subst h1
    exact zR_may

end Ma
end Go.Proofs.YtlbkepiflhchdaaDoor
