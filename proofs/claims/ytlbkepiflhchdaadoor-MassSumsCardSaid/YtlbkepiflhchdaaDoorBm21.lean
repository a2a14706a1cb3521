/- mean.Done: walks (printed by a program of mine). -/
/- Array values of two pointers. -/
import Derived.Test.YtlbkepiflhchdaaDoorBm20
import Derived.Test.YtlbkepiflhchdaaDoorBm19
namespace Go.Proofs.YtlbkepiflhchdaaDoor
open Go.RowKit
namespace Ma
open Dp Dy
open Classical in
/-- What is done: what lacks is added to C and A. -/
noncomputable def doneM (m l : Mv) : (Nat → Dn) × Int := if m.may ∧ l.may then addM m ⟨ZM.S, ZM.W, l.C, l.A⟩ else (zR, 8)
set_option maxHeartbeats 12800000 in
set_option maxRecDepth 100000 in
theorem Done_num (w : World) (a b : Mv) (hA : MRows w 0 w.heap.size a) (hB : MRows w 0 w.heap.size b) (hT : Tab w) (R : Nat → Dn) (code : Int) (hR : doneM a b = (R, code)) :
    Calls Tryd.prog 45 #[.agg #[.bool a.S.s, .slice a.S.A a.S.n a.S.c, .int .i64 a.S.e, .bool a.W.s, .slice a.W.A a.W.n a.W.c, .int .i64 a.W.e, .bool a.C.s, .slice a.C.A a.C.n a.C.c, .int .i64 a.C.e, .bool a.A.s, .slice a.A.A a.A.n a.A.c, .int .i64 a.A.e], .agg #[.bool b.S.s, .slice b.S.A b.S.n b.S.c, .int .i64 b.S.e, .bool b.W.s, .slice b.W.A b.W.n b.W.c, .int .i64 b.W.e, .bool b.C.s, .slice b.C.A b.C.n b.C.c, .int .i64 b.C.e, .bool b.A.s, .slice b.A.A b.A.n b.A.c, .int .i64 b.A.e]] w fun e w' => ∃ m' : Mv, e = .returned (.tuple #[.agg #[.bool m'.S.s, .slice m'.S.A m'.S.n m'.S.c, .int .i64 m'.S.e, .bool m'.W.s, .slice m'.W.A m'.W.n m'.W.c, .int .i64 m'.W.e, .bool m'.C.s, .slice m'.C.A m'.C.n m'.C.c, .int .i64 m'.C.e, .bool m'.A.s, .slice m'.A.A m'.A.n m'.A.c, .int .i64 m'.A.e], .int .i64 code]) ∧ Below w.heap.size w w' ∧ IsM R m' ∧ MRows w' w.heap.size w'.heap.size m' := by
  generalize hw1 : ((w.alloc (.cells #[.bool a.S.s, .slice a.S.A a.S.n a.S.c, .int .i64 a.S.e, .bool a.W.s, .slice a.W.A a.W.n a.W.c, .int .i64 a.W.e, .bool a.C.s, .slice a.C.A a.C.n a.C.c, .int .i64 a.C.e, .bool a.A.s, .slice a.A.A a.A.n a.A.c, .int .i64 a.A.e] 39)).alloc (.cells #[.bool b.S.s, .slice b.S.A b.S.n b.S.c, .int .i64 b.S.e, .bool b.W.s, .slice b.W.A b.W.n b.W.c, .int .i64 b.W.e, .bool b.C.s, .slice b.C.A b.C.n b.C.c, .int .i64 b.C.e, .bool b.A.s, .slice b.A.A b.A.n b.A.c, .int .i64 b.A.e] 39)).alloc (.cells #[.bool false, .slice none 0 0, .int .i64 0, .bool false, .slice none 0 0, .int .i64 0, .bool false, .slice none 0 0, .int .i64 0, .bool false, .slice none 0 0, .int .i64 0] 39) = w1
  obtain ⟨hMa, hMb, hZ, hBL, lo1, hi1⟩ := boxes3 w _ _ _ hw1
  replace hMa : MBox w1 w.heap.size a := hMa
  replace hMb : MBox w1 (w.heap.size + 1) b := hMb
  replace hZ : MBox w1 (w.heap.size + 1 + 1) ZM := hZ
  replace hBL : Below w.heap.size w w1 := hBL
  have Ra : MRows w1 0 w1.heap.size a := hA.on hBL
  have Rb : MRows w1 0 w1.heap.size b := hB.on hBL
  have tT := hT.below hBL hT.lt
  have g0 := hT.lt
  have HR := Lib.hid hR
  clear hR
  obtain ⟨ka, hka⟩ : ∃ k, chkM a = k := ⟨_, rfl⟩
  obtain ⟨kb, hkb⟩ : ∃ k, chkM b = k := ⟨_, rfl⟩
  have HKA := Lib.hid hka
  have HKB := Lib.hid hkb
  clear hka hkb
  go_enter Tryd.func45, Tryd.ntmps45
  obtain ⟨⟨q_1_0, q_1_1, q_1_2, q_1_3, q_1_4, q_1_5, q_1_6, q_1_7, q_1_8, q_1_9, q_1_10, q_1_11⟩, q_1f⟩ := MBox.cells hMa
  by_cases hm : a.may
  rotate_left
  · skip
    have k8 : (8 : Int) = ka := by rw [← HKA.out, chk_not hm]
    subst k8
    skip
    have hcode : (zR, (8 : Int)) = (R, code) := by
      rw [← HR.out]
      unfold doneM
      rw [if_neg fun k => hm k.1]
    injection hcode with h1 h2
    subst h1 h2
    clear hm
    go_wp2_with fail
    refine (MCheck_any w1 a Ra 8 HKA.out).mono ?_
    rintro e' w_2 ⟨rfl, hB⟩
    clear q_1_0 q_1_1 q_1_2 q_1_3 q_1_4 q_1_5 q_1_6 q_1_7 q_1_8 q_1_9 q_1_10 q_1_11 q_1f
    have lw_2 : w1.heap.size ≤ w_2.heap.size := hB.size
    replace hMa := box_on hMa hB (by omega)
    replace hMb := box_on hMb hB (by omega)
    replace hZ := box_on hZ hB (by omega)
    replace Ra := MRows.on Ra hB
    replace Rb := MRows.on Rb hB
    replace hBL := hBL.trans (hB.mono (by omega))
    replace tT := tT.below hB tT.lt
    try clear hw1
    clear hB
    obtain ⟨⟨q_3_0, q_3_1, q_3_2, q_3_3, q_3_4, q_3_5, q_3_6, q_3_7, q_3_8, q_3_9, q_3_10, q_3_11⟩, q_3f⟩ := MBox.cells hZ
    go_wp2
    obtain ⟨U, M, hc_, hMe, hX, hb_, _, _, _⟩ := zero_to hZ
    rw [hc_]
    have hY := hb_ _ _ hBL (by omega)
    clear q_3_0 q_3_1 q_3_2 q_3_3 q_3_4 q_3_5 q_3_6 q_3_7 q_3_8 q_3_9 q_3_10 q_3_11 q_3f
    clear hc_
    obtain ⟨⟨k0, k1, k2, k3, k4, k5, k6, k7, k8, k9, k10, k11⟩, kf⟩ := MBox.cells hX
    refine bodyPost_ret (v := .tuple #[.agg #[.bool M.S.s, .slice M.S.A M.S.n M.S.c, .int .i64 M.S.e, .bool M.W.s, .slice M.W.A M.W.n M.W.c, .int .i64 M.W.e, .bool M.C.s, .slice M.C.A M.C.n M.C.c, .int .i64 M.C.e, .bool M.A.s, .slice M.A.A M.A.n M.A.c, .int .i64 M.A.e], .int .i64 8]) (by simp [results, Tryd.results45, go_sem, k0, k1, k2, k3, k4, k5, k6, k7, k8, k9, k10, k11]) rfl ⟨M, rfl, hY, ?_, ?_⟩
    · rw [hMe]
      exact IsM.zero
    · rw [hMe]
      exact ZM_rows ..
  · skip
    have k0 : (0 : Int) = ka := by rw [← HKA.out, chk_may hm]
    subst k0
    have HMA := Lib.hid hm
    clear hm
    go_wp2_with fail
    refine (MCheck_any w1 a Ra 0 HKA.out).mono ?_
    rintro e' w_4 ⟨rfl, hB⟩
    clear q_1_0 q_1_1 q_1_2 q_1_3 q_1_4 q_1_5 q_1_6 q_1_7 q_1_8 q_1_9 q_1_10 q_1_11 q_1f
    have lw_4 : w1.heap.size ≤ w_4.heap.size := hB.size
    replace hMa := box_on hMa hB (by omega)
    replace hMb := box_on hMb hB (by omega)
    replace hZ := box_on hZ hB (by omega)
    replace Ra := MRows.on Ra hB
    replace Rb := MRows.on Rb hB
    replace hBL := hBL.trans (hB.mono (by omega))
    replace tT := tT.below hB tT.lt
    try clear hw1
    clear hB
    obtain ⟨⟨q_5_0, q_5_1, q_5_2, q_5_3, q_5_4, q_5_5, q_5_6, q_5_7, q_5_8, q_5_9, q_5_10, q_5_11⟩, q_5f⟩ := MBox.cells hMb
    by_cases hm : b.may
    rotate_left
    · skip
      have k8 : (8 : Int) = kb := by rw [← HKB.out, chk_not hm]
      subst k8
      have hcode : (zR, (8 : Int)) = (R, code) := by
        rw [← HR.out]
        unfold doneM
        rw [if_neg fun k => hm k.2]
      injection hcode with h1 h2
      subst h1 h2
      clear hm
      go_wp2_with fail
      refine (MCheck_any w_4 b Rb 8 HKB.out).mono ?_
      rintro e' w_6 ⟨rfl, hB⟩
      clear q_5_0 q_5_1 q_5_2 q_5_3 q_5_4 q_5_5 q_5_6 q_5_7 q_5_8 q_5_9 q_5_10 q_5_11 q_5f
      have lw_6 : w_4.heap.size ≤ w_6.heap.size := hB.size
      replace hMa := box_on hMa hB (by omega)
      replace hMb := box_on hMb hB (by omega)
      replace hZ := box_on hZ hB (by omega)
      replace Ra := MRows.on Ra hB
      replace Rb := MRows.on Rb hB
      replace hBL := hBL.trans (hB.mono (by omega))
      replace tT := tT.below hB tT.lt
      clear hB
      obtain ⟨⟨q_7_0, q_7_1, q_7_2, q_7_3, q_7_4, q_7_5, q_7_6, q_7_7, q_7_8, q_7_9, q_7_10, q_7_11⟩, q_7f⟩ := MBox.cells hZ
      go_wp2
      obtain ⟨U, M, hc_, hMe, hX, hb_, _, _, _⟩ := zero_to hZ
      rw [hc_]
      have hY := hb_ _ _ hBL (by omega)
      clear q_7_0 q_7_1 q_7_2 q_7_3 q_7_4 q_7_5 q_7_6 q_7_7 q_7_8 q_7_9 q_7_10 q_7_11 q_7f
      clear hc_
      obtain ⟨⟨k0, k1, k2, k3, k4, k5, k6, k7, k8, k9, k10, k11⟩, kf⟩ := MBox.cells hX
      refine bodyPost_ret (v := .tuple #[.agg #[.bool M.S.s, .slice M.S.A M.S.n M.S.c, .int .i64 M.S.e, .bool M.W.s, .slice M.W.A M.W.n M.W.c, .int .i64 M.W.e, .bool M.C.s, .slice M.C.A M.C.n M.C.c, .int .i64 M.C.e, .bool M.A.s, .slice M.A.A M.A.n M.A.c, .int .i64 M.A.e], .int .i64 8]) (by simp [results, Tryd.results45, go_sem, k0, k1, k2, k3, k4, k5, k6, k7, k8, k9, k10, k11]) rfl ⟨M, rfl, hY, ?_, ?_⟩
      · rw [hMe]
        exact IsM.zero
      · rw [hMe]
        exact ZM_rows ..
    · skip
      have k0 : (0 : Int) = kb := by rw [← HKB.out, chk_may hm]
      subst k0
      have HMB := Lib.hid hm
      clear hm
      go_wp2_with fail
      refine (MCheck_any w_4 b Rb 0 HKB.out).mono ?_
      rintro e' w_8 ⟨rfl, hB⟩
      clear q_5_0 q_5_1 q_5_2 q_5_3 q_5_4 q_5_5 q_5_6 q_5_7 q_5_8 q_5_9 q_5_10 q_5_11 q_5f
      have lw_8 : w_4.heap.size ≤ w_8.heap.size := hB.size
      replace hMa := box_on hMa hB (by omega)
      replace hMb := box_on hMb hB (by omega)
      replace hZ := box_on hZ hB (by omega)
      replace Ra := MRows.on Ra hB
      replace Rb := MRows.on Rb hB
      replace hBL := hBL.trans (hB.mono (by omega))
      replace tT := tT.below hB tT.lt
      clear hB
      have hadd : addM a ⟨ZM.S, ZM.W, b.C, b.A⟩ = (R, code) := by
        rw [← HR.out]
        unfold doneM
        rw [if_pos ⟨HMA.out, HMB.out⟩]
      have HADD := Lib.hid hadd
      clear hadd
      obtain ⟨⟨q_9_0, q_9_1, q_9_2, q_9_3, q_9_4, q_9_5, q_9_6, q_9_7, q_9_8, q_9_9, q_9_10, q_9_11⟩, q_9f⟩ := MBox.cells hMa
      obtain ⟨⟨q_10_0, q_10_1, q_10_2, q_10_3, q_10_4, q_10_5, q_10_6, q_10_7, q_10_8, q_10_9, q_10_10, q_10_11⟩, q_10f⟩ := MBox.cells hMb
      go_wp2_with fail
      refine (MAdd_num w_8 a ⟨ZM.S, ZM.W, b.C, b.A⟩ Ra ⟨Ints.nil_ .., Ints.nil_ .., Rb.C, Rb.A⟩ tT R code HADD.out).mono ?_
      rintro e' w_11 ⟨x, rfl, hB, hx, rx⟩
      clear q_9_0 q_9_1 q_9_2 q_9_3 q_9_4 q_9_5 q_9_6 q_9_7 q_9_8 q_9_9 q_9_10 q_9_11 q_9f q_10_0 q_10_1 q_10_2 q_10_3 q_10_4 q_10_5 q_10_6 q_10_7 q_10_8 q_10_9 q_10_10 q_10_11 q_10f
      have lw_11 : w_8.heap.size ≤ w_11.heap.size := hB.size
      replace hMa := box_on hMa hB (by omega)
      replace hMb := box_on hMb hB (by omega)
      replace hZ := box_on hZ hB (by omega)
      replace Ra := MRows.on Ra hB
      replace Rb := MRows.on Rb hB
      replace hBL := hBL.trans (hB.mono (by omega))
      replace tT := tT.below hB tT.lt
      replace hx := Lib.hid hx
      clear hB
      obtain ⟨⟨q_12_0, q_12_1, q_12_2, q_12_3, q_12_4, q_12_5, q_12_6, q_12_7, q_12_8, q_12_9, q_12_10, q_12_11⟩, q_12f⟩ := MBox.cells hZ
      go_wp2
      clear q_12_0 q_12_1 q_12_2 q_12_3 q_12_4 q_12_5 q_12_6 q_12_7 q_12_8 q_12_9 q_12_10 q_12_11 q_12f
      obtain ⟨U, hc_, hX, hb3, hf3, l3, l4⟩ := all_to hZ x
      rw [hc_]
      clear hc_
      have hY := hb3 _ _ hBL (by omega)
      replace rx := rows_rng rx (w' := U) (fun b h1 h2 => hf3 b (by omega))
      obtain ⟨⟨k0, k1, k2, k3, k4, k5, k6, k7, k8, k9, k10, k11⟩, kf⟩ := MBox.cells hX
      exact bodyPost_ret (v := .tuple #[.agg #[.bool x.S.s, .slice x.S.A x.S.n x.S.c, .int .i64 x.S.e, .bool x.W.s, .slice x.W.A x.W.n x.W.c, .int .i64 x.W.e, .bool x.C.s, .slice x.C.A x.C.n x.C.c, .int .i64 x.C.e, .bool x.A.s, .slice x.A.A x.A.n x.A.c, .int .i64 x.A.e], .int .i64 code]) (by simp [results, Tryd.results45, go_sem, k0, k1, k2, k3, k4, k5, k6, k7, k8, k9, k10, k11]) rfl ⟨x, rfl, hY, hx.out, rx.more (by omega) (by omega)⟩
end Ma
end Go.Proofs.YtlbkepiflhchdaaDoor

namespace Go.Proofs.YtlbkepiflhchdaaDoor
open Go.RowKit
namespace Ma
theorem infoPD : (Tryd.prog.info? 101).map (fun i => (i.zero, i.size, i.bytes)) = some (some (.pointer none), 1, 8) := by kernel_rfl
theorem idx0 (x y : Option Addr) (W : World) : (Instr.index 102 (.agg #[.pointer x, .pointer y]) (.int .i64 0)).run Tryd.prog W = .ok (.pointer x) W := by
  simp [Instr.index, run_underlying Tryd.underlying102, asIntOf, go_sem, part, sizeOf, isAgg]
theorem idx1 (x y : Option Addr) (W : World) : (Instr.index 102 (.agg #[.pointer x, .pointer y]) (.int .i64 1)).run Tryd.prog W = .ok (.pointer y) W := by
  have hz : Tryd.t101.size = 1 := rfl
  simp [Instr.index, run_underlying Tryd.underlying102, asIntOf, go_sem, part, sizeOf, isAgg, hz]
end Ma
end Go.Proofs.YtlbkepiflhchdaaDoor
