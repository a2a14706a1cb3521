/- headcountref06.Great: a walk (printed by a program of mine). -/
/- The law MeanHalves: a walk (printed by a program of mine). -/
/- The statement MeanHalves is proved, tied to the program's text: for every input the law answers true and leaves it as it was. No conditions. -/
import Derived.Test.YtlbkepiflhchdaaDoorBm15
import Derived.Test.YtlbkepiflhchdaaDoorBm32
import Derived.Test.YtlbkepiflhchdaaDoorBm27
import Derived.Test.YtlbkepiflhchdaaDoorCards
import Derived.Test.YtlbkepiflhchdaaDoorTie
import Derived.SevenTiedAt
namespace Go.Proofs.YtlbkepiflhchdaaDoor
open Go.RowKit
namespace Ma
open Dp Dy
def Dv.great (d : Dv) : Bool := Pa.Dy.great ⟨d.s, d.xs, d.e⟩
def greatM (m : Mv) : Bool := m.S.great || m.W.great || m.C.great || m.A.great
theorem great_not {m : Mv} (h : greatM m = false) : ∀ x, x < 4 → (m.get x).xs.length ≤ 42 ∧ (m.get x).e ≤ 1100 := by
  have hd : ∀ d : Dv, d.great = false → d.xs.length ≤ 42 ∧ d.e ≤ 1100 := fun d h => by
    simp [Dv.great, Pa.Dy.great] at h
    omega
  unfold greatM at h
  simp only [Bool.or_eq_false_iff] at h
  exact four (hd _ h.1.1.1) (hd _ h.1.1.2) (hd _ h.1.2) (hd _ h.2)
set_option maxHeartbeats 6400000 in
set_option maxRecDepth 100000 in
theorem RGreat_any (w : World) (m : Mv) {lo hi : Nat} (hRm : MRows w lo hi m) (k : Bool) (hk : greatM m = k) :
    Calls Tryd.prog 28 #[.agg #[.bool m.S.s, .slice m.S.A m.S.n m.S.c, .int .i64 m.S.e, .bool m.W.s, .slice m.W.A m.W.n m.W.c, .int .i64 m.W.e, .bool m.C.s, .slice m.C.A m.C.n m.C.c, .int .i64 m.C.e, .bool m.A.s, .slice m.A.A m.A.n m.A.c, .int .i64 m.A.e]] w fun e w' => e = .returned (.bool k) ∧ Below w.heap.size w w' := by
  have L0 := Lib.hid (hRm.get 0).len
  have L1 := Lib.hid (hRm.get 1).len
  have L2 := Lib.hid (hRm.get 2).len
  have L3 := Lib.hid (hRm.get 3).len
  unfold greatM at hk
  obtain ⟨g0, h0⟩ : ∃ g, m.S.great = g := ⟨_, rfl⟩
  obtain ⟨g1, h1⟩ : ∃ g, m.W.great = g := ⟨_, rfl⟩
  obtain ⟨g2, h2⟩ : ∃ g, m.C.great = g := ⟨_, rfl⟩
  obtain ⟨g3, h3⟩ : ∃ g, m.A.great = g := ⟨_, rfl⟩
  rw [h0, h1, h2, h3] at hk
  have HK := Lib.hid hk
  have H0 := Lib.hid h0
  have H1 := Lib.hid h1
  have H2 := Lib.hid h2
  have H3 := Lib.hid h3
  clear hk h0 h1 h2 h3
  generalize hw : w.alloc (.cells #[.bool m.S.s, .slice m.S.A m.S.n m.S.c, .int .i64 m.S.e, .bool m.W.s, .slice m.W.A m.W.n m.W.c, .int .i64 m.W.e, .bool m.C.s, .slice m.C.A m.C.n m.C.c, .int .i64 m.C.e, .bool m.A.s, .slice m.A.A m.A.n m.A.c, .int .i64 m.A.e] 39) = w1
  have hM1 : MBox w1 w.heap.size m := by rw [← hw]; exact heap_alloc_last _ _
  have hb : Below w.heap.size w w1 := by rw [← hw]; exact (Below.refl _ w).alloc (Nat.le_refl _) _
  have hlo : w.heap.size + 1 ≤ w1.heap.size := by rw [← hw]; simp
  obtain ⟨⟨k0, k1, k2, k3, k4, k5, k6, k7, k8, k9, k10, k11⟩, kf⟩ := MBox.cells hM1
  go_enter Tryd.func28, Tryd.ntmps28
  go_wp2_with fail
  try clear hw
  refine (Pa.rGreat_any w1 m.S.s m.S.A m.S.n m.S.c m.S.xs m.S.e L0.out g0 H0.out).mono ?_
  rintro e w2 ⟨rfl, hB⟩
  clear k0 k1 k2 k3 k4 k5 k6 k7 k8 k9 k10 k11 kf
  have l2 := hB.size
  replace hM1 : MBox w2 w.heap.size m := box_on hM1 hB (by omega)
  replace hb := hb.trans (hB.mono (by omega))
  clear hB
  cases g0
  rotate_left
  · go_wp2
    go_ret
    exact ⟨by rw [← HK.out]; simp, hb⟩
  · skip
    obtain ⟨⟨k0, k1, k2, k3, k4, k5, k6, k7, k8, k9, k10, k11⟩, kf⟩ := MBox.cells hM1
    go_wp2_with fail
    refine (Pa.rGreat_any w2 m.W.s m.W.A m.W.n m.W.c m.W.xs m.W.e L1.out g1 H1.out).mono ?_
    rintro e w3 ⟨rfl, hB⟩
    clear k0 k1 k2 k3 k4 k5 k6 k7 k8 k9 k10 k11 kf
    have l3 := hB.size
    replace hM1 : MBox w3 w.heap.size m := box_on hM1 hB (by omega)
    replace hb := hb.trans (hB.mono (by omega))
    clear hB
    cases g1
    rotate_left
    · go_wp2
      go_ret
      exact ⟨by rw [← HK.out]; simp, hb⟩
    · skip
      obtain ⟨⟨k0, k1, k2, k3, k4, k5, k6, k7, k8, k9, k10, k11⟩, kf⟩ := MBox.cells hM1
      go_wp2_with fail
      refine (Pa.rGreat_any w3 m.C.s m.C.A m.C.n m.C.c m.C.xs m.C.e L2.out g2 H2.out).mono ?_
      rintro e w4 ⟨rfl, hB⟩
      clear k0 k1 k2 k3 k4 k5 k6 k7 k8 k9 k10 k11 kf
      have l4 := hB.size
      replace hM1 : MBox w4 w.heap.size m := box_on hM1 hB (by omega)
      replace hb := hb.trans (hB.mono (by omega))
      clear hB
      cases g2
      rotate_left
      · go_wp2
        go_ret
        exact ⟨by rw [← HK.out]; simp, hb⟩
      · skip
        obtain ⟨⟨k0, k1, k2, k3, k4, k5, k6, k7, k8, k9, k10, k11⟩, kf⟩ := MBox.cells hM1
        go_wp2_with fail
        refine (Pa.rGreat_any w4 m.A.s m.A.A m.A.n m.A.c m.A.xs m.A.e L3.out g3 H3.out).mono ?_
        rintro e w5 ⟨rfl, hB⟩
        clear k0 k1 k2 k3 k4 k5 k6 k7 k8 k9 k10 k11 kf
        have l5 := hB.size
        replace hM1 : MBox w5 w.heap.size m := box_on hM1 hB (by omega)
        replace hb := hb.trans (hB.mono (by omega))
        clear hB
        go_wp2
        go_ret
        exact ⟨by rw [← HK.out]; simp, hb⟩
end Ma
end Go.Proofs.YtlbkepiflhchdaaDoor

namespace Go.Proofs.YtlbkepiflhchdaaDoor
open Go.RowKit
namespace Ma
open Dp Dy
theorem meet_codes3 {a b : Mv} {mR lR : Nat → Dn} {code : Int} (h : meetM a b = ((mR, lR), code)) : code = 0 ∨ (code = 8 ∧ mR = zR ∧ lR = zR) ∨ (code = 10 ∧ mR = zR ∧ lR = zR) := by
  unfold meetM at h
  split at h
  · split at h
    · injection h with _ h
      exact .inl h.symm
    · injection h with h h'
      injection h with h1 h2
      exact .inr (.inr ⟨h'.symm, h1.symm, h2.symm⟩)
  · injection h with h h'
    injection h with h1 h2
    exact .inr (.inl ⟨h'.symm, h1.symm, h2.symm⟩)
theorem sum_codes4 {ms : List Mv} {R : Nat → Dn} {code : Int} (h : sumM ms = (R, code)) : code = 0 ∨ code = 4 ∨ code = 8 ∨ code = 10 := by
  unfold sumM at h
  split at h
  · injection h with _ h
    exact .inr (.inl h.symm)
  · split at h
    · injection h with _ h
      exact .inr (.inr (.inl h.symm))
    · split at h
      · injection h with _ h
        exact .inl h.symm
      · injection h with _ h
        exact .inr (.inr (.inr h.symm))
set_option maxHeartbeats 51200000 in
set_option maxRecDepth 100000 in
theorem halves16_walk (w : World) (a : Mv) (hA : MRows w 0 w.heap.size a) (b : Mv) (hBb : MRows w 0 w.heap.size b) (hT : Tab w) :
    Calls Tryd.prog 16 #[.agg #[.bool a.S.s, .slice a.S.A a.S.n a.S.c, .int .i64 a.S.e, .bool a.W.s, .slice a.W.A a.W.n a.W.c, .int .i64 a.W.e, .bool a.C.s, .slice a.C.A a.C.n a.C.c, .int .i64 a.C.e, .bool a.A.s, .slice a.A.A a.A.n a.A.c, .int .i64 a.A.e], .agg #[.bool b.S.s, .slice b.S.A b.S.n b.S.c, .int .i64 b.S.e, .bool b.W.s, .slice b.W.A b.W.n b.W.c, .int .i64 b.W.e, .bool b.C.s, .slice b.C.A b.C.n b.C.c, .int .i64 b.C.e, .bool b.A.s, .slice b.A.A b.A.n b.A.c, .int .i64 b.A.e]] w (Yes w) := by
  generalize hw1 : (w.alloc (.cells #[.bool a.S.s, .slice a.S.A a.S.n a.S.c, .int .i64 a.S.e, .bool a.W.s, .slice a.W.A a.W.n a.W.c, .int .i64 a.W.e, .bool a.C.s, .slice a.C.A a.C.n a.C.c, .int .i64 a.C.e, .bool a.A.s, .slice a.A.A a.A.n a.A.c, .int .i64 a.A.e] 39)).alloc (.cells #[.bool b.S.s, .slice b.S.A b.S.n b.S.c, .int .i64 b.S.e, .bool b.W.s, .slice b.W.A b.W.n b.W.c, .int .i64 b.W.e, .bool b.C.s, .slice b.C.A b.C.n b.C.c, .int .i64 b.C.e, .bool b.A.s, .slice b.A.A b.A.n b.A.c, .int .i64 b.A.e] 39) = w1
  obtain ⟨hMa, hMb, hBL, lo1, hi1⟩ := boxes2 w _ _ hw1
  replace hMa : MBox w1 w.heap.size a := hMa
  replace hMb : MBox w1 (w.heap.size + 1) b := hMb
  have a_ : Amid w w1 := Amid.on ⟨Below.refl _ _, hT⟩ hBL
  have Ra : MRows w1 0 w1.heap.size a := hA.on hBL
  have Rb : MRows w1 0 w1.heap.size b := hBb.on hBL
  have g0 := hT.lt
  obtain ⟨ga, hga⟩ : ∃ g, greatM a = g := ⟨_, rfl⟩
  obtain ⟨gb, hgb⟩ : ∃ g, greatM b = g := ⟨_, rfl⟩
  obtain ⟨mR, lR, cm, hmt⟩ : ∃ m l c, meetM a b = ((m, l), c) := ⟨_, _, _, rfl⟩
  have HGA := Lib.hid hga
  have HGB := Lib.hid hgb
  have HM := Lib.hid hmt
  have hcs := Lib.hid (meet_codes3 hmt)
  clear hga hgb hmt hBL
  go_enter Tryd.func16, Tryd.ntmps16
  go_wp2_with fail
  refine (alive16_any w1 a_.tab).mono ?_
  rintro e' w_1 ⟨rfl, hB⟩
  have lw_1 : w1.heap.size ≤ w_1.heap.size := hB.size
  replace hMa := box_on hMa hB (by omega)
  replace hMb := box_on hMb hB (by omega)
  replace Ra := MRows.on Ra hB
  replace Rb := MRows.on Rb hB
  replace a_ := Amid.on a_ hB
  clear hB
  try clear hw1
  obtain ⟨⟨q_2_0, q_2_1, q_2_2, q_2_3, q_2_4, q_2_5, q_2_6, q_2_7, q_2_8, q_2_9, q_2_10, q_2_11⟩, q_2f⟩ := MBox.cells hMa
  go_wp2_with fail
  refine (RGreat_any w_1 a Ra ga HGA.out).mono ?_
  rintro e' w_3 ⟨rfl, hB⟩
  clear q_2_0 q_2_1 q_2_2 q_2_3 q_2_4 q_2_5 q_2_6 q_2_7 q_2_8 q_2_9 q_2_10 q_2_11 q_2f
  have lw_3 : w_1.heap.size ≤ w_3.heap.size := hB.size
  replace hMa := box_on hMa hB (by omega)
  replace hMb := box_on hMb hB (by omega)
  replace Ra := MRows.on Ra hB
  replace Rb := MRows.on Rb hB
  replace a_ := Amid.on a_ hB
  clear hB
  cases ga
  rotate_left
  · go_wp2
    go_ret
    exact ⟨rfl, a_.below⟩
  · skip
    obtain ⟨⟨q_4_0, q_4_1, q_4_2, q_4_3, q_4_4, q_4_5, q_4_6, q_4_7, q_4_8, q_4_9, q_4_10, q_4_11⟩, q_4f⟩ := MBox.cells hMb
    go_wp2_with fail
    refine (RGreat_any w_3 b Rb gb HGB.out).mono ?_
    rintro e' w_5 ⟨rfl, hB⟩
    clear q_4_0 q_4_1 q_4_2 q_4_3 q_4_4 q_4_5 q_4_6 q_4_7 q_4_8 q_4_9 q_4_10 q_4_11 q_4f
    have lw_5 : w_3.heap.size ≤ w_5.heap.size := hB.size
    replace hMa := box_on hMa hB (by omega)
    replace hMb := box_on hMb hB (by omega)
    replace Ra := MRows.on Ra hB
    replace Rb := MRows.on Rb hB
    replace a_ := Amid.on a_ hB
    clear hB
    cases gb
    rotate_left
    · go_wp2
      go_ret
      exact ⟨rfl, a_.below⟩
    · skip
      obtain ⟨⟨q_6_0, q_6_1, q_6_2, q_6_3, q_6_4, q_6_5, q_6_6, q_6_7, q_6_8, q_6_9, q_6_10, q_6_11⟩, q_6f⟩ := MBox.cells hMa
      obtain ⟨⟨q_7_0, q_7_1, q_7_2, q_7_3, q_7_4, q_7_5, q_7_6, q_7_7, q_7_8, q_7_9, q_7_10, q_7_11⟩, q_7f⟩ := MBox.cells hMb
      go_wp2_with fail
      refine (Meet_num w_5 a b Ra Rb a_.tab mR lR cm HM.out).mono ?_
      rintro e' w_8 ⟨m, d, rfl, hB, hm, hd, B1, lb1, lb2, rm, rd⟩
      clear q_6_0 q_6_1 q_6_2 q_6_3 q_6_4 q_6_5 q_6_6 q_6_7 q_6_8 q_6_9 q_6_10 q_6_11 q_6f q_7_0 q_7_1 q_7_2 q_7_3 q_7_4 q_7_5 q_7_6 q_7_7 q_7_8 q_7_9 q_7_10 q_7_11 q_7f
      have lw_8 : w_5.heap.size ≤ w_8.heap.size := hB.size
      replace hMa := box_on hMa hB (by omega)
      replace hMb := box_on hMb hB (by omega)
      replace Ra := MRows.on Ra hB
      replace Rb := MRows.on Rb hB
      replace a_ := Amid.on a_ hB
      have Rm := MRows.more rm (Nat.zero_le _) lb2
      have Rd := MRows.more rd (Nat.zero_le _) (Nat.le_refl _)
      clear rm rd lb1 lb2
      replace hm := Lib.hid hm
      replace hd := Lib.hid hd
      clear hB
      rcases hcs.out with rfl | ⟨rfl, hmz, hlz⟩ | ⟨rfl, hmz, hlz⟩
      rotate_left
      · skip
        subst hmz hlz
        generalize hww_9 : (w_8.alloc (.cells #[.bool m.S.s, .slice m.S.A m.S.n m.S.c, .int .i64 m.S.e, .bool m.W.s, .slice m.W.A m.W.n m.W.c, .int .i64 m.W.e, .bool m.C.s, .slice m.C.A m.C.n m.C.c, .int .i64 m.C.e, .bool m.A.s, .slice m.A.A m.A.n m.A.c, .int .i64 m.A.e] 39)).alloc (.cells #[.bool d.S.s, .slice d.S.A d.S.n d.S.c, .int .i64 d.S.e, .bool d.W.s, .slice d.W.A d.W.n d.W.c, .int .i64 d.W.e, .bool d.C.s, .slice d.C.A d.C.n d.C.c, .int .i64 d.C.e, .bool d.A.s, .slice d.A.A d.A.n d.A.c, .int .i64 d.A.e] 39) = w_9 at *
        obtain ⟨hMm, hMd, hB, low_9, hiw_9⟩ := boxes2 w_8 _ _ hww_9
        replace hB : Below w_8.heap.size w_8 w_9 := hB
        have lw_9 : w_8.heap.size ≤ w_9.heap.size := hB.size
        replace hMa := box_on hMa hB (by omega)
        replace hMb := box_on hMb hB (by omega)
        replace Ra := MRows.on Ra hB
        replace Rb := MRows.on Rb hB
        replace Rm := MRows.on Rm hB
        replace Rd := MRows.on Rd hB
        replace a_ := Amid.on a_ hB
        replace hMm : MBox w_9 w_8.heap.size m := hMm
        replace hMd : MBox w_9 (w_8.heap.size + 1) d := hMd
        clear hB
        obtain ⟨⟨q_10_0, q_10_1, q_10_2, q_10_3, q_10_4, q_10_5, q_10_6, q_10_7, q_10_8, q_10_9, q_10_10, q_10_11⟩, q_10f⟩ := MBox.cells hMm
        go_wp2_with fail
        refine (MSame_any w_9 m ZM Rm (ZM_rows ..) true (hm.out.same IsM.zero)).mono ?_
        rintro e' w_11 ⟨rfl, hB⟩
        clear q_10_0 q_10_1 q_10_2 q_10_3 q_10_4 q_10_5 q_10_6 q_10_7 q_10_8 q_10_9 q_10_10 q_10_11 q_10f
        have lw_11 : w_9.heap.size ≤ w_11.heap.size := hB.size
        replace hMa := box_on hMa hB (by omega)
        replace hMb := box_on hMb hB (by omega)
        replace hMm := box_on hMm hB (by omega)
        replace hMd := box_on hMd hB (by omega)
        replace Ra := MRows.on Ra hB
        replace Rb := MRows.on Rb hB
        replace Rm := MRows.on Rm hB
        replace Rd := MRows.on Rd hB
        replace a_ := Amid.on a_ hB
        try clear hww_9
        clear hB
        obtain ⟨⟨q_12_0, q_12_1, q_12_2, q_12_3, q_12_4, q_12_5, q_12_6, q_12_7, q_12_8, q_12_9, q_12_10, q_12_11⟩, q_12f⟩ := MBox.cells hMd
        go_wp2_with fail
        refine (MSame_any w_11 d ZM Rd (ZM_rows ..) true (hd.out.same IsM.zero)).mono ?_
        rintro e' w_13 ⟨rfl, hB⟩
        clear q_12_0 q_12_1 q_12_2 q_12_3 q_12_4 q_12_5 q_12_6 q_12_7 q_12_8 q_12_9 q_12_10 q_12_11 q_12f
        have lw_13 : w_11.heap.size ≤ w_13.heap.size := hB.size
        replace hMa := box_on hMa hB (by omega)
        replace hMb := box_on hMb hB (by omega)
        replace hMm := box_on hMm hB (by omega)
        replace hMd := box_on hMd hB (by omega)
        replace Ra := MRows.on Ra hB
        replace Rb := MRows.on Rb hB
        replace Rm := MRows.on Rm hB
        replace Rd := MRows.on Rd hB
        replace a_ := Amid.on a_ hB
        clear hB
        go_wp2
        go_ret
        exact ⟨rfl, a_.below⟩
      · skip
        subst hmz hlz
        generalize hww_14 : (w_8.alloc (.cells #[.bool m.S.s, .slice m.S.A m.S.n m.S.c, .int .i64 m.S.e, .bool m.W.s, .slice m.W.A m.W.n m.W.c, .int .i64 m.W.e, .bool m.C.s, .slice m.C.A m.C.n m.C.c, .int .i64 m.C.e, .bool m.A.s, .slice m.A.A m.A.n m.A.c, .int .i64 m.A.e] 39)).alloc (.cells #[.bool d.S.s, .slice d.S.A d.S.n d.S.c, .int .i64 d.S.e, .bool d.W.s, .slice d.W.A d.W.n d.W.c, .int .i64 d.W.e, .bool d.C.s, .slice d.C.A d.C.n d.C.c, .int .i64 d.C.e, .bool d.A.s, .slice d.A.A d.A.n d.A.c, .int .i64 d.A.e] 39) = w_14 at *
        obtain ⟨hMm, hMd, hB, low_14, hiw_14⟩ := boxes2 w_8 _ _ hww_14
        replace hB : Below w_8.heap.size w_8 w_14 := hB
        have lw_14 : w_8.heap.size ≤ w_14.heap.size := hB.size
        replace hMa := box_on hMa hB (by omega)
        replace hMb := box_on hMb hB (by omega)
        replace Ra := MRows.on Ra hB
        replace Rb := MRows.on Rb hB
        replace Rm := MRows.on Rm hB
        replace Rd := MRows.on Rd hB
        replace a_ := Amid.on a_ hB
        replace hMm : MBox w_14 w_8.heap.size m := hMm
        replace hMd : MBox w_14 (w_8.heap.size + 1) d := hMd
        clear hB
        obtain ⟨⟨q_15_0, q_15_1, q_15_2, q_15_3, q_15_4, q_15_5, q_15_6, q_15_7, q_15_8, q_15_9, q_15_10, q_15_11⟩, q_15f⟩ := MBox.cells hMm
        go_wp2_with fail
        refine (MSame_any w_14 m ZM Rm (ZM_rows ..) true (hm.out.same IsM.zero)).mono ?_
        rintro e' w_16 ⟨rfl, hB⟩
        clear q_15_0 q_15_1 q_15_2 q_15_3 q_15_4 q_15_5 q_15_6 q_15_7 q_15_8 q_15_9 q_15_10 q_15_11 q_15f
        have lw_16 : w_14.heap.size ≤ w_16.heap.size := hB.size
        replace hMa := box_on hMa hB (by omega)
        replace hMb := box_on hMb hB (by omega)
        replace hMm := box_on hMm hB (by omega)
        replace hMd := box_on hMd hB (by omega)
        replace Ra := MRows.on Ra hB
        replace Rb := MRows.on Rb hB
        replace Rm := MRows.on Rm hB
        replace Rd := MRows.on Rd hB
        replace a_ := Amid.on a_ hB
        try clear hww_14
        clear hB
        obtain ⟨⟨q_17_0, q_17_1, q_17_2, q_17_3, q_17_4, q_17_5, q_17_6, q_17_7, q_17_8, q_17_9, q_17_10, q_17_11⟩, q_17f⟩ := MBox.cells hMd
        go_wp2_with fail
        refine (MSame_any w_16 d ZM Rd (ZM_rows ..) true (hd.out.same IsM.zero)).mono ?_
        rintro e' w_18 ⟨rfl, hB⟩
        clear q_17_0 q_17_1 q_17_2 q_17_3 q_17_4 q_17_5 q_17_6 q_17_7 q_17_8 q_17_9 q_17_10 q_17_11 q_17f
        have lw_18 : w_16.heap.size ≤ w_18.heap.size := hB.size
        replace hMa := box_on hMa hB (by omega)
        replace hMb := box_on hMb hB (by omega)
        replace hMm := box_on hMm hB (by omega)
        replace hMd := box_on hMd hB (by omega)
        replace Ra := MRows.on Ra hB
        replace Rb := MRows.on Rb hB
        replace Rm := MRows.on Rm hB
        replace Rd := MRows.on Rd hB
        replace a_ := Amid.on a_ hB
        clear hB
        go_wp2
        go_ret
        exact ⟨rfl, a_.below⟩
      · skip
        generalize hww_19 : (w_8.alloc (.cells #[.bool m.S.s, .slice m.S.A m.S.n m.S.c, .int .i64 m.S.e, .bool m.W.s, .slice m.W.A m.W.n m.W.c, .int .i64 m.W.e, .bool m.C.s, .slice m.C.A m.C.n m.C.c, .int .i64 m.C.e, .bool m.A.s, .slice m.A.A m.A.n m.A.c, .int .i64 m.A.e] 39)).alloc (.cells #[.bool d.S.s, .slice d.S.A d.S.n d.S.c, .int .i64 d.S.e, .bool d.W.s, .slice d.W.A d.W.n d.W.c, .int .i64 d.W.e, .bool d.C.s, .slice d.C.A d.C.n d.C.c, .int .i64 d.C.e, .bool d.A.s, .slice d.A.A d.A.n d.A.c, .int .i64 d.A.e] 39) = w_19 at *
        obtain ⟨hMm, hMd, hB, low_19, hiw_19⟩ := boxes2 w_8 _ _ hww_19
        replace hB : Below w_8.heap.size w_8 w_19 := hB
        have lw_19 : w_8.heap.size ≤ w_19.heap.size := hB.size
        replace hMa := box_on hMa hB (by omega)
        replace hMb := box_on hMb hB (by omega)
        replace Ra := MRows.on Ra hB
        replace Rb := MRows.on Rb hB
        replace Rm := MRows.on Rm hB
        replace Rd := MRows.on Rd hB
        replace a_ := Amid.on a_ hB
        replace hMm : MBox w_19 w_8.heap.size m := hMm
        replace hMd : MBox w_19 (w_8.heap.size + 1) d := hMd
        clear hB
        obtain ⟨hmay, _, _, mr0, mr1, lr0, lr1⟩ := meet_zero HM.out
        obtain ⟨T, hdn, t0, t1, t2, t3⟩ := done_law hA HM.out hd.out
        have HDN := Lib.hid hdn
        have T0 := Lib.hid t0
        have T1 := Lib.hid t1
        have T2 := Lib.hid t2
        have T3 := Lib.hid t3
        have M1 := Lib.hid mr1
        have IA := Lib.hid (IsM.of hA hmay.1)
        have IB := Lib.hid (IsM.of hBb hmay.2)
        clear hdn t0 t1 t2 t3 mr0 mr1 lr0 lr1
        obtain ⟨⟨q_20_0, q_20_1, q_20_2, q_20_3, q_20_4, q_20_5, q_20_6, q_20_7, q_20_8, q_20_9, q_20_10, q_20_11⟩, q_20f⟩ := MBox.cells hMa
        obtain ⟨⟨q_21_0, q_21_1, q_21_2, q_21_3, q_21_4, q_21_5, q_21_6, q_21_7, q_21_8, q_21_9, q_21_10, q_21_11⟩, q_21f⟩ := MBox.cells hMd
        go_wp2_with fail
        refine (Done_num w_19 a d Ra Rd a_.tab T 0 HDN.out).mono ?_
        rintro e' w_22 ⟨x, rfl, hB, hx, rx⟩
        clear q_20_0 q_20_1 q_20_2 q_20_3 q_20_4 q_20_5 q_20_6 q_20_7 q_20_8 q_20_9 q_20_10 q_20_11 q_20f q_21_0 q_21_1 q_21_2 q_21_3 q_21_4 q_21_5 q_21_6 q_21_7 q_21_8 q_21_9 q_21_10 q_21_11 q_21f
        have lw_22 : w_19.heap.size ≤ w_22.heap.size := hB.size
        replace hMa := box_on hMa hB (by omega)
        replace hMb := box_on hMb hB (by omega)
        replace hMm := box_on hMm hB (by omega)
        replace hMd := box_on hMd hB (by omega)
        replace Ra := MRows.on Ra hB
        replace Rb := MRows.on Rb hB
        replace Rm := MRows.on Rm hB
        replace Rd := MRows.on Rd hB
        replace a_ := Amid.on a_ hB
        try clear hww_19
        have Rx := MRows.more rx (Nat.zero_le _) (Nat.le_refl _)
        clear rx
        replace hx := Lib.hid hx
        clear hB
        have hB := (Below.refl w_22.heap.size w_22).alloc (Nat.le_refl _) (.cells #[.bool x.S.s, .slice x.S.A x.S.n x.S.c, .int .i64 x.S.e, .bool x.W.s, .slice x.W.A x.W.n x.W.c, .int .i64 x.W.e, .bool x.C.s, .slice x.C.A x.C.n x.C.c, .int .i64 x.C.e, .bool x.A.s, .slice x.A.A x.A.n x.A.c, .int .i64 x.A.e] 39)
        have hMx : MBox (w_22.alloc (.cells #[.bool x.S.s, .slice x.S.A x.S.n x.S.c, .int .i64 x.S.e, .bool x.W.s, .slice x.W.A x.W.n x.W.c, .int .i64 x.W.e, .bool x.C.s, .slice x.C.A x.C.n x.C.c, .int .i64 x.C.e, .bool x.A.s, .slice x.A.A x.A.n x.A.c, .int .i64 x.A.e] 39)) w_22.heap.size x := heap_alloc_last _ _
        have mw_23 : w_22.heap.size < (w_22.alloc (.cells #[.bool x.S.s, .slice x.S.A x.S.n x.S.c, .int .i64 x.S.e, .bool x.W.s, .slice x.W.A x.W.n x.W.c, .int .i64 x.W.e, .bool x.C.s, .slice x.C.A x.C.n x.C.c, .int .i64 x.C.e, .bool x.A.s, .slice x.A.A x.A.n x.A.c, .int .i64 x.A.e] 39)).heap.size := by simp
        generalize hww_23 : w_22.alloc (.cells #[.bool x.S.s, .slice x.S.A x.S.n x.S.c, .int .i64 x.S.e, .bool x.W.s, .slice x.W.A x.W.n x.W.c, .int .i64 x.W.e, .bool x.C.s, .slice x.C.A x.C.n x.C.c, .int .i64 x.C.e, .bool x.A.s, .slice x.A.A x.A.n x.A.c, .int .i64 x.A.e] 39) = w_23 at *
        have lw_23 : w_22.heap.size ≤ w_23.heap.size := hB.size
        replace hMa := box_on hMa hB (by omega)
        replace hMb := box_on hMb hB (by omega)
        replace hMm := box_on hMm hB (by omega)
        replace hMd := box_on hMd hB (by omega)
        replace Ra := MRows.on Ra hB
        replace Rb := MRows.on Rb hB
        replace Rm := MRows.on Rm hB
        replace Rd := MRows.on Rd hB
        replace Rx := MRows.on Rx hB
        replace a_ := Amid.on a_ hB
        clear hB
        obtain ⟨⟨q_24_0, q_24_1, q_24_2, q_24_3, q_24_4, q_24_5, q_24_6, q_24_7, q_24_8, q_24_9, q_24_10, q_24_11⟩, q_24f⟩ := MBox.cells hMx
        obtain ⟨⟨q_25_0, q_25_1, q_25_2, q_25_3, q_25_4, q_25_5, q_25_6, q_25_7, q_25_8, q_25_9, q_25_10, q_25_11⟩, q_25f⟩ := MBox.cells hMm
        go_wp2_with fail
        refine (Pa.dyadSame_any w_23 x.C.s m.C.s x.C.A m.C.A x.C.n x.C.c m.C.n m.C.c x.C.xs m.C.xs x.C.e m.C.e (MRows.get Rx 2) (MRows.get Rm 2) true ((hx.out 2 (by decide)).same (by rw [T2.out]; exact hm.out 2 (by decide)))).mono ?_
        rintro e' w_26 ⟨rfl, hB⟩
        clear q_24_0 q_24_1 q_24_2 q_24_3 q_24_4 q_24_5 q_24_6 q_24_7 q_24_8 q_24_9 q_24_10 q_24_11 q_24f q_25_0 q_25_1 q_25_2 q_25_3 q_25_4 q_25_5 q_25_6 q_25_7 q_25_8 q_25_9 q_25_10 q_25_11 q_25f
        have lw_26 : w_23.heap.size ≤ w_26.heap.size := hB.size
        replace hMa := box_on hMa hB (by omega)
        replace hMb := box_on hMb hB (by omega)
        replace hMm := box_on hMm hB (by omega)
        replace hMd := box_on hMd hB (by omega)
        replace hMx := box_on hMx hB (by omega)
        replace Ra := MRows.on Ra hB
        replace Rb := MRows.on Rb hB
        replace Rm := MRows.on Rm hB
        replace Rd := MRows.on Rd hB
        replace Rx := MRows.on Rx hB
        replace a_ := Amid.on a_ hB
        try clear hww_23
        clear hB
        obtain ⟨⟨q_27_0, q_27_1, q_27_2, q_27_3, q_27_4, q_27_5, q_27_6, q_27_7, q_27_8, q_27_9, q_27_10, q_27_11⟩, q_27f⟩ := MBox.cells hMx
        obtain ⟨⟨q_28_0, q_28_1, q_28_2, q_28_3, q_28_4, q_28_5, q_28_6, q_28_7, q_28_8, q_28_9, q_28_10, q_28_11⟩, q_28f⟩ := MBox.cells hMm
        go_wp2_with fail
        refine (Pa.dyadSame_any w_26 x.A.s m.A.s x.A.A m.A.A x.A.n x.A.c m.A.n m.A.c x.A.xs m.A.xs x.A.e m.A.e (MRows.get Rx 3) (MRows.get Rm 3) true ((hx.out 3 (by decide)).same (by rw [T3.out]; exact hm.out 3 (by decide)))).mono ?_
        rintro e' w_29 ⟨rfl, hB⟩
        clear q_27_0 q_27_1 q_27_2 q_27_3 q_27_4 q_27_5 q_27_6 q_27_7 q_27_8 q_27_9 q_27_10 q_27_11 q_27f q_28_0 q_28_1 q_28_2 q_28_3 q_28_4 q_28_5 q_28_6 q_28_7 q_28_8 q_28_9 q_28_10 q_28_11 q_28f
        have lw_29 : w_26.heap.size ≤ w_29.heap.size := hB.size
        replace hMa := box_on hMa hB (by omega)
        replace hMb := box_on hMb hB (by omega)
        replace hMm := box_on hMm hB (by omega)
        replace hMd := box_on hMd hB (by omega)
        replace hMx := box_on hMx hB (by omega)
        replace Ra := MRows.on Ra hB
        replace Rb := MRows.on Rb hB
        replace Rm := MRows.on Rm hB
        replace Rd := MRows.on Rd hB
        replace Rx := MRows.on Rx hB
        replace a_ := Amid.on a_ hB
        try clear hww_23
        clear hB
        obtain ⟨⟨q_30_0, q_30_1, q_30_2, q_30_3, q_30_4, q_30_5, q_30_6, q_30_7, q_30_8, q_30_9, q_30_10, q_30_11⟩, q_30f⟩ := MBox.cells hMx
        obtain ⟨⟨q_31_0, q_31_1, q_31_2, q_31_3, q_31_4, q_31_5, q_31_6, q_31_7, q_31_8, q_31_9, q_31_10, q_31_11⟩, q_31f⟩ := MBox.cells hMa
        go_wp2_with fail
        refine (Pa.dyadSame_any w_29 x.S.s a.S.s x.S.A a.S.A x.S.n x.S.c a.S.n a.S.c x.S.xs a.S.xs x.S.e a.S.e (MRows.get Rx 0) (MRows.get Ra 0) true ((hx.out 0 (by decide)).same (by rw [T0.out]; exact IA.out 0 (by decide)))).mono ?_
        rintro e' w_32 ⟨rfl, hB⟩
        clear q_30_0 q_30_1 q_30_2 q_30_3 q_30_4 q_30_5 q_30_6 q_30_7 q_30_8 q_30_9 q_30_10 q_30_11 q_30f q_31_0 q_31_1 q_31_2 q_31_3 q_31_4 q_31_5 q_31_6 q_31_7 q_31_8 q_31_9 q_31_10 q_31_11 q_31f
        have lw_32 : w_29.heap.size ≤ w_32.heap.size := hB.size
        replace hMa := box_on hMa hB (by omega)
        replace hMb := box_on hMb hB (by omega)
        replace hMm := box_on hMm hB (by omega)
        replace hMd := box_on hMd hB (by omega)
        replace hMx := box_on hMx hB (by omega)
        replace Ra := MRows.on Ra hB
        replace Rb := MRows.on Rb hB
        replace Rm := MRows.on Rm hB
        replace Rd := MRows.on Rd hB
        replace Rx := MRows.on Rx hB
        replace a_ := Amid.on a_ hB
        try clear hww_23
        clear hB
        obtain ⟨⟨q_33_0, q_33_1, q_33_2, q_33_3, q_33_4, q_33_5, q_33_6, q_33_7, q_33_8, q_33_9, q_33_10, q_33_11⟩, q_33f⟩ := MBox.cells hMm
        obtain ⟨⟨q_34_0, q_34_1, q_34_2, q_34_3, q_34_4, q_34_5, q_34_6, q_34_7, q_34_8, q_34_9, q_34_10, q_34_11⟩, q_34f⟩ := MBox.cells hMb
        go_wp2_with fail
        refine (Pa.dyadSame_any w_32 m.W.s b.W.s m.W.A b.W.A m.W.n m.W.c b.W.n b.W.c m.W.xs b.W.xs m.W.e b.W.e (MRows.get Rm 1) (MRows.get Rb 1) true ((hm.out 1 (by decide)).same (by rw [M1.out]; exact IB.out 1 (by decide)))).mono ?_
        rintro e' w_35 ⟨rfl, hB⟩
        clear q_33_0 q_33_1 q_33_2 q_33_3 q_33_4 q_33_5 q_33_6 q_33_7 q_33_8 q_33_9 q_33_10 q_33_11 q_33f q_34_0 q_34_1 q_34_2 q_34_3 q_34_4 q_34_5 q_34_6 q_34_7 q_34_8 q_34_9 q_34_10 q_34_11 q_34f
        have lw_35 : w_32.heap.size ≤ w_35.heap.size := hB.size
        replace hMa := box_on hMa hB (by omega)
        replace hMb := box_on hMb hB (by omega)
        replace hMm := box_on hMm hB (by omega)
        replace hMd := box_on hMd hB (by omega)
        replace hMx := box_on hMx hB (by omega)
        replace Ra := MRows.on Ra hB
        replace Rb := MRows.on Rb hB
        replace Rm := MRows.on Rm hB
        replace Rd := MRows.on Rd hB
        replace Rx := MRows.on Rx hB
        replace a_ := Amid.on a_ hB
        try clear hww_23
        clear hB
        obtain ⟨W, g, hw⟩ : ∃ W g, addM a b = (W, g) := ⟨_, _, rfl⟩
        obtain ⟨I, k, hi⟩ : ∃ I k, addM x m = (I, k) := ⟨_, _, rfl⟩
        obtain ⟨hkg, hIW⟩ := whole_mid hA hBb HM.out hm.out hx.out ⟨T0.out, T1.out, T2.out, T3.out⟩ hw hi
        subst hkg
        replace hIW := Lib.hid hIW
        have HW := Lib.hid hw
        have HI := Lib.hid hi
        have hgc := Lib.hid (addM_codes hw)
        clear hw hi T0 T1 T2 T3 M1 IA IB HDN
        obtain ⟨⟨q_36_0, q_36_1, q_36_2, q_36_3, q_36_4, q_36_5, q_36_6, q_36_7, q_36_8, q_36_9, q_36_10, q_36_11⟩, q_36f⟩ := MBox.cells hMa
        obtain ⟨⟨q_37_0, q_37_1, q_37_2, q_37_3, q_37_4, q_37_5, q_37_6, q_37_7, q_37_8, q_37_9, q_37_10, q_37_11⟩, q_37f⟩ := MBox.cells hMb
        go_wp2_with fail
        refine (MAdd_num w_35 a b Ra Rb a_.tab W k HW.out).mono ?_
        rintro e' w_38 ⟨p, rfl, hB, hp, rp⟩
        clear q_36_0 q_36_1 q_36_2 q_36_3 q_36_4 q_36_5 q_36_6 q_36_7 q_36_8 q_36_9 q_36_10 q_36_11 q_36f q_37_0 q_37_1 q_37_2 q_37_3 q_37_4 q_37_5 q_37_6 q_37_7 q_37_8 q_37_9 q_37_10 q_37_11 q_37f
        have lw_38 : w_35.heap.size ≤ w_38.heap.size := hB.size
        replace hMa := box_on hMa hB (by omega)
        replace hMb := box_on hMb hB (by omega)
        replace hMm := box_on hMm hB (by omega)
        replace hMd := box_on hMd hB (by omega)
        replace hMx := box_on hMx hB (by omega)
        replace Ra := MRows.on Ra hB
        replace Rb := MRows.on Rb hB
        replace Rm := MRows.on Rm hB
        replace Rd := MRows.on Rd hB
        replace Rx := MRows.on Rx hB
        replace a_ := Amid.on a_ hB
        have Rp := MRows.more rp (Nat.zero_le _) (Nat.le_refl _)
        clear rp
        replace hp := Lib.hid hp
        clear hB
        have hB := (Below.refl w_38.heap.size w_38).alloc (Nat.le_refl _) (.cells #[.bool p.S.s, .slice p.S.A p.S.n p.S.c, .int .i64 p.S.e, .bool p.W.s, .slice p.W.A p.W.n p.W.c, .int .i64 p.W.e, .bool p.C.s, .slice p.C.A p.C.n p.C.c, .int .i64 p.C.e, .bool p.A.s, .slice p.A.A p.A.n p.A.c, .int .i64 p.A.e] 39)
        have hMp : MBox (w_38.alloc (.cells #[.bool p.S.s, .slice p.S.A p.S.n p.S.c, .int .i64 p.S.e, .bool p.W.s, .slice p.W.A p.W.n p.W.c, .int .i64 p.W.e, .bool p.C.s, .slice p.C.A p.C.n p.C.c, .int .i64 p.C.e, .bool p.A.s, .slice p.A.A p.A.n p.A.c, .int .i64 p.A.e] 39)) w_38.heap.size p := heap_alloc_last _ _
        have mw_39 : w_38.heap.size < (w_38.alloc (.cells #[.bool p.S.s, .slice p.S.A p.S.n p.S.c, .int .i64 p.S.e, .bool p.W.s, .slice p.W.A p.W.n p.W.c, .int .i64 p.W.e, .bool p.C.s, .slice p.C.A p.C.n p.C.c, .int .i64 p.C.e, .bool p.A.s, .slice p.A.A p.A.n p.A.c, .int .i64 p.A.e] 39)).heap.size := by simp
        generalize hww_39 : w_38.alloc (.cells #[.bool p.S.s, .slice p.S.A p.S.n p.S.c, .int .i64 p.S.e, .bool p.W.s, .slice p.W.A p.W.n p.W.c, .int .i64 p.W.e, .bool p.C.s, .slice p.C.A p.C.n p.C.c, .int .i64 p.C.e, .bool p.A.s, .slice p.A.A p.A.n p.A.c, .int .i64 p.A.e] 39) = w_39 at *
        have lw_39 : w_38.heap.size ≤ w_39.heap.size := hB.size
        replace hMa := box_on hMa hB (by omega)
        replace hMb := box_on hMb hB (by omega)
        replace hMm := box_on hMm hB (by omega)
        replace hMd := box_on hMd hB (by omega)
        replace hMx := box_on hMx hB (by omega)
        replace Ra := MRows.on Ra hB
        replace Rb := MRows.on Rb hB
        replace Rm := MRows.on Rm hB
        replace Rd := MRows.on Rd hB
        replace Rx := MRows.on Rx hB
        replace Rp := MRows.on Rp hB
        replace a_ := Amid.on a_ hB
        clear hB
        obtain ⟨⟨q_40_0, q_40_1, q_40_2, q_40_3, q_40_4, q_40_5, q_40_6, q_40_7, q_40_8, q_40_9, q_40_10, q_40_11⟩, q_40f⟩ := MBox.cells hMx
        obtain ⟨⟨q_41_0, q_41_1, q_41_2, q_41_3, q_41_4, q_41_5, q_41_6, q_41_7, q_41_8, q_41_9, q_41_10, q_41_11⟩, q_41f⟩ := MBox.cells hMm
        go_wp2_with fail
        refine (MAdd_num w_39 x m Rx Rm a_.tab I k HI.out).mono ?_
        rintro e' w_42 ⟨q, rfl, hB, hq, rq⟩
        clear q_40_0 q_40_1 q_40_2 q_40_3 q_40_4 q_40_5 q_40_6 q_40_7 q_40_8 q_40_9 q_40_10 q_40_11 q_40f q_41_0 q_41_1 q_41_2 q_41_3 q_41_4 q_41_5 q_41_6 q_41_7 q_41_8 q_41_9 q_41_10 q_41_11 q_41f
        have lw_42 : w_39.heap.size ≤ w_42.heap.size := hB.size
        replace hMa := box_on hMa hB (by omega)
        replace hMb := box_on hMb hB (by omega)
        replace hMm := box_on hMm hB (by omega)
        replace hMd := box_on hMd hB (by omega)
        replace hMx := box_on hMx hB (by omega)
        replace hMp := box_on hMp hB (by omega)
        replace Ra := MRows.on Ra hB
        replace Rb := MRows.on Rb hB
        replace Rm := MRows.on Rm hB
        replace Rd := MRows.on Rd hB
        replace Rx := MRows.on Rx hB
        replace Rp := MRows.on Rp hB
        replace a_ := Amid.on a_ hB
        have Rq := MRows.more rq (Nat.zero_le _) (Nat.le_refl _)
        clear rq
        replace hq := Lib.hid hq
        try clear hww_39
        clear hB
        have hB := (Below.refl w_42.heap.size w_42).alloc (Nat.le_refl _) (.cells #[.bool q.S.s, .slice q.S.A q.S.n q.S.c, .int .i64 q.S.e, .bool q.W.s, .slice q.W.A q.W.n q.W.c, .int .i64 q.W.e, .bool q.C.s, .slice q.C.A q.C.n q.C.c, .int .i64 q.C.e, .bool q.A.s, .slice q.A.A q.A.n q.A.c, .int .i64 q.A.e] 39)
        have hMq : MBox (w_42.alloc (.cells #[.bool q.S.s, .slice q.S.A q.S.n q.S.c, .int .i64 q.S.e, .bool q.W.s, .slice q.W.A q.W.n q.W.c, .int .i64 q.W.e, .bool q.C.s, .slice q.C.A q.C.n q.C.c, .int .i64 q.C.e, .bool q.A.s, .slice q.A.A q.A.n q.A.c, .int .i64 q.A.e] 39)) w_42.heap.size q := heap_alloc_last _ _
        have mw_43 : w_42.heap.size < (w_42.alloc (.cells #[.bool q.S.s, .slice q.S.A q.S.n q.S.c, .int .i64 q.S.e, .bool q.W.s, .slice q.W.A q.W.n q.W.c, .int .i64 q.W.e, .bool q.C.s, .slice q.C.A q.C.n q.C.c, .int .i64 q.C.e, .bool q.A.s, .slice q.A.A q.A.n q.A.c, .int .i64 q.A.e] 39)).heap.size := by simp
        generalize hww_43 : w_42.alloc (.cells #[.bool q.S.s, .slice q.S.A q.S.n q.S.c, .int .i64 q.S.e, .bool q.W.s, .slice q.W.A q.W.n q.W.c, .int .i64 q.W.e, .bool q.C.s, .slice q.C.A q.C.n q.C.c, .int .i64 q.C.e, .bool q.A.s, .slice q.A.A q.A.n q.A.c, .int .i64 q.A.e] 39) = w_43 at *
        have lw_43 : w_42.heap.size ≤ w_43.heap.size := hB.size
        replace hMa := box_on hMa hB (by omega)
        replace hMb := box_on hMb hB (by omega)
        replace hMm := box_on hMm hB (by omega)
        replace hMd := box_on hMd hB (by omega)
        replace hMx := box_on hMx hB (by omega)
        replace hMp := box_on hMp hB (by omega)
        replace Ra := MRows.on Ra hB
        replace Rb := MRows.on Rb hB
        replace Rm := MRows.on Rm hB
        replace Rd := MRows.on Rd hB
        replace Rx := MRows.on Rx hB
        replace Rp := MRows.on Rp hB
        replace Rq := MRows.on Rq hB
        replace a_ := Amid.on a_ hB
        clear hB
        obtain ⟨⟨q_44_0, q_44_1, q_44_2, q_44_3, q_44_4, q_44_5, q_44_6, q_44_7, q_44_8, q_44_9, q_44_10, q_44_11⟩, q_44f⟩ := MBox.cells hMa
        obtain ⟨⟨q_45_0, q_45_1, q_45_2, q_45_3, q_45_4, q_45_5, q_45_6, q_45_7, q_45_8, q_45_9, q_45_10, q_45_11⟩, q_45f⟩ := MBox.cells hMm
        obtain ⟨⟨q_46_0, q_46_1, q_46_2, q_46_3, q_46_4, q_46_5, q_46_6, q_46_7, q_46_8, q_46_9, q_46_10, q_46_11⟩, q_46f⟩ := MBox.cells hMd
        go_wp2_with fail
        try clear hww_43
        generalize hww_47 : w_43.alloc (.cells #[.bool a.S.s, .slice a.S.A a.S.n a.S.c, .int .i64 a.S.e, .bool a.W.s, .slice a.W.A a.W.n a.W.c, .int .i64 a.W.e, .bool a.C.s, .slice a.C.A a.C.n a.C.c, .int .i64 a.C.e, .bool a.A.s, .slice a.A.A a.A.n a.A.c, .int .i64 a.A.e, .bool m.S.s, .slice m.S.A m.S.n m.S.c, .int .i64 m.S.e, .bool m.W.s, .slice m.W.A m.W.n m.W.c, .int .i64 m.W.e, .bool m.C.s, .slice m.C.A m.C.n m.C.c, .int .i64 m.C.e, .bool m.A.s, .slice m.A.A m.A.n m.A.c, .int .i64 m.A.e, .bool d.S.s, .slice d.S.A d.S.n d.S.c, .int .i64 d.S.e, .bool d.W.s, .slice d.W.A d.W.n d.W.c, .int .i64 d.W.e, .bool d.C.s, .slice d.C.A d.C.n d.C.c, .int .i64 d.C.e, .bool d.A.s, .slice d.A.A d.A.n d.A.c, .int .i64 d.A.e] 39) = w_47 at *
        have hLL := lms_three3 w_43 a m d Ra Rm Rd hww_47
        have hB : Below w_43.heap.size w_43 w_47 := by rw [← hww_47]; exact (Below.refl _ _).alloc (Nat.le_refl _) _
        clear q_44_0 q_44_1 q_44_2 q_44_3 q_44_4 q_44_5 q_44_6 q_44_7 q_44_8 q_44_9 q_44_10 q_44_11 q_44f q_45_0 q_45_1 q_45_2 q_45_3 q_45_4 q_45_5 q_45_6 q_45_7 q_45_8 q_45_9 q_45_10 q_45_11 q_45f q_46_0 q_46_1 q_46_2 q_46_3 q_46_4 q_46_5 q_46_6 q_46_7 q_46_8 q_46_9 q_46_10 q_46_11 q_46f
        have lw_47 : w_43.heap.size ≤ w_47.heap.size := hB.size
        replace hMa := box_on hMa hB (by omega)
        replace hMb := box_on hMb hB (by omega)
        replace hMm := box_on hMm hB (by omega)
        replace hMd := box_on hMd hB (by omega)
        replace hMx := box_on hMx hB (by omega)
        replace hMp := box_on hMp hB (by omega)
        replace hMq := box_on hMq hB (by omega)
        replace Ra := MRows.on Ra hB
        replace Rb := MRows.on Rb hB
        replace Rm := MRows.on Rm hB
        replace Rd := MRows.on Rd hB
        replace Rx := MRows.on Rx hB
        replace Rp := MRows.on Rp hB
        replace Rq := MRows.on Rq hB
        replace a_ := Amid.on a_ hB
        clear hB
        obtain ⟨S, i, hS⟩ : ∃ S h, sumM [a, m, d] = (S, h) := ⟨_, _, rfl⟩
        have HS := Lib.hid hS
        have hic := Lib.hid (sum_codes4 hS)
        clear hS
        refine (MSum_any w_47 _ 3 3 [a, m, d] hLL (by decide) a_.tab S i HS.out).mono ?_
        rintro e' w_48 ⟨u, rfl, hB, hu, ru⟩
        have lw_48 : w_47.heap.size ≤ w_48.heap.size := hB.size
        replace hMa := box_on hMa hB (by omega)
        replace hMb := box_on hMb hB (by omega)
        replace hMm := box_on hMm hB (by omega)
        replace hMd := box_on hMd hB (by omega)
        replace hMx := box_on hMx hB (by omega)
        replace hMp := box_on hMp hB (by omega)
        replace hMq := box_on hMq hB (by omega)
        replace Ra := MRows.on Ra hB
        replace Rb := MRows.on Rb hB
        replace Rm := MRows.on Rm hB
        replace Rd := MRows.on Rd hB
        replace Rx := MRows.on Rx hB
        replace Rp := MRows.on Rp hB
        replace Rq := MRows.on Rq hB
        replace a_ := Amid.on a_ hB
        clear hLL
        have Ru := MRows.more ru (Nat.zero_le _) (Nat.le_refl _)
        clear ru
        replace hu := Lib.hid hu
        try clear hww_47
        clear hB
        have hB := (Below.refl w_48.heap.size w_48).alloc (Nat.le_refl _) (.cells #[.bool u.S.s, .slice u.S.A u.S.n u.S.c, .int .i64 u.S.e, .bool u.W.s, .slice u.W.A u.W.n u.W.c, .int .i64 u.W.e, .bool u.C.s, .slice u.C.A u.C.n u.C.c, .int .i64 u.C.e, .bool u.A.s, .slice u.A.A u.A.n u.A.c, .int .i64 u.A.e] 39)
        have hMu : MBox (w_48.alloc (.cells #[.bool u.S.s, .slice u.S.A u.S.n u.S.c, .int .i64 u.S.e, .bool u.W.s, .slice u.W.A u.W.n u.W.c, .int .i64 u.W.e, .bool u.C.s, .slice u.C.A u.C.n u.C.c, .int .i64 u.C.e, .bool u.A.s, .slice u.A.A u.A.n u.A.c, .int .i64 u.A.e] 39)) w_48.heap.size u := heap_alloc_last _ _
        have mw_49 : w_48.heap.size < (w_48.alloc (.cells #[.bool u.S.s, .slice u.S.A u.S.n u.S.c, .int .i64 u.S.e, .bool u.W.s, .slice u.W.A u.W.n u.W.c, .int .i64 u.W.e, .bool u.C.s, .slice u.C.A u.C.n u.C.c, .int .i64 u.C.e, .bool u.A.s, .slice u.A.A u.A.n u.A.c, .int .i64 u.A.e] 39)).heap.size := by simp
        generalize hww_49 : w_48.alloc (.cells #[.bool u.S.s, .slice u.S.A u.S.n u.S.c, .int .i64 u.S.e, .bool u.W.s, .slice u.W.A u.W.n u.W.c, .int .i64 u.W.e, .bool u.C.s, .slice u.C.A u.C.n u.C.c, .int .i64 u.C.e, .bool u.A.s, .slice u.A.A u.A.n u.A.c, .int .i64 u.A.e] 39) = w_49 at *
        have lw_49 : w_48.heap.size ≤ w_49.heap.size := hB.size
        replace hMa := box_on hMa hB (by omega)
        replace hMb := box_on hMb hB (by omega)
        replace hMm := box_on hMm hB (by omega)
        replace hMd := box_on hMd hB (by omega)
        replace hMx := box_on hMx hB (by omega)
        replace hMp := box_on hMp hB (by omega)
        replace hMq := box_on hMq hB (by omega)
        replace Ra := MRows.on Ra hB
        replace Rb := MRows.on Rb hB
        replace Rm := MRows.on Rm hB
        replace Rd := MRows.on Rd hB
        replace Rx := MRows.on Rx hB
        replace Rp := MRows.on Rp hB
        replace Rq := MRows.on Rq hB
        replace Ru := MRows.on Ru hB
        replace a_ := Amid.on a_ hB
        clear hB
        rcases hgc.out with rfl | ⟨rfl, _, _⟩ | ⟨rfl, _, _⟩
        rotate_left
        · go_wp2
          go_ret
          exact ⟨rfl, a_.below⟩
        · go_wp2
          go_ret
          exact ⟨rfl, a_.below⟩
        · skip
          obtain ⟨⟨q_50_0, q_50_1, q_50_2, q_50_3, q_50_4, q_50_5, q_50_6, q_50_7, q_50_8, q_50_9, q_50_10, q_50_11⟩, q_50f⟩ := MBox.cells hMp
          obtain ⟨⟨q_51_0, q_51_1, q_51_2, q_51_3, q_51_4, q_51_5, q_51_6, q_51_7, q_51_8, q_51_9, q_51_10, q_51_11⟩, q_51f⟩ := MBox.cells hMq
          go_wp2_with fail
          refine (MSame_any w_49 p q Rp Rq true (hp.out.same (hq.out.of_eq fun j hj => (hIW.out j hj).symm))).mono ?_
          rintro e' w_52 ⟨rfl, hB⟩
          clear q_50_0 q_50_1 q_50_2 q_50_3 q_50_4 q_50_5 q_50_6 q_50_7 q_50_8 q_50_9 q_50_10 q_50_11 q_50f q_51_0 q_51_1 q_51_2 q_51_3 q_51_4 q_51_5 q_51_6 q_51_7 q_51_8 q_51_9 q_51_10 q_51_11 q_51f
          have lw_52 : w_49.heap.size ≤ w_52.heap.size := hB.size
          replace hMa := box_on hMa hB (by omega)
          replace hMb := box_on hMb hB (by omega)
          replace hMm := box_on hMm hB (by omega)
          replace hMd := box_on hMd hB (by omega)
          replace hMx := box_on hMx hB (by omega)
          replace hMp := box_on hMp hB (by omega)
          replace hMq := box_on hMq hB (by omega)
          replace hMu := box_on hMu hB (by omega)
          replace Ra := MRows.on Ra hB
          replace Rb := MRows.on Rb hB
          replace Rm := MRows.on Rm hB
          replace Rd := MRows.on Rd hB
          replace Rx := MRows.on Rx hB
          replace Rp := MRows.on Rp hB
          replace Rq := MRows.on Rq hB
          replace Ru := MRows.on Ru hB
          replace a_ := Amid.on a_ hB
          try clear hww_49
          clear hB
          rcases hic.out with rfl | rfl | rfl | rfl
          rotate_left
          · go_wp2
            go_ret
            exact ⟨rfl, a_.below⟩
          · go_wp2
            go_ret
            exact ⟨rfl, a_.below⟩
          · go_wp2
            go_ret
            exact ⟨rfl, a_.below⟩
          · skip
            have hSW := Lib.hid (under_law hA hBb HM.out hm.out.dnm hd.out.dnm HW.out HS.out)
            obtain ⟨⟨q_53_0, q_53_1, q_53_2, q_53_3, q_53_4, q_53_5, q_53_6, q_53_7, q_53_8, q_53_9, q_53_10, q_53_11⟩, q_53f⟩ := MBox.cells hMp
            obtain ⟨⟨q_54_0, q_54_1, q_54_2, q_54_3, q_54_4, q_54_5, q_54_6, q_54_7, q_54_8, q_54_9, q_54_10, q_54_11⟩, q_54f⟩ := MBox.cells hMu
            go_wp2_with fail
            refine (MSame_any w_52 p u Rp Ru true (hp.out.same (hu.out.of_eq fun j hj => (hSW.out j hj).symm))).mono ?_
            rintro e' w_55 ⟨rfl, hB⟩
            clear q_53_0 q_53_1 q_53_2 q_53_3 q_53_4 q_53_5 q_53_6 q_53_7 q_53_8 q_53_9 q_53_10 q_53_11 q_53f q_54_0 q_54_1 q_54_2 q_54_3 q_54_4 q_54_5 q_54_6 q_54_7 q_54_8 q_54_9 q_54_10 q_54_11 q_54f
            have lw_55 : w_52.heap.size ≤ w_55.heap.size := hB.size
            replace hMa := box_on hMa hB (by omega)
            replace hMb := box_on hMb hB (by omega)
            replace hMm := box_on hMm hB (by omega)
            replace hMd := box_on hMd hB (by omega)
            replace hMx := box_on hMx hB (by omega)
            replace hMp := box_on hMp hB (by omega)
            replace hMq := box_on hMq hB (by omega)
            replace hMu := box_on hMu hB (by omega)
            replace Ra := MRows.on Ra hB
            replace Rb := MRows.on Rb hB
            replace Rm := MRows.on Rm hB
            replace Rd := MRows.on Rd hB
            replace Rx := MRows.on Rx hB
            replace Rp := MRows.on Rp hB
            replace Rq := MRows.on Rq hB
            replace Ru := MRows.on Ru hB
            replace a_ := Amid.on a_ hB
            clear hB
            go_wp2
            go_ret
            exact ⟨rfl, a_.below⟩
end Ma
end Go.Proofs.YtlbkepiflhchdaaDoor

namespace Go.Proofs.YtlbkepiflhchdaaDoor
open Go.ChangeShapes Go.WideShapes Go.ChangeAt Go.RowKit

set_option maxRecDepth 100000 in
theorem meanHalves_lifted (os : Os) (started : os.Started) (H : Type) (enc : TypeId × Value → H) :
    ReturnsInHanded {} Tryd.checked os 16 .any (fun w args => (Rows.meanHalvesSpec.pre enc Tryd.prog Tryd.f16 [] false w args ∧ laidMetH Tryd.prog Dy.laidT w) ∧ sizedMet enc Tryd.prog Tryd.f16 (OpenSpec.ofChange Rows.meanHalvesSpec) false w args)
      (Rows.meanHalvesSpec.post enc Tryd.prog Tryd.f16 false true false false) := by
  refine returnsInHanded_of_change_and (C := Tryd.checked) (X := fun w _ => laidMetH Tryd.prog Dy.laidT w) (fun _ _ _ hh h => h.of_heap hh) Dy.ownKnob_ started (by kernel_rfl) Tryd.func16
    (ChangeSpec.witness_shaped (enc := enc) (C := Tryd.checked) (os := os) (X := fun w _ => laidMetH Tryd.prog Dy.laidT w) false (World.doorLaid Tryd.prog 400 os) #[.agg #[.bool false, .slice none 0 0, .int .i64 0, .bool false, .slice none 0 0, .int .i64 0, .bool false, .slice none 0 0, .int .i64 0, .bool false, .slice none 0 0, .int .i64 0], .agg #[.bool false, .slice none 0 0, .int .i64 0, .bool false, .slice none 0 0, .int .i64 0, .bool false, .slice none 0 0, .int .i64 0, .bool false, .slice none 0 0, .int .i64 0]] 8 rfl (Dy.door_shaped os _) (by kernel_rfl) (by kernel_rfl) (by kernel_rfl) (Dy.door_met os _)) ?_
  intro W base args ds gs before hval0 hW _ _ hL _
  have hval : ∀ (j : Nat) t v, Tryd.f16.params[j]? = some t → args[j]? = some v → Value.okWide Tryd.prog W .any base t v := hval0
  have hW' := hW
  obtain ⟨p, q, hA0, hV, rfl, hfz, hnd⟩ := hW
  have hlt := hW'.lt
  have hA : DataW.TrodAll enc Tryd.prog W 0 (fun _ => true) true Tryd.f16.params.toList args.toList ds p := hA0
  rw [Tryd.params16] at hA hval
  obtain ⟨v0, v1, d0, d1, p0, p1, rfl, rfl, rfl, h0, h1⟩ := trodAll_two hA
  obtain ⟨rfl, rfl⟩ := trodVars_none hV
  obtain ⟨m0, rfl, hc0, hx0⟩ := mass_open Tryd.underlying39 rfl rfl (by kernel_rfl) Tryd.underlying24 (by kernel_rfl) (by kernel_rfl) Tryd.underlying4 Tryd.underlying22 Tryd.underlying52 (by kernel_rfl) Tryd.underlying3 (hval 0 39 v0 rfl rfl) h0 (fun b off hm => hfz b off (by simp [hm])) (fun x hm => hlt x (by simp [hm]))
  obtain ⟨m1, rfl, hc1, hx1⟩ := mass_open Tryd.underlying39 rfl rfl (by kernel_rfl) Tryd.underlying24 (by kernel_rfl) (by kernel_rfl) Tryd.underlying4 Tryd.underlying22 Tryd.underlying52 (by kernel_rfl) Tryd.underlying3 (hval 1 39 v1 rfl rfl) h1 (fun b off hm => hfz b off (by simp [hm])) (fun x hm => hlt x (by simp [hm]))
  exact (Ma.halves16_walk W m0 hx0 m1 hx1 (Dy.tab_of_laid hL)).mono fun e W' ⟨he, hb⟩ => ⟨_, he, law_post hW' rfl Tryd.laidOut (by kernel_rfl) (tb := 4) (by kernel_rfl) Tryd.underlying4 rfl rfl rfl hb⟩

theorem meanHalves_row : Rows.MeanHalvesSaid :=
  OpenClaim.holds_of_wide 16 Tryd.f16 rfl rfl rfl rfl rfl rfl rfl ⟨rfl, rfl, rfl, rfl, rfl⟩ rfl rfl rfl rfl rfl (by kernel_rfl) Tryd.func16 (by kernel_rfl)
    (of_decide_eq_true (by kernel_rfl)) (by unfold Func.isWrapper; first | (rw [if_pos (by decide +kernel)]; kernel_rfl) | (rw [if_neg (by decide +kernel)]; exact ⟨rfl, rfl⟩))
    (fun os started H enc _ => meanHalves_lifted os started H enc)
theorem meanHalves_holds : Rows.MeanHalvesCardSaid :=
  Claim7.holds_tied_plain_at .later [] [.data] true Rows.meanHalvesCard.stood.harness false
    meanHalves_row (fun _ h => by cases h) (by kernel_rfl) (fun _ h => by cases h) meanHalves_row_tie rfl ⟨rfl, rfl⟩ (by kernel_rfl) rfl
    (fun f fn hf hfn => by
      obtain rfl : f = 16 := Option.some.inj ((show Tryd.prog.funcNamed "headcount/headcountlaw16.MeanHalves" = some 16 by kernel_rfl).symm.trans hf) |>.symm
      obtain rfl : fn = Tryd.f16 := (Option.some.inj (Tryd.func16.symm.trans hfn)).symm
      exact ⟨by kernel_rfl, fun j t ht => by
        rw [Tryd.params16] at ht
        have hm : t ∈ [39, 39] := by simpa using Array.mem_of_getElem? ht
        have hall : ([39, 39].all fun u => !Tryd.prog.wantsStandIn u) = true := by kernel_rfl
        exact (show Tryd.prog.wantsStandIn t = false by simpa using List.all_eq_true.1 hall t hm)⟩)
    (by kernel_rfl)
#print axioms meanHalves_holds
end Go.Proofs.YtlbkepiflhchdaaDoor
