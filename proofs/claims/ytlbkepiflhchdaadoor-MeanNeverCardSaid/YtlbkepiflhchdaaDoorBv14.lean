/- headcountlaw16.alive: a walk (printed by a program of mine). -/
/- MeanNever in parts: its code (printed by a program of mine). -/
/- MeanNever in parts: region 21 (printed by a program of mine). -/
/- MeanNever in parts: region 25 (printed by a program of mine). -/
import Derived.Test.YtlbkepiflhchdaaDoorBv13
import Derived.Test.YtlbkepiflhchdaaDoorBv09
import Derived.Test.YtlbkepiflhchdaaDoorBv12
namespace Go.Proofs.YtlbkepiflhchdaaDoor
open Go.RowKit
namespace Ma
open Dp Dy
theorem alive_far {a b c : Mv} (ha : IsM (ofR false 0 false 6) a) (hb : IsM (ofR false 0 false 2) b) (hc : IsM (ofR false 0 false 3) c) : farM [a, b, c] = ((Dn.zero, ⟨false, 4, 0⟩), 0) := by
  refine far_of (by simp) (fun m hm => ?_) ?_ ?_
  · have m6 := ofR_may (s := false) (v := 0) zero_may (small false 6 (by decide) (by decide))
    have m2 := ofR_may (s := false) (v := 0) zero_may (small false 2 (by decide) (by decide))
    have m3 := ofR_may (s := false) (v := 0) zero_may (small false 3 (by decide) (by decide))
    simp only [List.mem_cons, List.not_mem_nil, or_false] at hm
    rcases hm with rfl | rfl | rfl
    · exact ha.may m6
    · exact hb.may m2
    · exact hc.may m3
  · have e : colM 2 [a, b, c] = [⟨false, 0, 0⟩, ⟨false, 0, 0⟩, ⟨false, 0, 0⟩] := by
      simp only [colM, List.map_cons, List.map_nil]
      rw [ha.dnm 2 (by decide), hb.dnm 2 (by decide), hc.dnm 2 (by decide)]
      rfl
    rw [e]
    exact fl1
  · have e : colM 3 [a, b, c] = [⟨false, 6, 0⟩, ⟨false, 2, 0⟩, ⟨false, 3, 0⟩] := by
      simp only [colM, List.map_cons, List.map_nil]
      rw [ha.dnm 3 (by decide), hb.dnm 3 (by decide), hc.dnm 3 (by decide)]
      rfl
    rw [e]
    exact fl2
set_option maxHeartbeats 25600000 in
set_option maxRecDepth 100000 in
theorem alive16_any (w : World) (hT : Tab w) : Calls Tryd.prog 61 #[] w fun e w' => e = .returned (.bool true) ∧ Below w.heap.size w w' := by
  have a_ : Amid w w := ⟨Below.refl _ _, hT⟩
  obtain ⟨r, hr⟩ : ∃ r : Dn, r = ⟨false, 1, 1⟩ := ⟨_, rfl⟩
  obtain ⟨q, hq⟩ : ∃ q : Dn, q = ⟨true, 1, 1⟩ := ⟨_, rfl⟩
  have HR := Lib.hid hr
  have HQ := Lib.hid hq
  clear hr hq
  go_enter Tryd.func61, Tryd.ntmps61
  go_wp2_with fail
  refine (of16_any w 1 6 false false 1 6 (by decide) (by decide) (by decide) (by decide) rfl rfl rfl rfl).mono ?_
  rintro e' w_1 ⟨a, rfl, hB, ha, ra⟩
  have lw_1 : w.heap.size ≤ w_1.heap.size := hB.size
  replace a_ := Amid.on a_ hB
  have Ra := MRows.more ra (Nat.zero_le _) (Nat.le_refl _)
  clear ra
  replace ha := Lib.hid ha
  
  clear hB
  go_wp2_with fail
  refine (of16_any w_1 0 2 false false 0 2 (by decide) (by decide) (by decide) (by decide) rfl rfl rfl rfl).mono ?_
  rintro e' w_2 ⟨b, rfl, hB, hb, rb⟩
  have lw_2 : w_1.heap.size ≤ w_2.heap.size := hB.size
  replace Ra := MRows.on Ra hB
  replace a_ := Amid.on a_ hB
  have Rb := MRows.more rb (Nat.zero_le _) (Nat.le_refl _)
  clear rb
  replace hb := Lib.hid hb
  
  clear hB
  obtain ⟨mR, lR, hmt, hmR, hlR⟩ := meet_of ha.out hb.out (ofR_may (small false 1 (by decide) (by decide)) (small false 6 (by decide) (by decide))) (ofR_may zero_may (small false 2 (by decide) (by decide))) md1 md2
  have HMT := Lib.hid hmt
  replace hmR := Lib.hid hmR
  replace hlR := Lib.hid hlR
  clear hmt
  go_wp2_with fail
  refine (Meet_num w_2 a b Ra Rb a_.tab mR lR 0 HMT.out).mono ?_
  rintro e' w_3 ⟨m, d, rfl, hB, hm, hd, B1, lb1, lb2, rm, rd⟩
  have lw_3 : w_2.heap.size ≤ w_3.heap.size := hB.size
  replace Ra := MRows.on Ra hB
  replace Rb := MRows.on Rb hB
  replace a_ := Amid.on a_ hB
  have Rm := MRows.more rm (Nat.zero_le _) lb2
  have Rd := MRows.more rd (Nat.zero_le _) (Nat.le_refl _)
  clear rm rd lb1 lb2
  replace hm := Lib.hid hm
  replace hd := Lib.hid hd
  clear hB
  generalize hww_4 : (w_3.alloc (.cells #[.bool m.S.s, .slice m.S.A m.S.n m.S.c, .int .i64 m.S.e, .bool m.W.s, .slice m.W.A m.W.n m.W.c, .int .i64 m.W.e, .bool m.C.s, .slice m.C.A m.C.n m.C.c, .int .i64 m.C.e, .bool m.A.s, .slice m.A.A m.A.n m.A.c, .int .i64 m.A.e] 39)).alloc (.cells #[.bool d.S.s, .slice d.S.A d.S.n d.S.c, .int .i64 d.S.e, .bool d.W.s, .slice d.W.A d.W.n d.W.c, .int .i64 d.W.e, .bool d.C.s, .slice d.C.A d.C.n d.C.c, .int .i64 d.C.e, .bool d.A.s, .slice d.A.A d.A.n d.A.c, .int .i64 d.A.e] 39) = w_4 at *
  obtain ⟨hMm, hMd, hB, low_4, hiw_4⟩ := boxes2 w_3 _ _ hww_4
  replace hB : Below w_3.heap.size w_3 w_4 := hB
  have lw_4 : w_3.heap.size ≤ w_4.heap.size := hB.size
  replace Rm := MRows.on Rm hB
  replace Rd := MRows.on Rd hB
  replace a_ := Amid.on a_ hB
  replace hMm : MBox w_4 w_3.heap.size m := hMm
  replace hMd : MBox w_4 (w_3.heap.size + 1) d := hMd
  clear hB
  go_wp2_with fail
  refine (of16_any w_4 0 6 false false 0 6 (by decide) (by decide) (by decide) (by decide) rfl rfl rfl rfl).mono ?_
  rintro e' w_5 ⟨u, rfl, hB, hu, ru⟩
  have lw_5 : w_4.heap.size ≤ w_5.heap.size := hB.size
  replace hMm := box_on hMm hB (by omega)
  replace hMd := box_on hMd hB (by omega)
  replace Rm := MRows.on Rm hB
  replace Rd := MRows.on Rd hB
  replace a_ := Amid.on a_ hB
  have Ru := MRows.more ru (Nat.zero_le _) (Nat.le_refl _)
  clear ru
  replace hu := Lib.hid hu
  try clear hww_4
  clear hB
  go_wp2_with fail
  refine (of16_any w_5 0 2 false false 0 2 (by decide) (by decide) (by decide) (by decide) rfl rfl rfl rfl).mono ?_
  rintro e' w_6 ⟨v, rfl, hB, hv, rv⟩
  have lw_6 : w_5.heap.size ≤ w_6.heap.size := hB.size
  replace hMm := box_on hMm hB (by omega)
  replace hMd := box_on hMd hB (by omega)
  replace Rm := MRows.on Rm hB
  replace Rd := MRows.on Rd hB
  replace Ru := MRows.on Ru hB
  replace a_ := Amid.on a_ hB
  have Rv := MRows.more rv (Nat.zero_le _) (Nat.le_refl _)
  clear rv
  replace hv := Lib.hid hv
  
  clear hB
  go_wp2_with fail
  refine (of16_any w_6 0 3 false false 0 3 (by decide) (by decide) (by decide) (by decide) rfl rfl rfl rfl).mono ?_
  rintro e' w_7 ⟨x, rfl, hB, hx, rx⟩
  have lw_7 : w_6.heap.size ≤ w_7.heap.size := hB.size
  replace hMm := box_on hMm hB (by omega)
  replace hMd := box_on hMd hB (by omega)
  replace Rm := MRows.on Rm hB
  replace Rd := MRows.on Rd hB
  replace Ru := MRows.on Ru hB
  replace Rv := MRows.on Rv hB
  replace a_ := Amid.on a_ hB
  have Rx := MRows.more rx (Nat.zero_le _) (Nat.le_refl _)
  clear rx
  replace hx := Lib.hid hx
  
  clear hB
  go_wp2_with fail
  generalize hww_8 : w_7.alloc (.cells #[.bool u.S.s, .slice u.S.A u.S.n u.S.c, .int .i64 u.S.e, .bool u.W.s, .slice u.W.A u.W.n u.W.c, .int .i64 u.W.e, .bool u.C.s, .slice u.C.A u.C.n u.C.c, .int .i64 u.C.e, .bool u.A.s, .slice u.A.A u.A.n u.A.c, .int .i64 u.A.e, .bool v.S.s, .slice v.S.A v.S.n v.S.c, .int .i64 v.S.e, .bool v.W.s, .slice v.W.A v.W.n v.W.c, .int .i64 v.W.e, .bool v.C.s, .slice v.C.A v.C.n v.C.c, .int .i64 v.C.e, .bool v.A.s, .slice v.A.A v.A.n v.A.c, .int .i64 v.A.e, .bool x.S.s, .slice x.S.A x.S.n x.S.c, .int .i64 x.S.e, .bool x.W.s, .slice x.W.A x.W.n x.W.c, .int .i64 x.W.e, .bool x.C.s, .slice x.C.A x.C.n x.C.c, .int .i64 x.C.e, .bool x.A.s, .slice x.A.A x.A.n x.A.c, .int .i64 x.A.e] 39) = w_8 at *
  have hLL := lms_three3 w_7 u v x Ru Rv Rx hww_8
  have hB : Below w_7.heap.size w_7 w_8 := by rw [← hww_8]; exact (Below.refl _ _).alloc (Nat.le_refl _) _
  have lw_8 : w_7.heap.size ≤ w_8.heap.size := hB.size
  replace hMm := box_on hMm hB (by omega)
  replace hMd := box_on hMd hB (by omega)
  replace Rm := MRows.on Rm hB
  replace Rd := MRows.on Rd hB
  replace Ru := MRows.on Ru hB
  replace Rv := MRows.on Rv hB
  replace Rx := MRows.on Rx hB
  replace a_ := Amid.on a_ hB
  clear hB
  refine (Far_num w_8 _ 3 3 [u, v, x] hLL (by decide) a_.tab Dn.zero ⟨false, 4, 0⟩ 0 (alive_far hu.out hv.out hx.out)).mono ?_
  rintro e' w_9 ⟨X, Y, rfl, hB, hX, hY, B2, lb1, lb2, iX, iY⟩
  have lw_9 : w_8.heap.size ≤ w_9.heap.size := hB.size
  replace hMm := box_on hMm hB (by omega)
  replace hMd := box_on hMd hB (by omega)
  replace Rm := MRows.on Rm hB
  replace Rd := MRows.on Rd hB
  replace Ru := MRows.on Ru hB
  replace Rv := MRows.on Rv hB
  replace Rx := MRows.on Rx hB
  replace a_ := Amid.on a_ hB
  try clear hww_8
  clear hLL
  have IY : Ints w_9 0 w_9.heap.size .u32 Y.A Y.n Y.xs := iY.more (Nat.zero_le _) (Nat.le_refl _)
  clear iX iY hX lb1 lb2
  replace hY := Lib.hid hY
  clear hB
  go_wp2_with fail
  generalize hww_10 : (w_9.alloc (.cells #[.bool X.s, .slice X.A X.n X.c, .int .i64 X.e] 24)).alloc (.cells #[.bool Y.s, .slice Y.A Y.n Y.c, .int .i64 Y.e] 24) = w_10 at *
  obtain ⟨_, hDY, hB, low_10, hiw_10⟩ := boxes2 w_9 _ _ hww_10
  replace hB : Below w_9.heap.size w_9 w_10 := hB
  replace hDY : w_10.heap[w_9.heap.size + 1]? = some (.cells #[.bool Y.s, .slice Y.A Y.n Y.c, .int .i64 Y.e] 24 (0, 0)) := hDY
  have lw_10 : w_9.heap.size ≤ w_10.heap.size := hB.size
  replace hMm := box_on hMm hB (by omega)
  replace hMd := box_on hMd hB (by omega)
  replace Rm := MRows.on Rm hB
  replace Rd := MRows.on Rd hB
  replace IY := ints_on IY hB
  replace a_ := Amid.on a_ hB
  clear hB
  try clear hww_10
  refine region_E (Keeps w_10) [] (m := 26) (L := #[false, false, false, false, false, false, false, false, false, false, false, false, false, false, false, false, false, false, false, false, false, false, false, false, false, false]) (by kernel_rfl) (by rfl) (by rfl) ?_
  have kp_ : Keeps w_10 w_10.drew := fun _ _ => rfl
  have hB : Below w_10.heap.size w_10 w_10.drew := (Below.refl _ _).drew
  replace Rm : MRows w_10.drew 0 w_10.drew.heap.size _ := MRows.on Rm hB
  replace Rd : MRows w_10.drew 0 w_10.drew.heap.size _ := MRows.on Rd hB
  replace IY : Ints w_10.drew 0 w_10.drew.heap.size .u32 _ _ _ := ints_on IY hB
  replace a_ := Amid.on a_ hB
  have lw_11 : w_10.heap.size ≤ w_10.drew.heap.size := hB.size
  clear hB
  generalize w_10.drew = w_11 at *
  refine pureE (i := 0) (L := #[true, false, false, false, false, false, false, false, false, false, false, false, false, false, false, false, false, false, false, false, false, false, false, false, false, false]) (v := ?_) rfl (by rfl) (by kernel_rfl) (by kernel_rfl) (by kernel_rfl) (fun _ _ _ h => h) (by rfl) ?hy1 ?rest1
  case hy1 => intro w; go_simp; (try with_reducible rfl)
  try simp only [Act.put, List.setIfInBounds_toArray, List.set_cons_zero, List.set_cons_succ]
  refine pureE (i := 1) (L := #[true, true, false, false, false, false, false, false, false, false, false, false, false, false, false, false, false, false, false, false, false, false, false, false, false, false]) (v := ?_) rfl (by rfl) (by kernel_rfl) (by kernel_rfl) (by kernel_rfl) (fun _ _ _ h => h) (by rfl) ?hy2 ?rest2
  case hy2 => intro w; go_simp; (try with_reducible rfl)
  try simp only [Act.put, List.setIfInBounds_toArray, List.set_cons_zero, List.set_cons_succ]
  refine pureE (i := 2) (L := #[true, true, true, false, false, false, false, false, false, false, false, false, false, false, false, false, false, false, false, false, false, false, false, false, false, false]) (v := ?_) rfl (by rfl) (by kernel_rfl) (by kernel_rfl) (by kernel_rfl) (fun _ _ _ h => h) (by rfl) ?hy3 ?rest3
  case hy3 => intro w; go_simp; (try with_reducible rfl)
  try simp only [Act.put, List.setIfInBounds_toArray, List.set_cons_zero, List.set_cons_succ]
  refine readE (i := 3) (L := #[true, true, true, true, false, false, false, false, false, false, false, false, false, false, false, false, false, false, false, false, false, false, false, false, false, false]) (v := .agg #[.bool m.S.s, .slice m.S.A m.S.n m.S.c, .int .i64 m.S.e, .bool m.W.s, .slice m.W.A m.W.n m.W.c, .int .i64 m.W.e, .bool m.C.s, .slice m.C.A m.C.n m.C.c, .int .i64 m.C.e, .bool m.A.s, .slice m.A.A m.A.n m.A.c, .int .i64 m.A.e]) rfl (by rfl) (by kernel_rfl) (by kernel_rfl) (by kernel_rfl) (fun _ _ _ h => h) (by assumption) (by rfl) ?yr_12 ?zr_12
  case yr_12 =>
    intro w' h1
    obtain ⟨⟨k0, k1, k2, k3, k4, k5, k6, k7, k8, k9, k10, k11⟩, kf⟩ := MBox.cells ((h1 _ (by omega)).trans hMm)
    go_simp
  try simp only [Act.put, List.setIfInBounds_toArray, List.set_cons_zero, List.set_cons_succ]
  refine stepK (i := 4) (L := #[true, true, true, true, true, false, false, false, false, false, false, false, false, false, false, false, false, false, false, false, false, false, false, false, false, false]) rfl (by rfl) (by kernel_rfl) (by rfl) (fun K hK => ?_)
  go_simp
  go_at_call 60
  refine (half16_any w_11 false r HR.out).mono ?_
  rintro e' w_13 ⟨Ah, nh, ch, rfl, hB, hI⟩
  replace kp_ := Keeps.on kp_ (by omega) hB
  have lw_13 : w_11.heap.size ≤ w_13.heap.size := hB.size
  replace Rm := MRows.on Rm hB
  replace Rd := MRows.on Rd hB
  replace IY := ints_on IY hB
  replace a_ := Amid.on a_ hB
  have ih := ints_all hI
  clear hI
  clear hB
  refine hK _ _ ⟨fun _ _ => kp_, ?_⟩
  clear hK K
  try simp only [Act.put, List.setIfInBounds_toArray, List.set_cons_zero, List.set_cons_succ]
  refine stepK (i := 5) (L := #[true, true, true, true, true, true, false, false, false, false, false, false, false, false, false, false, false, false, false, false, false, false, false, false, false, false]) rfl (by rfl) (by kernel_rfl) (by rfl) (fun K hK => ?_)
  go_simp
  go_at_call 38
  refine (Of_any w_13 (4) (by decide) (by decide) false 4 rfl rfl).mono ?_
  rintro e' w_14 ⟨Ao, no, rfl, hB, hI⟩
  replace kp_ := Keeps.on kp_ (by omega) hB
  have lw_14 : w_13.heap.size ≤ w_14.heap.size := hB.size
  replace Rm := MRows.on Rm hB
  replace Rd := MRows.on Rd hB
  replace IY := ints_on IY hB
  replace ih := ints_on ih hB
  replace a_ := Amid.on a_ hB
  have io := ints_all hI
  clear hI
  clear hB
  refine hK _ _ ⟨fun _ _ => kp_, ?_⟩
  clear hK K
  try simp only [Act.put, List.setIfInBounds_toArray, List.set_cons_zero, List.set_cons_succ]
  refine pureE (i := 6) (L := #[true, true, true, true, true, true, true, false, false, false, false, false, false, false, false, false, false, false, false, false, false, false, false, false, false, false]) (v := ?_) rfl (by rfl) (by kernel_rfl) (by kernel_rfl) (by kernel_rfl) (fun _ _ _ h => h) (by rfl) ?hy7 ?rest7
  case hy7 => intro w; go_simp; (try with_reducible rfl)
  try simp only [Act.put, List.setIfInBounds_toArray, List.set_cons_zero, List.set_cons_succ]
  refine stepK (i := 7) (L := #[true, true, true, true, true, true, true, true, false, false, false, false, false, false, false, false, false, false, false, false, false, false, false, false, false, false]) rfl (by rfl) (by kernel_rfl) (by rfl) (fun K hK => ?_)
  go_simp
  go_at_call 50
  refine (MSame_any w_14 m ⟨⟨false, none, 0, 0, 0, []⟩, ⟨false, none, 0, 0, 0, []⟩, ⟨r.neg, Ah, nh, ch, r.e, canon 4294967296 r.m⟩, ⟨false, Ao, no, no, 0, canon 4294967296 4⟩⟩ Rm ⟨(Ints.nil_ ..), (Ints.nil_ ..), ih, io⟩ true (hm.out.same (four (by rw [hmR.out.1]; exact Is.zero) (by rw [hmR.out.2.1]; exact Is.zero) (by show Is _ _; rw [hmR.out.2.2.1, ← HR.out]; exact ⟨rfl, rfl, rfl⟩) (by show Is _ _; rw [hmR.out.2.2.2]; exact ⟨rfl, rfl, rfl⟩)))).mono ?_
  rintro e' w_15 ⟨rfl, hB⟩
  replace kp_ := Keeps.on kp_ (by omega) hB
  have lw_15 : w_14.heap.size ≤ w_15.heap.size := hB.size
  replace Rm := MRows.on Rm hB
  replace Rd := MRows.on Rd hB
  replace IY := ints_on IY hB
  replace ih := ints_on ih hB
  replace io := ints_on io hB
  replace a_ := Amid.on a_ hB
  clear hB
  refine hK _ _ ⟨fun _ _ => kp_, ?_⟩
  clear hK K
  try simp only [Act.put, List.setIfInBounds_toArray, List.set_cons_zero, List.set_cons_succ]
  refine pureE (i := 8) (L := #[true, true, true, true, true, true, true, true, true, false, false, false, false, false, false, false, false, false, false, false, false, false, false, false, false, false]) (v := ?_) rfl (by rfl) (by kernel_rfl) (by kernel_rfl) (by kernel_rfl) (fun _ _ _ h => h) (by rfl) ?hy9 ?rest9
  case hy9 => intro w; go_simp; (try with_reducible rfl)
  try simp only [Act.put, List.setIfInBounds_toArray, List.set_cons_zero, List.set_cons_succ]
  refine pureE (i := 9) (L := #[true, true, true, true, true, true, true, true, true, true, false, false, false, false, false, false, false, false, false, false, false, false, false, false, false, false]) (v := ?_) rfl (by rfl) (by kernel_rfl) (by kernel_rfl) (by kernel_rfl) (fun _ _ _ h => h) (by rfl) ?hy10 ?rest10
  case hy10 => intro w; go_simp; (try with_reducible rfl)
  try simp only [Act.put, List.setIfInBounds_toArray, List.set_cons_zero, List.set_cons_succ]
  refine readE (i := 10) (L := #[true, true, true, true, true, true, true, true, true, true, true, false, false, false, false, false, false, false, false, false, false, false, false, false, false, false]) (v := .agg #[.bool d.S.s, .slice d.S.A d.S.n d.S.c, .int .i64 d.S.e, .bool d.W.s, .slice d.W.A d.W.n d.W.c, .int .i64 d.W.e, .bool d.C.s, .slice d.C.A d.C.n d.C.c, .int .i64 d.C.e, .bool d.A.s, .slice d.A.A d.A.n d.A.c, .int .i64 d.A.e]) rfl (by rfl) (by kernel_rfl) (by kernel_rfl) (by kernel_rfl) (fun _ _ _ h => h) (by assumption) (by rfl) ?yr_16 ?zr_16
  case yr_16 =>
    intro w' h1
    obtain ⟨⟨k0, k1, k2, k3, k4, k5, k6, k7, k8, k9, k10, k11⟩, kf⟩ := MBox.cells ((h1 _ (by omega)).trans hMd)
    go_simp
  try simp only [Act.put, List.setIfInBounds_toArray, List.set_cons_zero, List.set_cons_succ]
  refine stepK (i := 11) (L := #[true, true, true, true, true, true, true, true, true, true, true, true, false, false, false, false, false, false, false, false, false, false, false, false, false, false]) rfl (by rfl) (by kernel_rfl) (by rfl) (fun K hK => ?_)
  go_simp
  go_at_call 60
  refine (half16_any w_15 true q HQ.out).mono ?_
  rintro e' w_17 ⟨Ak, nk, ck, rfl, hB, hI⟩
  replace kp_ := Keeps.on kp_ (by omega) hB
  have lw_17 : w_15.heap.size ≤ w_17.heap.size := hB.size
  replace Rm := MRows.on Rm hB
  replace Rd := MRows.on Rd hB
  replace IY := ints_on IY hB
  replace ih := ints_on ih hB
  replace io := ints_on io hB
  replace a_ := Amid.on a_ hB
  have ik := ints_all hI
  clear hI
  clear hB
  refine hK _ _ ⟨fun _ _ => kp_, ?_⟩
  clear hK K
  try simp only [Act.put, List.setIfInBounds_toArray, List.set_cons_zero, List.set_cons_succ]
  refine stepK (i := 12) (L := #[true, true, true, true, true, true, true, true, true, true, true, true, true, false, false, false, false, false, false, false, false, false, false, false, false, false]) rfl (by rfl) (by kernel_rfl) (by rfl) (fun K hK => ?_)
  go_simp
  go_at_call 38
  refine (Of_any w_17 (-2) (by decide) (by decide) true 2 rfl rfl).mono ?_
  rintro e' w_18 ⟨Al, nl, rfl, hB, hI⟩
  replace kp_ := Keeps.on kp_ (by omega) hB
  have lw_18 : w_17.heap.size ≤ w_18.heap.size := hB.size
  replace Rm := MRows.on Rm hB
  replace Rd := MRows.on Rd hB
  replace IY := ints_on IY hB
  replace ih := ints_on ih hB
  replace io := ints_on io hB
  replace ik := ints_on ik hB
  replace a_ := Amid.on a_ hB
  have il := ints_all hI
  clear hI
  clear hB
  refine hK _ _ ⟨fun _ _ => kp_, ?_⟩
  clear hK K
  try simp only [Act.put, List.setIfInBounds_toArray, List.set_cons_zero, List.set_cons_succ]
  refine pureE (i := 13) (L := #[true, true, true, true, true, true, true, true, true, true, true, true, true, true, false, false, false, false, false, false, false, false, false, false, false, false]) (v := ?_) rfl (by rfl) (by kernel_rfl) (by kernel_rfl) (by kernel_rfl) (fun _ _ _ h => h) (by rfl) ?hy14 ?rest14
  case hy14 => intro w; go_simp; (try with_reducible rfl)
  try simp only [Act.put, List.setIfInBounds_toArray, List.set_cons_zero, List.set_cons_succ]
  refine stepK (i := 14) (L := #[true, true, true, true, true, true, true, true, true, true, true, true, true, true, true, false, false, false, false, false, false, false, false, false, false, false]) rfl (by rfl) (by kernel_rfl) (by rfl) (fun K hK => ?_)
  go_simp
  go_at_call 50
  refine (MSame_any w_18 d ⟨⟨false, none, 0, 0, 0, []⟩, ⟨false, none, 0, 0, 0, []⟩, ⟨q.neg, Ak, nk, ck, q.e, canon 4294967296 q.m⟩, ⟨true, Al, nl, nl, 0, canon 4294967296 2⟩⟩ Rd ⟨(Ints.nil_ ..), (Ints.nil_ ..), ik, il⟩ true (hd.out.same (four (by rw [hlR.out.1]; exact Is.zero) (by rw [hlR.out.2.1]; exact Is.zero) (by show Is _ _; rw [hlR.out.2.2.1, ← HQ.out]; exact ⟨rfl, rfl, rfl⟩) (by show Is _ _; rw [hlR.out.2.2.2]; exact ⟨rfl, rfl, rfl⟩)))).mono ?_
  rintro e' w_19 ⟨rfl, hB⟩
  replace kp_ := Keeps.on kp_ (by omega) hB
  have lw_19 : w_18.heap.size ≤ w_19.heap.size := hB.size
  replace Rm := MRows.on Rm hB
  replace Rd := MRows.on Rd hB
  replace IY := ints_on IY hB
  replace ih := ints_on ih hB
  replace io := ints_on io hB
  replace ik := ints_on ik hB
  replace il := ints_on il hB
  replace a_ := Amid.on a_ hB
  clear hB
  refine hK _ _ ⟨fun _ _ => kp_, ?_⟩
  clear hK K
  try simp only [Act.put, List.setIfInBounds_toArray, List.set_cons_zero, List.set_cons_succ]
  refine pureE (i := 15) (L := #[true, true, true, true, true, true, true, true, true, true, true, true, true, true, true, true, false, false, false, false, false, false, false, false, false, false]) (v := ?_) rfl (by rfl) (by kernel_rfl) (by kernel_rfl) (by kernel_rfl) (fun _ _ _ h => h) (by rfl) ?hy16 ?rest16
  case hy16 => intro w; go_simp; (try with_reducible rfl)
  try simp only [Act.put, List.setIfInBounds_toArray, List.set_cons_zero, List.set_cons_succ]
  refine pureE (i := 16) (L := #[true, true, true, true, true, true, true, true, true, true, true, true, true, true, true, true, true, false, false, false, false, false, false, false, false, false]) (v := ?_) rfl (by rfl) (by kernel_rfl) (by kernel_rfl) (by kernel_rfl) (fun _ _ _ h => h) (by rfl) ?hy17 ?rest17
  case hy17 => intro w; go_simp; (try with_reducible rfl)
  try simp only [Act.put, List.setIfInBounds_toArray, List.set_cons_zero, List.set_cons_succ]
  refine pureE (i := 17) (L := #[true, true, true, true, true, true, true, true, true, true, true, true, true, true, true, true, true, true, false, false, false, false, false, false, false, false]) (v := ?_) rfl (by rfl) (by kernel_rfl) (by kernel_rfl) (by kernel_rfl) (fun _ _ _ h => h) (by rfl) ?hy18 ?rest18
  case hy18 => intro w; go_simp; (try with_reducible rfl)
  try simp only [Act.put, List.setIfInBounds_toArray, List.set_cons_zero, List.set_cons_succ]
  refine pureE (i := 18) (L := #[true, true, true, true, true, true, true, true, true, true, true, true, true, true, true, true, true, true, true, false, false, false, false, false, false, false]) (v := ?_) rfl (by rfl) (by kernel_rfl) (by kernel_rfl) (by kernel_rfl) (fun _ _ _ h => h) (by rfl) ?hy19 ?rest19
  case hy19 => intro w; go_simp; (try with_reducible rfl)
  try simp only [Act.put, List.setIfInBounds_toArray, List.set_cons_zero, List.set_cons_succ]
  refine pureE (i := 19) (L := #[true, true, true, true, true, true, true, true, true, true, true, true, true, true, true, true, true, true, true, true, false, false, false, false, false, false]) (v := ?_) rfl (by rfl) (by kernel_rfl) (by kernel_rfl) (by kernel_rfl) (fun _ _ _ h => h) (by rfl) ?hy20 ?rest20
  case hy20 => intro w; go_simp; (try with_reducible rfl)
  try simp only [Act.put, List.setIfInBounds_toArray, List.set_cons_zero, List.set_cons_succ]
  refine pureE (i := 20) (L := #[true, true, true, true, true, true, true, true, true, true, true, true, true, true, true, true, true, true, true, true, true, false, false, false, false, false]) (v := ?_) rfl (by rfl) (by kernel_rfl) (by kernel_rfl) (by kernel_rfl) (fun _ _ _ h => h) (by rfl) ?hy21 ?rest21
  case hy21 => intro w; go_simp; (try with_reducible rfl)
  try simp only [Act.put, List.setIfInBounds_toArray, List.set_cons_zero, List.set_cons_succ]
  refine readE (i := 21) (L := #[true, true, true, true, true, true, true, true, true, true, true, true, true, true, true, true, true, true, true, true, true, true, false, false, false, false]) (v := .agg #[.bool Y.s, .slice Y.A Y.n Y.c, .int .i64 Y.e]) rfl (by rfl) (by kernel_rfl) (by kernel_rfl) (by kernel_rfl) (fun _ _ _ h => h) (by assumption) (by rfl) ?yD ?zD
  case yD =>
    intro w' h1
    obtain ⟨⟨e0, e1, e2⟩, _⟩ := boxD ((h1 _ (lt_of_heap hDY)).trans hDY)
    go_simp
  try simp only [Act.put, List.setIfInBounds_toArray, List.set_cons_zero, List.set_cons_succ]
  refine stepK (i := 22) (L := #[true, true, true, true, true, true, true, true, true, true, true, true, true, true, true, true, true, true, true, true, true, true, true, false, false, false]) rfl (by rfl) (by kernel_rfl) (by rfl) (fun K hK => ?_)
  go_simp
  go_at_call 38
  refine (Of_any w_19 (4) (by decide) (by decide) false 4 rfl rfl).mono ?_
  rintro e' w_20 ⟨Ap, np, rfl, hB, hI⟩
  replace kp_ := Keeps.on kp_ (by omega) hB
  have lw_20 : w_19.heap.size ≤ w_20.heap.size := hB.size
  replace Rm := MRows.on Rm hB
  replace Rd := MRows.on Rd hB
  replace IY := ints_on IY hB
  replace ih := ints_on ih hB
  replace io := ints_on io hB
  replace ik := ints_on ik hB
  replace il := ints_on il hB
  replace a_ := Amid.on a_ hB
  have ip := ints_all hI
  clear hI
  clear hB
  refine hK _ _ ⟨fun _ _ => kp_, ?_⟩
  clear hK K
  try simp only [Act.put, List.setIfInBounds_toArray, List.set_cons_zero, List.set_cons_succ]
  refine stepK (i := 23) (L := #[true, true, true, true, true, true, true, true, true, true, true, true, true, true, true, true, true, true, true, true, true, true, true, true, false, false]) rfl (by rfl) (by kernel_rfl) (by rfl) (fun K hK => ?_)
  go_simp
  go_at_call 36
  refine (Pa.dyadSame_any w_20 Y.s false Y.A Ap Y.n Y.c np np Y.xs (canon 4294967296 4) Y.e 0 IY ip true (hY.out.same (d' := ⟨false, Ap, np, np, 0, canon 4294967296 4⟩) ⟨rfl, rfl, rfl⟩)).mono ?_
  rintro e' w_21 ⟨rfl, hB⟩
  replace kp_ := Keeps.on kp_ (by omega) hB
  have lw_21 : w_20.heap.size ≤ w_21.heap.size := hB.size
  replace Rm := MRows.on Rm hB
  replace Rd := MRows.on Rd hB
  replace IY := ints_on IY hB
  replace ih := ints_on ih hB
  replace io := ints_on io hB
  replace ik := ints_on ik hB
  replace il := ints_on il hB
  replace ip := ints_on ip hB
  replace a_ := Amid.on a_ hB
  clear hB
  refine hK _ _ ⟨fun _ _ => kp_, ?_⟩
  clear hK K
  try simp only [Act.put, List.setIfInBounds_toArray, List.set_cons_zero, List.set_cons_succ]
  refine pureE (i := 24) (L := #[true, true, true, true, true, true, true, true, true, true, true, true, true, true, true, true, true, true, true, true, true, true, true, true, true, false]) (v := ?_) rfl (by rfl) (by kernel_rfl) (by kernel_rfl) (by kernel_rfl) (fun _ _ _ h => h) (by rfl) ?hy25 ?rest25
  case hy25 => intro w; go_simp; (try with_reducible rfl)
  try simp only [Act.put, List.setIfInBounds_toArray, List.set_cons_zero, List.set_cons_succ]
  refine pureE (i := 25) (L := #[true, true, true, true, true, true, true, true, true, true, true, true, true, true, true, true, true, true, true, true, true, true, true, true, true, true]) (v := ?_) rfl (by rfl) (by kernel_rfl) (by kernel_rfl) (by kernel_rfl) (fun _ _ _ h => h) (by rfl) ?hy26 ?rest26
  case hy26 => intro w; go_simp; (try with_reducible rfl)
  try simp only [Act.put, List.setIfInBounds_toArray, List.set_cons_zero, List.set_cons_succ]
  refine doneE (by kernel_rfl) ?_ _
  go_wp2
  go_ret
  exact ⟨rfl, a_.below⟩
end Ma
end Go.Proofs.YtlbkepiflhchdaaDoor
namespace Go.Proofs.YtlbkepiflhchdaaDoor
open Go.RowKit
namespace Ma
open Dp Dy
/-- What stands amid meetings, but for memory. -/
def NevI (n j : Nat) (os0 os : List Mv) (c a : Dn) (X Y : Dv) (gC gA : Nat) (gO : Option Nat) : Prop :=
  Inv (200 + j) os ∧ (∀ x, x < 4 → sumV x os = sumV x os0) ∧ (0 < n → farM os = ((c, a), 0)) ∧ (c.May ∧ a.May ∧ Is c X ∧ Is a Y) ∧ (∀ m ∈ os, m.off (some gC) ∧ m.off (some gA)) ∧ (X.off (some gC) ∧ X.off (some gA) ∧ Y.off (some gC) ∧ Y.off (some gA)) ∧ (X.off gO ∧ Y.off gO)
theorem dv_offO {w : World} {lo hi : Nat} {d : Dv} (h : Ints w lo hi .u32 d.A d.n d.xs) {g : Option Nat} (hg : ∀ k, g = some k → k < lo ∨ hi ≤ k) : d.off g := by
  rcases g with _ | k
  · exact fun _ _ _ h => by cases h
  · exact dv_off h (hg k rfl)
theorem NevI.next {n j : Nat} {os0 os : List Mv} {c a : Dn} {X Y : Dv} {gC gA : Nat} {gO : Option Nat} (h : NevI n j os0 os c a X Y gC gA gO) : NevI n (j + 1) os0 os c a X Y gC gA gO := ⟨h.1.more (by omega), h.2⟩
def loopsOf : Code → List Code
  | .loop c => [c]
  | .seq a b => loopsOf a ++ loopsOf b
  | .block _ c => loopsOf c
  | .scope c => loopsOf c
  | .cond _ a b => loopsOf a ++ loopsOf b
  | _ => []
def regionAt (n : Nat) : Code → Option Code
  | .region id ops d => if id = n then some (.region id ops d) else none
  | .seq a b => match regionAt n a with
    | some c => some c
    | none => regionAt n b
  | .loop c => regionAt n c
  | .block _ c => regionAt n c
  | .scope c => regionAt n c
  | .cond _ a b => match regionAt n a with
    | some c => some c
    | none => regionAt n b
  | _ => none
noncomputable def nvLoop : Code := (((Tryd.f17.body.map loopsOf).getD [])[1]?).getD .skip
noncomputable def nvReg (n : Nat) : Code := ((Tryd.f17.body.bind (regionAt n)).getD .skip)
end Ma
end Go.Proofs.YtlbkepiflhchdaaDoor
namespace Go.Proofs.YtlbkepiflhchdaaDoor
open Go.RowKit
namespace Ma
open Dp Dy
set_option maxHeartbeats 51200000 in
set_option maxRecDepth 1000000 in
theorem nev_reg21 (c0 c1 c2 c3 c4 c5 c6 c7 c9 c10 c11 c12 c13 c14 c15 c16 c19 c20 c21 c22 c23 c24 c25 c26 c27 c28 c29 c30 c31 c32 c33 c34 c35 c36 c37 c38 c39 c40 c41 c42 c43 c44 c45 c46 c47 c48 c49 c50 c51 c52 c53 c54 c55 c56 c57 c58 c59 c60 c61 c62 c63 c64 c65 c66 c67 c68 c69 c70 c71 c72 c73 c74 c75 c76 c77 c78 c79 c80 c81 c82 c83 c84 c85 c86 c87 c88 c89 c90 c91 c92 c93 c94 c95 c96 c97 c98 c99 c100 c101 c102 c103 c104 c105 c106 c107 c108 c109 c110 c111 c112 c113 c114 c115 c116 c117 c118 c119 c120 c121 c122 c123 c124 c125 c126 c127 c128 c129 c130 c131 c132 c133 c134 c135 c136 c137 c138 c139 c140 c141 c142 c143 c144 c145 c146 c147 c148 c149 c150 c151 c152 c153 c154 c155 c156 c157 c158 c159 c160 c161 c162 c163 c164 c165 c166 c167 c168 c169 c170 c171 c172 c173 c174 c175 c176 c177 c178 c179 c180 c181 c182 c183 c184 c185 c186 c187 c188 c189 c190 c191 c192 c193 c194 c195 c196 c197 c198 c199 c200 c201 c202 c203 c204 c205 c206 c207 c208 c209 c210 c211 c212 c213 c214 c215 c216 c217 c218 c219 c220 c221 c222 c223 c224 c225 c226 c227 c228 c229 c230 c231 c232 c233 c234 c235 c236 c237 c238 c239 c240 c241 c242 c243 c244 c245 c246 c247 c248 c249 c250 c251 c252 c253 c254 c255 c256 c257 c258 c259 c260 c261 : Value) (E : Exit → Act → World → Prop) (v0 : World) (g o_ i co P Q : Nat) (dP dQ : Mv) (hcP : MCells v0 g (o_ + P * 12) dP) (hcQ : MCells v0 g (o_ + Q * 12) dQ) (RP : MRows v0 0 v0.heap.size dP) (RQ : MRows v0 0 v0.heap.size dQ) (hg2 : g < v0.heap.size) (hPi : P < i) (hQi : Q < i) (hi8 : ¬ 8 < i) (hT : Tab v0) (mR lR : Nat → Dn) (hmt : meetM dP dQ = ((mR, lR), 0))
    (hpan : ∀ {x a a' w}, a.defers = a'.defers → E (.panic x) a w → E (.panic x) a' w) (hE : ∀ (g19 g20 : Nat) (m d : Mv) (y163 y164 y165 y166 y167 y168 y169 y170 y171 y172 y173 y174 y175 : Value) (wx : World), v0.heap.size ≤ g19 → v0.heap.size ≤ g20 → MBox wx g19 m → MBox wx g20 d → Below v0.heap.size v0 wx → IsM mR m → IsM lR d → MRows wx v0.heap.size wx.heap.size m → MRows wx v0.heap.size wx.heap.size d → E .normal ⟨#[c0, c1, c2, c3, c4, c5, c6, c7, (.slice (some ⟨g, o_, none⟩) i co), c9, c10, c11, c12, c13, c14, c15, c16, (.int .i64 (P : Int)), (.int .i64 (Q : Int)), (.pointer (some ⟨g19, 0, none⟩)), (.pointer (some ⟨g20, 0, none⟩)), (.int .i64 0), c22, c23, c24, c25, c26, c27, c28, c29, c30, c31, c32, c33, c34, c35, c36, c37, c38, c39, c40, c41, c42, c43, c44, c45, c46, c47, c48, c49, c50, c51, c52, c53, c54, c55, c56, c57, c58, c59, c60, c61, c62, c63, c64, c65, c66, c67, c68, c69, c70, c71, c72, c73, c74, c75, c76, c77, c78, c79, c80, c81, c82, c83, c84, c85, c86, c87, c88, c89, c90, c91, c92, c93, c94, c95, c96, c97, c98, c99, c100, c101, c102, c103, c104, c105, c106, c107, c108, c109, c110, c111, c112, c113, c114, c115, c116, c117, c118, c119, c120, c121, c122, c123, c124, c125, c126, c127, c128, c129, c130, c131, c132, c133, c134, c135, c136, c137, c138, c139, c140, c141, c142, c143, c144, c145, c146, c147, c148, c149, c150, c151, c152, c153, c154, c155, c156, c157, c158, c159, c160, c161, c162, y163, y164, y165, y166, y167, y168, y169, y170, y171, y172, y173, y174, y175, c176, c177, c178, c179, c180, c181, c182, c183, c184, c185, c186, c187, c188, c189, c190, c191, c192, c193, c194, c195, c196, c197, c198, c199, c200, c201, c202, c203, c204, c205, c206, c207, c208, c209, c210, c211, c212, c213, c214, c215, c216, c217, c218, c219, c220, c221, c222, c223, c224, c225, c226, c227, c228, c229, c230, c231, c232, c233, c234, c235, c236, c237, c238, c239, c240, c241, c242, c243, c244, c245, c246, c247, c248, c249, c250, c251, c252, c253, c254, c255, c256, c257, c258, c259, c260, c261], []⟩ wx) :
    Code.wp Tryd.prog (nvReg 21) E ⟨#[c0, c1, c2, c3, c4, c5, c6, c7, (.slice (some ⟨g, o_, none⟩) i co), c9, c10, c11, c12, c13, c14, c15, c16, (.int .i64 (P : Int)), (.int .i64 (Q : Int)), c19, c20, c21, c22, c23, c24, c25, c26, c27, c28, c29, c30, c31, c32, c33, c34, c35, c36, c37, c38, c39, c40, c41, c42, c43, c44, c45, c46, c47, c48, c49, c50, c51, c52, c53, c54, c55, c56, c57, c58, c59, c60, c61, c62, c63, c64, c65, c66, c67, c68, c69, c70, c71, c72, c73, c74, c75, c76, c77, c78, c79, c80, c81, c82, c83, c84, c85, c86, c87, c88, c89, c90, c91, c92, c93, c94, c95, c96, c97, c98, c99, c100, c101, c102, c103, c104, c105, c106, c107, c108, c109, c110, c111, c112, c113, c114, c115, c116, c117, c118, c119, c120, c121, c122, c123, c124, c125, c126, c127, c128, c129, c130, c131, c132, c133, c134, c135, c136, c137, c138, c139, c140, c141, c142, c143, c144, c145, c146, c147, c148, c149, c150, c151, c152, c153, c154, c155, c156, c157, c158, c159, c160, c161, c162, c163, c164, c165, c166, c167, c168, c169, c170, c171, c172, c173, c174, c175, c176, c177, c178, c179, c180, c181, c182, c183, c184, c185, c186, c187, c188, c189, c190, c191, c192, c193, c194, c195, c196, c197, c198, c199, c200, c201, c202, c203, c204, c205, c206, c207, c208, c209, c210, c211, c212, c213, c214, c215, c216, c217, c218, c219, c220, c221, c222, c223, c224, c225, c226, c227, c228, c229, c230, c231, c232, c233, c234, c235, c236, c237, c238, c239, c240, c241, c242, c243, c244, c245, c246, c247, c248, c249, c250, c251, c252, c253, c254, c255, c256, c257, c258, c259, c260, c261], []⟩ v0 := by
  conv => arg 2; whnf
  skip
  have HMT2 := Lib.hid hmt
  have hcP := Lib.hid hcP
  have hcQ := Lib.hid hcQ
  clear hmt
  have p0 : ¬ (P : Int) < 0 := by omega
  have q0 : ¬ (Q : Int) < 0 := by omega
  refine region_E (Keeps v0) [] (m := 18) (L := #[false, false, false, false, false, false, false, false, false, false, false, false, false, false, false, false, false, false]) (by kernel_rfl) (by rfl) (by rfl) ?_
  have kp_ : Keeps v0 v0.drew := fun _ _ => rfl
  have b_ : Below v0.heap.size v0 v0.drew := (Below.refl _ _).drew
  have ly_1 : v0.heap.size ≤ v0.drew.heap.size := Nat.le_refl _
  replace RP : MRows v0.drew 0 v0.drew.heap.size _ := MRows.on RP b_
  replace RQ : MRows v0.drew 0 v0.drew.heap.size _ := MRows.on RQ b_
  generalize v0.drew = y_1 at *
  refine pureE (i := 0) (L := #[true, false, false, false, false, false, false, false, false, false, false, false, false, false, false, false, false, false]) (v := ?_) rfl (by rfl) (by kernel_rfl) (by kernel_rfl) (by kernel_rfl) (fun _ _ _ h => hpan (by rfl) h) (by rfl) ?hy27 ?rest27
  case hy27 => intro w; go_simp; (try with_reducible rfl)
  try simp only [Act.put, List.setIfInBounds_toArray, List.set_cons_zero, List.set_cons_succ]
  refine pureE (i := 1) (L := #[true, true, false, false, false, false, false, false, false, false, false, false, false, false, false, false, false, false]) (v := ?_) rfl (by rfl) (by kernel_rfl) (by kernel_rfl) (by kernel_rfl) (fun _ _ _ h => hpan (by rfl) h) (by rfl) ?hy28 ?rest28
  case hy28 => intro w; go_simp; (try with_reducible rfl)
  try simp only [Act.put, List.setIfInBounds_toArray, List.set_cons_zero, List.set_cons_succ]
  refine pureE (i := 2) (L := #[true, true, true, false, false, false, false, false, false, false, false, false, false, false, false, false, false, false]) (v := ?_) rfl (by rfl) (by kernel_rfl) (by kernel_rfl) (by kernel_rfl) (fun _ _ _ h => hpan (by rfl) h) (by rfl) ?hy29 ?rest29
  case hy29 => intro w; go_simp; (try with_reducible rfl)
  try simp only [Act.put, List.setIfInBounds_toArray, List.set_cons_zero, List.set_cons_succ]
  refine readE (i := 3) (L := #[true, true, true, true, false, false, false, false, false, false, false, false, false, false, false, false, false, false]) (v := .agg #[.bool dP.S.s, .slice dP.S.A dP.S.n dP.S.c, .int .i64 dP.S.e, .bool dP.W.s, .slice dP.W.A dP.W.n dP.W.c, .int .i64 dP.W.e, .bool dP.C.s, .slice dP.C.A dP.C.n dP.C.c, .int .i64 dP.C.e, .bool dP.A.s, .slice dP.A.A dP.A.n dP.A.c, .int .i64 dP.A.e]) rfl (by rfl) (by kernel_rfl) (by kernel_rfl) (by kernel_rfl) (fun _ _ _ h => hpan (by rfl) h) (by assumption) (by rfl) ?yp1_ ?zp1_
  case yp1_ =>
    intro w' h1
    obtain ⟨k0, k1, k2, k3, k4, k5, k6, k7, k8, k9, k10, k11⟩ := hcP.out.blk (h1 _ (by omega))
    go_simp
  try simp only [Act.put, List.setIfInBounds_toArray, List.set_cons_zero, List.set_cons_succ]
  refine pureE (i := 4) (L := #[true, true, true, true, true, false, false, false, false, false, false, false, false, false, false, false, false, false]) (v := ?_) rfl (by rfl) (by kernel_rfl) (by kernel_rfl) (by kernel_rfl) (fun _ _ _ h => hpan (by rfl) h) (by rfl) ?hy31 ?rest31
  case hy31 => intro w; go_simp; (try with_reducible rfl)
  try simp only [Act.put, List.setIfInBounds_toArray, List.set_cons_zero, List.set_cons_succ]
  refine pureE (i := 5) (L := #[true, true, true, true, true, true, false, false, false, false, false, false, false, false, false, false, false, false]) (v := ?_) rfl (by rfl) (by kernel_rfl) (by kernel_rfl) (by kernel_rfl) (fun _ _ _ h => hpan (by rfl) h) (by rfl) ?hy32 ?rest32
  case hy32 => intro w; go_simp; (try with_reducible rfl)
  try simp only [Act.put, List.setIfInBounds_toArray, List.set_cons_zero, List.set_cons_succ]
  refine pureE (i := 6) (L := #[true, true, true, true, true, true, true, false, false, false, false, false, false, false, false, false, false, false]) (v := ?_) rfl (by rfl) (by kernel_rfl) (by kernel_rfl) (by kernel_rfl) (fun _ _ _ h => hpan (by rfl) h) (by rfl) ?hy33 ?rest33
  case hy33 => intro w; go_simp; (try with_reducible rfl)
  try simp only [Act.put, List.setIfInBounds_toArray, List.set_cons_zero, List.set_cons_succ]
  refine readE (i := 7) (L := #[true, true, true, true, true, true, true, true, false, false, false, false, false, false, false, false, false, false]) (v := .agg #[.bool dQ.S.s, .slice dQ.S.A dQ.S.n dQ.S.c, .int .i64 dQ.S.e, .bool dQ.W.s, .slice dQ.W.A dQ.W.n dQ.W.c, .int .i64 dQ.W.e, .bool dQ.C.s, .slice dQ.C.A dQ.C.n dQ.C.c, .int .i64 dQ.C.e, .bool dQ.A.s, .slice dQ.A.A dQ.A.n dQ.A.c, .int .i64 dQ.A.e]) rfl (by rfl) (by kernel_rfl) (by kernel_rfl) (by kernel_rfl) (fun _ _ _ h => hpan (by rfl) h) (by assumption) (by rfl) ?yq1_ ?zq1_
  case yq1_ =>
    intro w' h1
    obtain ⟨k0, k1, k2, k3, k4, k5, k6, k7, k8, k9, k10, k11⟩ := hcQ.out.blk (h1 _ (by omega))
    go_simp
  try simp only [Act.put, List.setIfInBounds_toArray, List.set_cons_zero, List.set_cons_succ]
  refine stepK3 (i := 8) (j := 13) (k := 14) (Li := #[true, true, true, true, true, true, true, true, true, false, false, false, false, false, false, false, false, false]) (Lj := #[true, true, true, true, true, true, true, true, false, false, false, false, false, true, false, false, false, false]) (Lk := #[true, true, true, true, true, true, true, true, false, false, false, false, false, false, true, false, false, false]) rfl rfl rfl (by rfl) (by rfl) (by rfl) (by kernel_rfl) (by rfl) (by rfl) (by rfl) (fun K hK => ?o_2) (fun K hK => ?o_3) (fun K hK => ?o_4)
  case o_2 =>
    
    go_simp
    go_at_call 43
    refine (Meet_num y_1 dP dQ RP RQ (hT.below b_ hT.lt) mR lR 0 HMT2.out).mono ?_
    rintro e' y_5 ⟨m, d, rfl, hB, im, id_, Bm, lbm1, lbm2, rm, rd⟩
    replace im := Lib.hid im
    replace id_ := Lib.hid id_
    replace kp_ := Keeps.on kp_ (by omega) hB
    replace b_ := b_.trans (hB.mono (by omega))
    have ly_5 : y_1.heap.size ≤ y_5.heap.size := hB.size
    replace RP := RP.on hB
    replace RQ := RQ.on hB
    clear hB
    refine hK _ _ ⟨fun _ _ => kp_, ?_⟩
    clear hK K
    try simp only [Act.put, List.setIfInBounds_toArray, List.set_cons_zero, List.set_cons_succ]
    refine pureE (i := 9) (L := #[true, true, true, true, true, true, true, true, true, true, false, false, false, false, false, false, false, false]) (v := ?_) rfl (by rfl) (by kernel_rfl) (by kernel_rfl) (by kernel_rfl) (fun _ _ _ h => hpan (by rfl) h) (by rfl) ?hy35 ?rest35
    case hy35 => intro w; go_simp; (try with_reducible rfl)
    try simp only [Act.put, List.setIfInBounds_toArray, List.set_cons_zero, List.set_cons_succ]
    refine pureE (i := 10) (L := #[true, true, true, true, true, true, true, true, true, true, true, false, false, false, false, false, false, false]) (v := ?_) rfl (by rfl) (by kernel_rfl) (by kernel_rfl) (by kernel_rfl) (fun _ _ _ h => hpan (by rfl) h) (by rfl) ?hy36 ?rest36
    case hy36 => intro w; go_simp; (try with_reducible rfl)
    try simp only [Act.put, List.setIfInBounds_toArray, List.set_cons_zero, List.set_cons_succ]
    refine pureE (i := 11) (L := #[true, true, true, true, true, true, true, true, true, true, true, true, false, false, false, false, false, false]) (v := ?_) rfl (by rfl) (by kernel_rfl) (by kernel_rfl) (by kernel_rfl) (fun _ _ _ h => hpan (by rfl) h) (by rfl) ?hy37 ?rest37
    case hy37 => intro w; go_simp; (try with_reducible rfl)
    try simp only [Act.put, List.setIfInBounds_toArray, List.set_cons_zero, List.set_cons_succ]
    refine pureE (i := 12) (L := #[true, true, true, true, true, true, true, true, true, true, true, true, true, false, false, false, false, false]) (v := ?_) rfl (by rfl) (by kernel_rfl) (by kernel_rfl) (by kernel_rfl) (fun _ _ _ h => hpan (by rfl) h) (by rfl) ?hy38 ?rest38
    case hy38 => intro w; go_simp; (try with_reducible rfl)
    try simp only [Act.put, List.setIfInBounds_toArray, List.set_cons_zero, List.set_cons_succ]
    refine stepK2 (i := 13) (j := 14) (Li := #[true, true, true, true, true, true, true, true, true, true, true, true, true, true, false, false, false, false]) (Lj := #[true, true, true, true, true, true, true, true, true, true, true, true, true, false, true, false, false, false]) rfl rfl (by rfl) (by rfl) (by kernel_rfl) (by rfl) (by rfl) (fun K hK => ?o_6) (fun K hK => ?o_7)
    case o_6 =>
      
      go_simp
      obtain ⟨y_8, hw_, hV13, hB, hl_⟩ := alloc_z y_5
      rw [hw_]
      clear hw_
      replace kp_ := Keeps.on kp_ (by omega) hB
      replace b_ := b_.trans (hB.mono (by omega))
      have ly_8 : y_5.heap.size ≤ y_8.heap.size := hB.size
      replace rm := rm.below hB (by omega)
      replace rd := rd.below hB (by omega)
      clear hB
      refine hK _ _ ⟨fun _ _ => kp_, ?_⟩
      clear hK K
      try simp only [Act.put, List.setIfInBounds_toArray, List.set_cons_zero, List.set_cons_succ]
      refine stepK (i := 14) (L := #[true, true, true, true, true, true, true, true, true, true, true, true, true, true, true, false, false, false]) rfl (by rfl) (by kernel_rfl) (by rfl) (fun K hK => ?_)
      go_simp
      obtain ⟨y_9, hw_, hV14, hB, hl_⟩ := alloc_z y_8
      rw [hw_]
      clear hw_
      replace kp_ := Keeps.on kp_ (by omega) hB
      replace b_ := b_.trans (hB.mono (by omega))
      have ly_9 : y_8.heap.size ≤ y_9.heap.size := hB.size
      replace hV13 := box_on hV13 hB (lt_of_heap hV13)
      replace rm := rm.below hB (by omega)
      replace rd := rd.below hB (by omega)
      clear hB
      refine hK _ _ ⟨fun _ _ => kp_, ?_⟩
      clear hK K
      try simp only [Act.put, List.setIfInBounds_toArray, List.set_cons_zero, List.set_cons_succ]
      obtain ⟨⟨z0, z1, z2, z3, z4, z5, z6, z7, z8, z9, z10, z11⟩, zf⟩ := MBox.cells hV13
      obtain ⟨y_10, hw_, n_, hb_, hf_, ly_10, l2y_10⟩ := all_to hV13 m
      refine stepK (i := 15) (L := #[true, true, true, true, true, true, true, true, true, true, true, true, true, true, true, true, false, false]) rfl (by rfl) (by kernel_rfl) (by rfl) (fun K hK => ?_)
      go_simp
      try rw [hw_]
      replace kp_ : Keeps _ y_10 := fun p hp => (hf_ _ (by omega)).trans (kp_ p hp)
      replace b_ := hb_ _ _ b_ (by omega)
      refine hK _ _ ⟨fun _ _ => kp_, ?_⟩
      clear hK K hw_ z0 z1 z2 z3 z4 z5 z6 z7 z8 z9 z10 z11 zf hb_
      try simp only [Act.put, List.setIfInBounds_toArray, List.set_cons_zero, List.set_cons_succ]
      replace hV13 : MBox y_10 _ _ := n_
      replace hV14 : MBox y_10 _ _ := (hf_ _ (by omega)).trans hV14
      replace rm := rows_rng rm (w' := y_10) (fun b h1 h2 => hf_ b (by omega))
      replace rd := rows_rng rd (w' := y_10) (fun b h1 h2 => hf_ b (by omega))
      clear hf_
      obtain ⟨⟨z0, z1, z2, z3, z4, z5, z6, z7, z8, z9, z10, z11⟩, zf⟩ := MBox.cells hV14
      obtain ⟨y_11, hw_, n_, hb_, hf_, ly_11, l2y_11⟩ := all_to hV14 d
      refine stepK (i := 16) (L := #[true, true, true, true, true, true, true, true, true, true, true, true, true, true, true, true, true, false]) rfl (by rfl) (by kernel_rfl) (by rfl) (fun K hK => ?_)
      go_simp
      try rw [hw_]
      replace kp_ : Keeps _ y_11 := fun p hp => (hf_ _ (by omega)).trans (kp_ p hp)
      replace b_ := hb_ _ _ b_ (by omega)
      refine hK _ _ ⟨fun _ _ => kp_, ?_⟩
      clear hK K hw_ z0 z1 z2 z3 z4 z5 z6 z7 z8 z9 z10 z11 zf hb_
      try simp only [Act.put, List.setIfInBounds_toArray, List.set_cons_zero, List.set_cons_succ]
      replace hV13 : MBox y_11 _ _ := (hf_ _ (by omega)).trans hV13
      replace hV14 : MBox y_11 _ _ := n_
      replace rm := rows_rng rm (w' := y_11) (fun b h1 h2 => hf_ b (by omega))
      replace rd := rows_rng rd (w' := y_11) (fun b h1 h2 => hf_ b (by omega))
      clear hf_
      refine pureE (i := 17) (L := #[true, true, true, true, true, true, true, true, true, true, true, true, true, true, true, true, true, true]) (v := ?_) rfl (by rfl) (by kernel_rfl) (by kernel_rfl) (by kernel_rfl) (fun _ _ _ h => hpan (by rfl) h) (by rfl) ?hy42 ?rest42
      case hy42 => intro w; go_simp; (try with_reducible rfl)
      try simp only [Act.put, List.setIfInBounds_toArray, List.set_cons_zero, List.set_cons_succ]
      refine doneE (by kernel_rfl) ?_ _
      exact hE y_5.heap.size y_8.heap.size m d _ _ _ _ _ _ _ _ _ _ _ _ _ _ (by omega) (by omega) hV13 hV14 b_ im.out id_.out (rm.more (by omega) (by omega)) (rd.more (by omega) (by omega))
    case o_7 =>
      
      go_simp
      obtain ⟨y_12, hw_, hV14, hB, hl_⟩ := alloc_z y_5
      rw [hw_]
      clear hw_
      replace kp_ := Keeps.on kp_ (by omega) hB
      replace b_ := b_.trans (hB.mono (by omega))
      have ly_12 : y_5.heap.size ≤ y_12.heap.size := hB.size
      replace rm := rm.below hB (by omega)
      replace rd := rd.below hB (by omega)
      clear hB
      refine hK _ _ ⟨fun _ _ => kp_, ?_⟩
      clear hK K
      try simp only [Act.put, List.setIfInBounds_toArray, List.set_cons_zero, List.set_cons_succ]
      refine stepK (i := 13) (L := #[true, true, true, true, true, true, true, true, true, true, true, true, true, true, true, false, false, false]) rfl (by rfl) (by kernel_rfl) (by rfl) (fun K hK => ?_)
      go_simp
      obtain ⟨y_13, hw_, hV13, hB, hl_⟩ := alloc_z y_12
      rw [hw_]
      clear hw_
      replace kp_ := Keeps.on kp_ (by omega) hB
      replace b_ := b_.trans (hB.mono (by omega))
      have ly_13 : y_12.heap.size ≤ y_13.heap.size := hB.size
      replace hV14 := box_on hV14 hB (lt_of_heap hV14)
      replace rm := rm.below hB (by omega)
      replace rd := rd.below hB (by omega)
      clear hB
      refine hK _ _ ⟨fun _ _ => kp_, ?_⟩
      clear hK K
      try simp only [Act.put, List.setIfInBounds_toArray, List.set_cons_zero, List.set_cons_succ]
      obtain ⟨⟨z0, z1, z2, z3, z4, z5, z6, z7, z8, z9, z10, z11⟩, zf⟩ := MBox.cells hV13
      obtain ⟨y_14, hw_, n_, hb_, hf_, ly_14, l2y_14⟩ := all_to hV13 m
      refine stepK (i := 15) (L := #[true, true, true, true, true, true, true, true, true, true, true, true, true, true, true, true, false, false]) rfl (by rfl) (by kernel_rfl) (by rfl) (fun K hK => ?_)
      go_simp
      try rw [hw_]
      replace kp_ : Keeps _ y_14 := fun p hp => (hf_ _ (by omega)).trans (kp_ p hp)
      replace b_ := hb_ _ _ b_ (by omega)
      refine hK _ _ ⟨fun _ _ => kp_, ?_⟩
      clear hK K hw_ z0 z1 z2 z3 z4 z5 z6 z7 z8 z9 z10 z11 zf hb_
      try simp only [Act.put, List.setIfInBounds_toArray, List.set_cons_zero, List.set_cons_succ]
      replace hV14 : MBox y_14 _ _ := (hf_ _ (by omega)).trans hV14
      replace hV13 : MBox y_14 _ _ := n_
      replace rm := rows_rng rm (w' := y_14) (fun b h1 h2 => hf_ b (by omega))
      replace rd := rows_rng rd (w' := y_14) (fun b h1 h2 => hf_ b (by omega))
      clear hf_
      obtain ⟨⟨z0, z1, z2, z3, z4, z5, z6, z7, z8, z9, z10, z11⟩, zf⟩ := MBox.cells hV14
      obtain ⟨y_15, hw_, n_, hb_, hf_, ly_15, l2y_15⟩ := all_to hV14 d
      refine stepK (i := 16) (L := #[true, true, true, true, true, true, true, true, true, true, true, true, true, true, true, true, true, false]) rfl (by rfl) (by kernel_rfl) (by rfl) (fun K hK => ?_)
      go_simp
      try rw [hw_]
      replace kp_ : Keeps _ y_15 := fun p hp => (hf_ _ (by omega)).trans (kp_ p hp)
      replace b_ := hb_ _ _ b_ (by omega)
      refine hK _ _ ⟨fun _ _ => kp_, ?_⟩
      clear hK K hw_ z0 z1 z2 z3 z4 z5 z6 z7 z8 z9 z10 z11 zf hb_
      try simp only [Act.put, List.setIfInBounds_toArray, List.set_cons_zero, List.set_cons_succ]
      replace hV14 : MBox y_15 _ _ := n_
      replace hV13 : MBox y_15 _ _ := (hf_ _ (by omega)).trans hV13
      replace rm := rows_rng rm (w' := y_15) (fun b h1 h2 => hf_ b (by omega))
      replace rd := rows_rng rd (w' := y_15) (fun b h1 h2 => hf_ b (by omega))
      clear hf_
      refine pureE (i := 17) (L := #[true, true, true, true, true, true, true, true, true, true, true, true, true, true, true, true, true, true]) (v := ?_) rfl (by rfl) (by kernel_rfl) (by kernel_rfl) (by kernel_rfl) (fun _ _ _ h => hpan (by rfl) h) (by rfl) ?hy46 ?rest46
      case hy46 => intro w; go_simp; (try with_reducible rfl)
      try simp only [Act.put, List.setIfInBounds_toArray, List.set_cons_zero, List.set_cons_succ]
      refine doneE (by kernel_rfl) ?_ _
      exact hE y_12.heap.size y_5.heap.size m d _ _ _ _ _ _ _ _ _ _ _ _ _ _ (by omega) (by omega) hV13 hV14 b_ im.out id_.out (rm.more (by omega) (by omega)) (rd.more (by omega) (by omega))
  case o_3 =>
    
    go_simp
    obtain ⟨y_16, hw_, hV13, hB, hl_⟩ := alloc_z y_1
    rw [hw_]
    clear hw_
    replace kp_ := Keeps.on kp_ (by omega) hB
    replace b_ := b_.trans (hB.mono (by omega))
    have ly_16 : y_1.heap.size ≤ y_16.heap.size := hB.size
    replace RP := RP.on hB
    replace RQ := RQ.on hB
    clear hB
    refine hK _ _ ⟨fun _ _ => kp_, ?_⟩
    clear hK K
    try simp only [Act.put, List.setIfInBounds_toArray, List.set_cons_zero, List.set_cons_succ]
    refine stepK2 (i := 8) (j := 14) (Li := #[true, true, true, true, true, true, true, true, true, false, false, false, false, true, false, false, false, false]) (Lj := #[true, true, true, true, true, true, true, true, false, false, false, false, false, true, true, false, false, false]) rfl rfl (by rfl) (by rfl) (by kernel_rfl) (by rfl) (by rfl) (fun K hK => ?o_17) (fun K hK => ?o_18)
    case o_17 =>
      
      go_simp
      go_at_call 43
      refine (Meet_num y_16 dP dQ RP RQ (hT.below b_ hT.lt) mR lR 0 HMT2.out).mono ?_
      rintro e' y_19 ⟨m, d, rfl, hB, im, id_, Bm, lbm1, lbm2, rm, rd⟩
      replace im := Lib.hid im
      replace id_ := Lib.hid id_
      replace kp_ := Keeps.on kp_ (by omega) hB
      replace b_ := b_.trans (hB.mono (by omega))
      have ly_19 : y_16.heap.size ≤ y_19.heap.size := hB.size
      replace hV13 := box_on hV13 hB (lt_of_heap hV13)
      replace RP := RP.on hB
      replace RQ := RQ.on hB
      clear hB
      refine hK _ _ ⟨fun _ _ => kp_, ?_⟩
      clear hK K
      try simp only [Act.put, List.setIfInBounds_toArray, List.set_cons_zero, List.set_cons_succ]
      refine pureE (i := 9) (L := #[true, true, true, true, true, true, true, true, true, true, false, false, false, true, false, false, false, false]) (v := ?_) rfl (by rfl) (by kernel_rfl) (by kernel_rfl) (by kernel_rfl) (fun _ _ _ h => hpan (by rfl) h) (by rfl) ?hy47 ?rest47
      case hy47 => intro w; go_simp; (try with_reducible rfl)
      try simp only [Act.put, List.setIfInBounds_toArray, List.set_cons_zero, List.set_cons_succ]
      refine pureE (i := 10) (L := #[true, true, true, true, true, true, true, true, true, true, true, false, false, true, false, false, false, false]) (v := ?_) rfl (by rfl) (by kernel_rfl) (by kernel_rfl) (by kernel_rfl) (fun _ _ _ h => hpan (by rfl) h) (by rfl) ?hy48 ?rest48
      case hy48 => intro w; go_simp; (try with_reducible rfl)
      try simp only [Act.put, List.setIfInBounds_toArray, List.set_cons_zero, List.set_cons_succ]
      refine pureE (i := 11) (L := #[true, true, true, true, true, true, true, true, true, true, true, true, false, true, false, false, false, false]) (v := ?_) rfl (by rfl) (by kernel_rfl) (by kernel_rfl) (by kernel_rfl) (fun _ _ _ h => hpan (by rfl) h) (by rfl) ?hy49 ?rest49
      case hy49 => intro w; go_simp; (try with_reducible rfl)
      try simp only [Act.put, List.setIfInBounds_toArray, List.set_cons_zero, List.set_cons_succ]
      refine pureE (i := 12) (L := #[true, true, true, true, true, true, true, true, true, true, true, true, true, true, false, false, false, false]) (v := ?_) rfl (by rfl) (by kernel_rfl) (by kernel_rfl) (by kernel_rfl) (fun _ _ _ h => hpan (by rfl) h) (by rfl) ?hy50 ?rest50
      case hy50 => intro w; go_simp; (try with_reducible rfl)
      try simp only [Act.put, List.setIfInBounds_toArray, List.set_cons_zero, List.set_cons_succ]
      refine stepK (i := 14) (L := #[true, true, true, true, true, true, true, true, true, true, true, true, true, true, true, false, false, false]) rfl (by rfl) (by kernel_rfl) (by rfl) (fun K hK => ?_)
      go_simp
      obtain ⟨y_20, hw_, hV14, hB, hl_⟩ := alloc_z y_19
      rw [hw_]
      clear hw_
      replace kp_ := Keeps.on kp_ (by omega) hB
      replace b_ := b_.trans (hB.mono (by omega))
      have ly_20 : y_19.heap.size ≤ y_20.heap.size := hB.size
      replace hV13 := box_on hV13 hB (lt_of_heap hV13)
      replace rm := rm.below hB (by omega)
      replace rd := rd.below hB (by omega)
      clear hB
      refine hK _ _ ⟨fun _ _ => kp_, ?_⟩
      clear hK K
      try simp only [Act.put, List.setIfInBounds_toArray, List.set_cons_zero, List.set_cons_succ]
      obtain ⟨⟨z0, z1, z2, z3, z4, z5, z6, z7, z8, z9, z10, z11⟩, zf⟩ := MBox.cells hV13
      obtain ⟨y_21, hw_, n_, hb_, hf_, ly_21, l2y_21⟩ := all_to hV13 m
      refine stepK (i := 15) (L := #[true, true, true, true, true, true, true, true, true, true, true, true, true, true, true, true, false, false]) rfl (by rfl) (by kernel_rfl) (by rfl) (fun K hK => ?_)
      go_simp
      try rw [hw_]
      replace kp_ : Keeps _ y_21 := fun p hp => (hf_ _ (by omega)).trans (kp_ p hp)
      replace b_ := hb_ _ _ b_ (by omega)
      refine hK _ _ ⟨fun _ _ => kp_, ?_⟩
      clear hK K hw_ z0 z1 z2 z3 z4 z5 z6 z7 z8 z9 z10 z11 zf hb_
      try simp only [Act.put, List.setIfInBounds_toArray, List.set_cons_zero, List.set_cons_succ]
      replace hV13 : MBox y_21 _ _ := n_
      replace hV14 : MBox y_21 _ _ := (hf_ _ (by omega)).trans hV14
      replace rm := rows_rng rm (w' := y_21) (fun b h1 h2 => hf_ b (by omega))
      replace rd := rows_rng rd (w' := y_21) (fun b h1 h2 => hf_ b (by omega))
      clear hf_
      obtain ⟨⟨z0, z1, z2, z3, z4, z5, z6, z7, z8, z9, z10, z11⟩, zf⟩ := MBox.cells hV14
      obtain ⟨y_22, hw_, n_, hb_, hf_, ly_22, l2y_22⟩ := all_to hV14 d
      refine stepK (i := 16) (L := #[true, true, true, true, true, true, true, true, true, true, true, true, true, true, true, true, true, false]) rfl (by rfl) (by kernel_rfl) (by rfl) (fun K hK => ?_)
      go_simp
      try rw [hw_]
      replace kp_ : Keeps _ y_22 := fun p hp => (hf_ _ (by omega)).trans (kp_ p hp)
      replace b_ := hb_ _ _ b_ (by omega)
      refine hK _ _ ⟨fun _ _ => kp_, ?_⟩
      clear hK K hw_ z0 z1 z2 z3 z4 z5 z6 z7 z8 z9 z10 z11 zf hb_
      try simp only [Act.put, List.setIfInBounds_toArray, List.set_cons_zero, List.set_cons_succ]
      replace hV13 : MBox y_22 _ _ := (hf_ _ (by omega)).trans hV13
      replace hV14 : MBox y_22 _ _ := n_
      replace rm := rows_rng rm (w' := y_22) (fun b h1 h2 => hf_ b (by omega))
      replace rd := rows_rng rd (w' := y_22) (fun b h1 h2 => hf_ b (by omega))
      clear hf_
      refine pureE (i := 17) (L := #[true, true, true, true, true, true, true, true, true, true, true, true, true, true, true, true, true, true]) (v := ?_) rfl (by rfl) (by kernel_rfl) (by kernel_rfl) (by kernel_rfl) (fun _ _ _ h => hpan (by rfl) h) (by rfl) ?hy54 ?rest54
      case hy54 => intro w; go_simp; (try with_reducible rfl)
      try simp only [Act.put, List.setIfInBounds_toArray, List.set_cons_zero, List.set_cons_succ]
      refine doneE (by kernel_rfl) ?_ _
      exact hE y_1.heap.size y_19.heap.size m d _ _ _ _ _ _ _ _ _ _ _ _ _ _ (by omega) (by omega) hV13 hV14 b_ im.out id_.out (rm.more (by omega) (by omega)) (rd.more (by omega) (by omega))
    case o_18 =>
      
      go_simp
      obtain ⟨y_23, hw_, hV14, hB, hl_⟩ := alloc_z y_16
      rw [hw_]
      clear hw_
      replace kp_ := Keeps.on kp_ (by omega) hB
      replace b_ := b_.trans (hB.mono (by omega))
      have ly_23 : y_16.heap.size ≤ y_23.heap.size := hB.size
      replace hV13 := box_on hV13 hB (lt_of_heap hV13)
      replace RP := RP.on hB
      replace RQ := RQ.on hB
      clear hB
      refine hK _ _ ⟨fun _ _ => kp_, ?_⟩
      clear hK K
      try simp only [Act.put, List.setIfInBounds_toArray, List.set_cons_zero, List.set_cons_succ]
      refine stepK (i := 8) (L := #[true, true, true, true, true, true, true, true, true, false, false, false, false, true, true, false, false, false]) rfl (by rfl) (by kernel_rfl) (by rfl) (fun K hK => ?_)
      go_simp
      go_at_call 43
      refine (Meet_num y_23 dP dQ RP RQ (hT.below b_ hT.lt) mR lR 0 HMT2.out).mono ?_
      rintro e' y_24 ⟨m, d, rfl, hB, im, id_, Bm, lbm1, lbm2, rm, rd⟩
      replace im := Lib.hid im
      replace id_ := Lib.hid id_
      replace kp_ := Keeps.on kp_ (by omega) hB
      replace b_ := b_.trans (hB.mono (by omega))
      have ly_24 : y_23.heap.size ≤ y_24.heap.size := hB.size
      replace hV13 := box_on hV13 hB (lt_of_heap hV13)
      replace hV14 := box_on hV14 hB (lt_of_heap hV14)
      replace RP := RP.on hB
      replace RQ := RQ.on hB
      clear hB
      refine hK _ _ ⟨fun _ _ => kp_, ?_⟩
      clear hK K
      try simp only [Act.put, List.setIfInBounds_toArray, List.set_cons_zero, List.set_cons_succ]
      refine pureE (i := 9) (L := #[true, true, true, true, true, true, true, true, true, true, false, false, false, true, true, false, false, false]) (v := ?_) rfl (by rfl) (by kernel_rfl) (by kernel_rfl) (by kernel_rfl) (fun _ _ _ h => hpan (by rfl) h) (by rfl) ?hy56 ?rest56
      case hy56 => intro w; go_simp; (try with_reducible rfl)
      try simp only [Act.put, List.setIfInBounds_toArray, List.set_cons_zero, List.set_cons_succ]
      refine pureE (i := 10) (L := #[true, true, true, true, true, true, true, true, true, true, true, false, false, true, true, false, false, false]) (v := ?_) rfl (by rfl) (by kernel_rfl) (by kernel_rfl) (by kernel_rfl) (fun _ _ _ h => hpan (by rfl) h) (by rfl) ?hy57 ?rest57
      case hy57 => intro w; go_simp; (try with_reducible rfl)
      try simp only [Act.put, List.setIfInBounds_toArray, List.set_cons_zero, List.set_cons_succ]
      refine pureE (i := 11) (L := #[true, true, true, true, true, true, true, true, true, true, true, true, false, true, true, false, false, false]) (v := ?_) rfl (by rfl) (by kernel_rfl) (by kernel_rfl) (by kernel_rfl) (fun _ _ _ h => hpan (by rfl) h) (by rfl) ?hy58 ?rest58
      case hy58 => intro w; go_simp; (try with_reducible rfl)
      try simp only [Act.put, List.setIfInBounds_toArray, List.set_cons_zero, List.set_cons_succ]
      refine pureE (i := 12) (L := #[true, true, true, true, true, true, true, true, true, true, true, true, true, true, true, false, false, false]) (v := ?_) rfl (by rfl) (by kernel_rfl) (by kernel_rfl) (by kernel_rfl) (fun _ _ _ h => hpan (by rfl) h) (by rfl) ?hy59 ?rest59
      case hy59 => intro w; go_simp; (try with_reducible rfl)
      try simp only [Act.put, List.setIfInBounds_toArray, List.set_cons_zero, List.set_cons_succ]
      obtain ⟨⟨z0, z1, z2, z3, z4, z5, z6, z7, z8, z9, z10, z11⟩, zf⟩ := MBox.cells hV13
      obtain ⟨y_25, hw_, n_, hb_, hf_, ly_25, l2y_25⟩ := all_to hV13 m
      refine stepK (i := 15) (L := #[true, true, true, true, true, true, true, true, true, true, true, true, true, true, true, true, false, false]) rfl (by rfl) (by kernel_rfl) (by rfl) (fun K hK => ?_)
      go_simp
      try rw [hw_]
      replace kp_ : Keeps _ y_25 := fun p hp => (hf_ _ (by omega)).trans (kp_ p hp)
      replace b_ := hb_ _ _ b_ (by omega)
      refine hK _ _ ⟨fun _ _ => kp_, ?_⟩
      clear hK K hw_ z0 z1 z2 z3 z4 z5 z6 z7 z8 z9 z10 z11 zf hb_
      try simp only [Act.put, List.setIfInBounds_toArray, List.set_cons_zero, List.set_cons_succ]
      replace hV13 : MBox y_25 _ _ := n_
      replace hV14 : MBox y_25 _ _ := (hf_ _ (by omega)).trans hV14
      replace rm := rows_rng rm (w' := y_25) (fun b h1 h2 => hf_ b (by omega))
      replace rd := rows_rng rd (w' := y_25) (fun b h1 h2 => hf_ b (by omega))
      clear hf_
      obtain ⟨⟨z0, z1, z2, z3, z4, z5, z6, z7, z8, z9, z10, z11⟩, zf⟩ := MBox.cells hV14
      obtain ⟨y_26, hw_, n_, hb_, hf_, ly_26, l2y_26⟩ := all_to hV14 d
      refine stepK (i := 16) (L := #[true, true, true, true, true, true, true, true, true, true, true, true, true, true, true, true, true, false]) rfl (by rfl) (by kernel_rfl) (by rfl) (fun K hK => ?_)
      go_simp
      try rw [hw_]
      replace kp_ : Keeps _ y_26 := fun p hp => (hf_ _ (by omega)).trans (kp_ p hp)
      replace b_ := hb_ _ _ b_ (by omega)
      refine hK _ _ ⟨fun _ _ => kp_, ?_⟩
      clear hK K hw_ z0 z1 z2 z3 z4 z5 z6 z7 z8 z9 z10 z11 zf hb_
      try simp only [Act.put, List.setIfInBounds_toArray, List.set_cons_zero, List.set_cons_succ]
      replace hV13 : MBox y_26 _ _ := (hf_ _ (by omega)).trans hV13
      replace hV14 : MBox y_26 _ _ := n_
      replace rm := rows_rng rm (w' := y_26) (fun b h1 h2 => hf_ b (by omega))
      replace rd := rows_rng rd (w' := y_26) (fun b h1 h2 => hf_ b (by omega))
      clear hf_
      refine pureE (i := 17) (L := #[true, true, true, true, true, true, true, true, true, true, true, true, true, true, true, true, true, true]) (v := ?_) rfl (by rfl) (by kernel_rfl) (by kernel_rfl) (by kernel_rfl) (fun _ _ _ h => hpan (by rfl) h) (by rfl) ?hy62 ?rest62
      case hy62 => intro w; go_simp; (try with_reducible rfl)
      try simp only [Act.put, List.setIfInBounds_toArray, List.set_cons_zero, List.set_cons_succ]
      refine doneE (by kernel_rfl) ?_ _
      exact hE y_1.heap.size y_16.heap.size m d _ _ _ _ _ _ _ _ _ _ _ _ _ _ (by omega) (by omega) hV13 hV14 b_ im.out id_.out (rm.more (by omega) (by omega)) (rd.more (by omega) (by omega))
  case o_4 =>
    
    go_simp
    obtain ⟨y_27, hw_, hV14, hB, hl_⟩ := alloc_z y_1
    rw [hw_]
    clear hw_
    replace kp_ := Keeps.on kp_ (by omega) hB
    replace b_ := b_.trans (hB.mono (by omega))
    have ly_27 : y_1.heap.size ≤ y_27.heap.size := hB.size
    replace RP := RP.on hB
    replace RQ := RQ.on hB
    clear hB
    refine hK _ _ ⟨fun _ _ => kp_, ?_⟩
    clear hK K
    try simp only [Act.put, List.setIfInBounds_toArray, List.set_cons_zero, List.set_cons_succ]
    refine stepK2 (i := 8) (j := 13) (Li := #[true, true, true, true, true, true, true, true, true, false, false, false, false, false, true, false, false, false]) (Lj := #[true, true, true, true, true, true, true, true, false, false, false, false, false, true, true, false, false, false]) rfl rfl (by rfl) (by rfl) (by kernel_rfl) (by rfl) (by rfl) (fun K hK => ?o_28) (fun K hK => ?o_29)
    case o_28 =>
      
      go_simp
      go_at_call 43
      refine (Meet_num y_27 dP dQ RP RQ (hT.below b_ hT.lt) mR lR 0 HMT2.out).mono ?_
      rintro e' y_30 ⟨m, d, rfl, hB, im, id_, Bm, lbm1, lbm2, rm, rd⟩
      replace im := Lib.hid im
      replace id_ := Lib.hid id_
      replace kp_ := Keeps.on kp_ (by omega) hB
      replace b_ := b_.trans (hB.mono (by omega))
      have ly_30 : y_27.heap.size ≤ y_30.heap.size := hB.size
      replace hV14 := box_on hV14 hB (lt_of_heap hV14)
      replace RP := RP.on hB
      replace RQ := RQ.on hB
      clear hB
      refine hK _ _ ⟨fun _ _ => kp_, ?_⟩
      clear hK K
      try simp only [Act.put, List.setIfInBounds_toArray, List.set_cons_zero, List.set_cons_succ]
      refine pureE (i := 9) (L := #[true, true, true, true, true, true, true, true, true, true, false, false, false, false, true, false, false, false]) (v := ?_) rfl (by rfl) (by kernel_rfl) (by kernel_rfl) (by kernel_rfl) (fun _ _ _ h => hpan (by rfl) h) (by rfl) ?hy63 ?rest63
      case hy63 => intro w; go_simp; (try with_reducible rfl)
      try simp only [Act.put, List.setIfInBounds_toArray, List.set_cons_zero, List.set_cons_succ]
      refine pureE (i := 10) (L := #[true, true, true, true, true, true, true, true, true, true, true, false, false, false, true, false, false, false]) (v := ?_) rfl (by rfl) (by kernel_rfl) (by kernel_rfl) (by kernel_rfl) (fun _ _ _ h => hpan (by rfl) h) (by rfl) ?hy64 ?rest64
      case hy64 => intro w; go_simp; (try with_reducible rfl)
      try simp only [Act.put, List.setIfInBounds_toArray, List.set_cons_zero, List.set_cons_succ]
      refine pureE (i := 11) (L := #[true, true, true, true, true, true, true, true, true, true, true, true, false, false, true, false, false, false]) (v := ?_) rfl (by rfl) (by kernel_rfl) (by kernel_rfl) (by kernel_rfl) (fun _ _ _ h => hpan (by rfl) h) (by rfl) ?hy65 ?rest65
      case hy65 => intro w; go_simp; (try with_reducible rfl)
      try simp only [Act.put, List.setIfInBounds_toArray, List.set_cons_zero, List.set_cons_succ]
      refine pureE (i := 12) (L := #[true, true, true, true, true, true, true, true, true, true, true, true, true, false, true, false, false, false]) (v := ?_) rfl (by rfl) (by kernel_rfl) (by kernel_rfl) (by kernel_rfl) (fun _ _ _ h => hpan (by rfl) h) (by rfl) ?hy66 ?rest66
      case hy66 => intro w; go_simp; (try with_reducible rfl)
      try simp only [Act.put, List.setIfInBounds_toArray, List.set_cons_zero, List.set_cons_succ]
      refine stepK (i := 13) (L := #[true, true, true, true, true, true, true, true, true, true, true, true, true, true, true, false, false, false]) rfl (by rfl) (by kernel_rfl) (by rfl) (fun K hK => ?_)
      go_simp
      obtain ⟨y_31, hw_, hV13, hB, hl_⟩ := alloc_z y_30
      rw [hw_]
      clear hw_
      replace kp_ := Keeps.on kp_ (by omega) hB
      replace b_ := b_.trans (hB.mono (by omega))
      have ly_31 : y_30.heap.size ≤ y_31.heap.size := hB.size
      replace hV14 := box_on hV14 hB (lt_of_heap hV14)
      replace rm := rm.below hB (by omega)
      replace rd := rd.below hB (by omega)
      clear hB
      refine hK _ _ ⟨fun _ _ => kp_, ?_⟩
      clear hK K
      try simp only [Act.put, List.setIfInBounds_toArray, List.set_cons_zero, List.set_cons_succ]
      obtain ⟨⟨z0, z1, z2, z3, z4, z5, z6, z7, z8, z9, z10, z11⟩, zf⟩ := MBox.cells hV13
      obtain ⟨y_32, hw_, n_, hb_, hf_, ly_32, l2y_32⟩ := all_to hV13 m
      refine stepK (i := 15) (L := #[true, true, true, true, true, true, true, true, true, true, true, true, true, true, true, true, false, false]) rfl (by rfl) (by kernel_rfl) (by rfl) (fun K hK => ?_)
      go_simp
      try rw [hw_]
      replace kp_ : Keeps _ y_32 := fun p hp => (hf_ _ (by omega)).trans (kp_ p hp)
      replace b_ := hb_ _ _ b_ (by omega)
      refine hK _ _ ⟨fun _ _ => kp_, ?_⟩
      clear hK K hw_ z0 z1 z2 z3 z4 z5 z6 z7 z8 z9 z10 z11 zf hb_
      try simp only [Act.put, List.setIfInBounds_toArray, List.set_cons_zero, List.set_cons_succ]
      replace hV14 : MBox y_32 _ _ := (hf_ _ (by omega)).trans hV14
      replace hV13 : MBox y_32 _ _ := n_
      replace rm := rows_rng rm (w' := y_32) (fun b h1 h2 => hf_ b (by omega))
      replace rd := rows_rng rd (w' := y_32) (fun b h1 h2 => hf_ b (by omega))
      clear hf_
      obtain ⟨⟨z0, z1, z2, z3, z4, z5, z6, z7, z8, z9, z10, z11⟩, zf⟩ := MBox.cells hV14
      obtain ⟨y_33, hw_, n_, hb_, hf_, ly_33, l2y_33⟩ := all_to hV14 d
      refine stepK (i := 16) (L := #[true, true, true, true, true, true, true, true, true, true, true, true, true, true, true, true, true, false]) rfl (by rfl) (by kernel_rfl) (by rfl) (fun K hK => ?_)
      go_simp
      try rw [hw_]
      replace kp_ : Keeps _ y_33 := fun p hp => (hf_ _ (by omega)).trans (kp_ p hp)
      replace b_ := hb_ _ _ b_ (by omega)
      refine hK _ _ ⟨fun _ _ => kp_, ?_⟩
      clear hK K hw_ z0 z1 z2 z3 z4 z5 z6 z7 z8 z9 z10 z11 zf hb_
      try simp only [Act.put, List.setIfInBounds_toArray, List.set_cons_zero, List.set_cons_succ]
      replace hV14 : MBox y_33 _ _ := n_
      replace hV13 : MBox y_33 _ _ := (hf_ _ (by omega)).trans hV13
      replace rm := rows_rng rm (w' := y_33) (fun b h1 h2 => hf_ b (by omega))
      replace rd := rows_rng rd (w' := y_33) (fun b h1 h2 => hf_ b (by omega))
      clear hf_
      refine pureE (i := 17) (L := #[true, true, true, true, true, true, true, true, true, true, true, true, true, true, true, true, true, true]) (v := ?_) rfl (by rfl) (by kernel_rfl) (by kernel_rfl) (by kernel_rfl) (fun _ _ _ h => hpan (by rfl) h) (by rfl) ?hy70 ?rest70
      case hy70 => intro w; go_simp; (try with_reducible rfl)
      try simp only [Act.put, List.setIfInBounds_toArray, List.set_cons_zero, List.set_cons_succ]
      refine doneE (by kernel_rfl) ?_ _
      exact hE y_30.heap.size y_1.heap.size m d _ _ _ _ _ _ _ _ _ _ _ _ _ _ (by omega) (by omega) hV13 hV14 b_ im.out id_.out (rm.more (by omega) (by omega)) (rd.more (by omega) (by omega))
    case o_29 =>
      
      go_simp
      obtain ⟨y_34, hw_, hV13, hB, hl_⟩ := alloc_z y_27
      rw [hw_]
      clear hw_
      replace kp_ := Keeps.on kp_ (by omega) hB
      replace b_ := b_.trans (hB.mono (by omega))
      have ly_34 : y_27.heap.size ≤ y_34.heap.size := hB.size
      replace hV14 := box_on hV14 hB (lt_of_heap hV14)
      replace RP := RP.on hB
      replace RQ := RQ.on hB
      clear hB
      refine hK _ _ ⟨fun _ _ => kp_, ?_⟩
      clear hK K
      try simp only [Act.put, List.setIfInBounds_toArray, List.set_cons_zero, List.set_cons_succ]
      refine stepK (i := 8) (L := #[true, true, true, true, true, true, true, true, true, false, false, false, false, true, true, false, false, false]) rfl (by rfl) (by kernel_rfl) (by rfl) (fun K hK => ?_)
      go_simp
      go_at_call 43
      refine (Meet_num y_34 dP dQ RP RQ (hT.below b_ hT.lt) mR lR 0 HMT2.out).mono ?_
      rintro e' y_35 ⟨m, d, rfl, hB, im, id_, Bm, lbm1, lbm2, rm, rd⟩
      replace im := Lib.hid im
      replace id_ := Lib.hid id_
      replace kp_ := Keeps.on kp_ (by omega) hB
      replace b_ := b_.trans (hB.mono (by omega))
      have ly_35 : y_34.heap.size ≤ y_35.heap.size := hB.size
      replace hV14 := box_on hV14 hB (lt_of_heap hV14)
      replace hV13 := box_on hV13 hB (lt_of_heap hV13)
      replace RP := RP.on hB
      replace RQ := RQ.on hB
      clear hB
      refine hK _ _ ⟨fun _ _ => kp_, ?_⟩
      clear hK K
      try simp only [Act.put, List.setIfInBounds_toArray, List.set_cons_zero, List.set_cons_succ]
      refine pureE (i := 9) (L := #[true, true, true, true, true, true, true, true, true, true, false, false, false, true, true, false, false, false]) (v := ?_) rfl (by rfl) (by kernel_rfl) (by kernel_rfl) (by kernel_rfl) (fun _ _ _ h => hpan (by rfl) h) (by rfl) ?hy72 ?rest72
      case hy72 => intro w; go_simp; (try with_reducible rfl)
      try simp only [Act.put, List.setIfInBounds_toArray, List.set_cons_zero, List.set_cons_succ]
      refine pureE (i := 10) (L := #[true, true, true, true, true, true, true, true, true, true, true, false, false, true, true, false, false, false]) (v := ?_) rfl (by rfl) (by kernel_rfl) (by kernel_rfl) (by kernel_rfl) (fun _ _ _ h => hpan (by rfl) h) (by rfl) ?hy73 ?rest73
      case hy73 => intro w; go_simp; (try with_reducible rfl)
      try simp only [Act.put, List.setIfInBounds_toArray, List.set_cons_zero, List.set_cons_succ]
      refine pureE (i := 11) (L := #[true, true, true, true, true, true, true, true, true, true, true, true, false, true, true, false, false, false]) (v := ?_) rfl (by rfl) (by kernel_rfl) (by kernel_rfl) (by kernel_rfl) (fun _ _ _ h => hpan (by rfl) h) (by rfl) ?hy74 ?rest74
      case hy74 => intro w; go_simp; (try with_reducible rfl)
      try simp only [Act.put, List.setIfInBounds_toArray, List.set_cons_zero, List.set_cons_succ]
      refine pureE (i := 12) (L := #[true, true, true, true, true, true, true, true, true, true, true, true, true, true, true, false, false, false]) (v := ?_) rfl (by rfl) (by kernel_rfl) (by kernel_rfl) (by kernel_rfl) (fun _ _ _ h => hpan (by rfl) h) (by rfl) ?hy75 ?rest75
      case hy75 => intro w; go_simp; (try with_reducible rfl)
      try simp only [Act.put, List.setIfInBounds_toArray, List.set_cons_zero, List.set_cons_succ]
      obtain ⟨⟨z0, z1, z2, z3, z4, z5, z6, z7, z8, z9, z10, z11⟩, zf⟩ := MBox.cells hV13
      obtain ⟨y_36, hw_, n_, hb_, hf_, ly_36, l2y_36⟩ := all_to hV13 m
      refine stepK (i := 15) (L := #[true, true, true, true, true, true, true, true, true, true, true, true, true, true, true, true, false, false]) rfl (by rfl) (by kernel_rfl) (by rfl) (fun K hK => ?_)
      go_simp
      try rw [hw_]
      replace kp_ : Keeps _ y_36 := fun p hp => (hf_ _ (by omega)).trans (kp_ p hp)
      replace b_ := hb_ _ _ b_ (by omega)
      refine hK _ _ ⟨fun _ _ => kp_, ?_⟩
      clear hK K hw_ z0 z1 z2 z3 z4 z5 z6 z7 z8 z9 z10 z11 zf hb_
      try simp only [Act.put, List.setIfInBounds_toArray, List.set_cons_zero, List.set_cons_succ]
      replace hV14 : MBox y_36 _ _ := (hf_ _ (by omega)).trans hV14
      replace hV13 : MBox y_36 _ _ := n_
      replace rm := rows_rng rm (w' := y_36) (fun b h1 h2 => hf_ b (by omega))
      replace rd := rows_rng rd (w' := y_36) (fun b h1 h2 => hf_ b (by omega))
      clear hf_
      obtain ⟨⟨z0, z1, z2, z3, z4, z5, z6, z7, z8, z9, z10, z11⟩, zf⟩ := MBox.cells hV14
      obtain ⟨y_37, hw_, n_, hb_, hf_, ly_37, l2y_37⟩ := all_to hV14 d
      refine stepK (i := 16) (L := #[true, true, true, true, true, true, true, true, true, true, true, true, true, true, true, true, true, false]) rfl (by rfl) (by kernel_rfl) (by rfl) (fun K hK => ?_)
      go_simp
      try rw [hw_]
      replace kp_ : Keeps _ y_37 := fun p hp => (hf_ _ (by omega)).trans (kp_ p hp)
      replace b_ := hb_ _ _ b_ (by omega)
      refine hK _ _ ⟨fun _ _ => kp_, ?_⟩
      clear hK K hw_ z0 z1 z2 z3 z4 z5 z6 z7 z8 z9 z10 z11 zf hb_
      try simp only [Act.put, List.setIfInBounds_toArray, List.set_cons_zero, List.set_cons_succ]
      replace hV14 : MBox y_37 _ _ := n_
      replace hV13 : MBox y_37 _ _ := (hf_ _ (by omega)).trans hV13
      replace rm := rows_rng rm (w' := y_37) (fun b h1 h2 => hf_ b (by omega))
      replace rd := rows_rng rd (w' := y_37) (fun b h1 h2 => hf_ b (by omega))
      clear hf_
      refine pureE (i := 17) (L := #[true, true, true, true, true, true, true, true, true, true, true, true, true, true, true, true, true, true]) (v := ?_) rfl (by rfl) (by kernel_rfl) (by kernel_rfl) (by kernel_rfl) (fun _ _ _ h => hpan (by rfl) h) (by rfl) ?hy78 ?rest78
      case hy78 => intro w; go_simp; (try with_reducible rfl)
      try simp only [Act.put, List.setIfInBounds_toArray, List.set_cons_zero, List.set_cons_succ]
      refine doneE (by kernel_rfl) ?_ _
      exact hE y_27.heap.size y_1.heap.size m d _ _ _ _ _ _ _ _ _ _ _ _ _ _ (by omega) (by omega) hV13 hV14 b_ im.out id_.out (rm.more (by omega) (by omega)) (rd.more (by omega) (by omega))
end Ma
end Go.Proofs.YtlbkepiflhchdaaDoor
namespace Go.Proofs.YtlbkepiflhchdaaDoor
open Go.RowKit
namespace Ma
open Dp Dy
set_option maxHeartbeats 51200000 in
set_option maxRecDepth 1000000 in
theorem nev_reg25 (c0 c1 c2 c3 c4 c5 c6 c7 c9 c10 c11 c12 c13 c14 c15 c16 c18 c19 c21 c22 c23 c24 c25 c26 c27 c28 c29 c30 c31 c32 c33 c34 c35 c36 c37 c38 c39 c40 c41 c42 c43 c44 c45 c46 c47 c48 c49 c50 c51 c52 c53 c54 c55 c56 c57 c58 c59 c60 c61 c62 c63 c64 c65 c66 c67 c68 c69 c70 c71 c72 c73 c74 c75 c76 c77 c78 c79 c80 c81 c82 c83 c84 c85 c86 c87 c88 c89 c90 c91 c92 c93 c94 c95 c96 c97 c98 c99 c100 c101 c102 c103 c104 c105 c106 c107 c108 c109 c110 c111 c112 c113 c114 c115 c116 c117 c118 c119 c120 c121 c122 c123 c124 c125 c126 c127 c128 c129 c130 c131 c132 c133 c134 c135 c136 c137 c138 c139 c140 c141 c142 c143 c144 c145 c146 c147 c148 c149 c150 c151 c152 c153 c154 c155 c156 c157 c158 c159 c160 c161 c162 c163 c164 c165 c166 c167 c168 c169 c170 c171 c172 c173 c174 c175 c176 c177 c178 c179 c180 c181 c182 c183 c184 c185 c186 c187 c188 c189 c190 c191 c192 c193 c194 c195 c196 c197 c198 c199 c200 c201 c202 c203 c204 c205 c206 c207 c208 c209 c210 c211 c212 c213 c214 c215 c216 c217 c218 c219 c220 c221 c222 c223 c224 c225 c226 c227 c228 c229 c230 c231 c232 c233 c234 c235 c236 c237 c238 c239 c240 c241 c242 c243 c244 c245 c246 c247 c248 c249 c250 c251 c252 c253 c254 c255 c256 c257 c258 c259 c260 c261 : Value) (E : Exit → Act → World → Prop) (U : World) (g o_ i co P g20 : Nat) (dP d : Mv) (hcP : MCells U g (o_ + P * 12) dP) (hD : MBox U g20 d) (RP : MRows U 0 U.heap.size dP) (RD : MRows U 0 U.heap.size d) (hg2 : g < U.heap.size) (hPi : P < i) (hi8 : ¬ 8 < i) (hT : Tab U) (T : Nat → Dn) (hdn : doneM dP d = (T, 0))
    (hpan : ∀ {x a a' w}, a.defers = a'.defers → E (.panic x) a w → E (.panic x) a' w) (hE : ∀ (g22 : Nat) (x' : Mv) (y182 y183 y184 y185 y186 y187 y188 y189 y190 : Value) (wx : World), U.heap.size ≤ g22 → MBox wx g22 x' → Below U.heap.size U wx → IsM T x' → MRows wx U.heap.size wx.heap.size x' → E .normal ⟨#[c0, c1, c2, c3, c4, c5, c6, c7, (.slice (some ⟨g, o_, none⟩) i co), c9, c10, c11, c12, c13, c14, c15, c16, (.int .i64 (P : Int)), c18, c19, (.pointer (some ⟨g20, 0, none⟩)), c21, (.pointer (some ⟨g22, 0, none⟩)), (.int .i64 0), c24, c25, c26, c27, c28, c29, c30, c31, c32, c33, c34, c35, c36, c37, c38, c39, c40, c41, c42, c43, c44, c45, c46, c47, c48, c49, c50, c51, c52, c53, c54, c55, c56, c57, c58, c59, c60, c61, c62, c63, c64, c65, c66, c67, c68, c69, c70, c71, c72, c73, c74, c75, c76, c77, c78, c79, c80, c81, c82, c83, c84, c85, c86, c87, c88, c89, c90, c91, c92, c93, c94, c95, c96, c97, c98, c99, c100, c101, c102, c103, c104, c105, c106, c107, c108, c109, c110, c111, c112, c113, c114, c115, c116, c117, c118, c119, c120, c121, c122, c123, c124, c125, c126, c127, c128, c129, c130, c131, c132, c133, c134, c135, c136, c137, c138, c139, c140, c141, c142, c143, c144, c145, c146, c147, c148, c149, c150, c151, c152, c153, c154, c155, c156, c157, c158, c159, c160, c161, c162, c163, c164, c165, c166, c167, c168, c169, c170, c171, c172, c173, c174, c175, c176, c177, c178, c179, c180, c181, y182, y183, y184, y185, y186, y187, y188, y189, y190, c191, c192, c193, c194, c195, c196, c197, c198, c199, c200, c201, c202, c203, c204, c205, c206, c207, c208, c209, c210, c211, c212, c213, c214, c215, c216, c217, c218, c219, c220, c221, c222, c223, c224, c225, c226, c227, c228, c229, c230, c231, c232, c233, c234, c235, c236, c237, c238, c239, c240, c241, c242, c243, c244, c245, c246, c247, c248, c249, c250, c251, c252, c253, c254, c255, c256, c257, c258, c259, c260, c261], []⟩ wx) :
    Code.wp Tryd.prog (nvReg 25) E ⟨#[c0, c1, c2, c3, c4, c5, c6, c7, (.slice (some ⟨g, o_, none⟩) i co), c9, c10, c11, c12, c13, c14, c15, c16, (.int .i64 (P : Int)), c18, c19, (.pointer (some ⟨g20, 0, none⟩)), c21, c22, c23, c24, c25, c26, c27, c28, c29, c30, c31, c32, c33, c34, c35, c36, c37, c38, c39, c40, c41, c42, c43, c44, c45, c46, c47, c48, c49, c50, c51, c52, c53, c54, c55, c56, c57, c58, c59, c60, c61, c62, c63, c64, c65, c66, c67, c68, c69, c70, c71, c72, c73, c74, c75, c76, c77, c78, c79, c80, c81, c82, c83, c84, c85, c86, c87, c88, c89, c90, c91, c92, c93, c94, c95, c96, c97, c98, c99, c100, c101, c102, c103, c104, c105, c106, c107, c108, c109, c110, c111, c112, c113, c114, c115, c116, c117, c118, c119, c120, c121, c122, c123, c124, c125, c126, c127, c128, c129, c130, c131, c132, c133, c134, c135, c136, c137, c138, c139, c140, c141, c142, c143, c144, c145, c146, c147, c148, c149, c150, c151, c152, c153, c154, c155, c156, c157, c158, c159, c160, c161, c162, c163, c164, c165, c166, c167, c168, c169, c170, c171, c172, c173, c174, c175, c176, c177, c178, c179, c180, c181, c182, c183, c184, c185, c186, c187, c188, c189, c190, c191, c192, c193, c194, c195, c196, c197, c198, c199, c200, c201, c202, c203, c204, c205, c206, c207, c208, c209, c210, c211, c212, c213, c214, c215, c216, c217, c218, c219, c220, c221, c222, c223, c224, c225, c226, c227, c228, c229, c230, c231, c232, c233, c234, c235, c236, c237, c238, c239, c240, c241, c242, c243, c244, c245, c246, c247, c248, c249, c250, c251, c252, c253, c254, c255, c256, c257, c258, c259, c260, c261], []⟩ U := by
  conv => arg 2; whnf
  skip
  have HDN := Lib.hid hdn
  have hcP := Lib.hid hcP
  have l20 := lt_of_heap hD
  clear hdn
  have p0 : ¬ (P : Int) < 0 := by omega
  refine region_E (Keeps U) [] (m := 12) (L := #[false, false, false, false, false, false, false, false, false, false, false, false]) (by kernel_rfl) (by rfl) (by rfl) ?_
  have kp_ : Keeps U U.drew := fun _ _ => rfl
  have b_ : Below U.heap.size U U.drew := (Below.refl _ _).drew
  have ly_38 : U.heap.size ≤ U.drew.heap.size := Nat.le_refl _
  replace RP : MRows U.drew 0 U.drew.heap.size _ := MRows.on RP b_
  replace RD : MRows U.drew 0 U.drew.heap.size _ := MRows.on RD b_
  generalize U.drew = y_38 at *
  refine pureE (i := 0) (L := #[true, false, false, false, false, false, false, false, false, false, false, false]) (v := ?_) rfl (by rfl) (by kernel_rfl) (by kernel_rfl) (by kernel_rfl) (fun _ _ _ h => hpan (by rfl) h) (by rfl) ?hy79 ?rest79
  case hy79 => intro w; go_simp; (try with_reducible rfl)
  try simp only [Act.put, List.setIfInBounds_toArray, List.set_cons_zero, List.set_cons_succ]
  refine pureE (i := 1) (L := #[true, true, false, false, false, false, false, false, false, false, false, false]) (v := ?_) rfl (by rfl) (by kernel_rfl) (by kernel_rfl) (by kernel_rfl) (fun _ _ _ h => hpan (by rfl) h) (by rfl) ?hy80 ?rest80
  case hy80 => intro w; go_simp; (try with_reducible rfl)
  try simp only [Act.put, List.setIfInBounds_toArray, List.set_cons_zero, List.set_cons_succ]
  refine pureE (i := 2) (L := #[true, true, true, false, false, false, false, false, false, false, false, false]) (v := ?_) rfl (by rfl) (by kernel_rfl) (by kernel_rfl) (by kernel_rfl) (fun _ _ _ h => hpan (by rfl) h) (by rfl) ?hy81 ?rest81
  case hy81 => intro w; go_simp; (try with_reducible rfl)
  try simp only [Act.put, List.setIfInBounds_toArray, List.set_cons_zero, List.set_cons_succ]
  refine readE (i := 3) (L := #[true, true, true, true, false, false, false, false, false, false, false, false]) (v := .agg #[.bool dP.S.s, .slice dP.S.A dP.S.n dP.S.c, .int .i64 dP.S.e, .bool dP.W.s, .slice dP.W.A dP.W.n dP.W.c, .int .i64 dP.W.e, .bool dP.C.s, .slice dP.C.A dP.C.n dP.C.c, .int .i64 dP.C.e, .bool dP.A.s, .slice dP.A.A dP.A.n dP.A.c, .int .i64 dP.A.e]) rfl (by rfl) (by kernel_rfl) (by kernel_rfl) (by kernel_rfl) (fun _ _ _ h => hpan (by rfl) h) (by assumption) (by rfl) ?yp2_ ?zp2_
  case yp2_ =>
    intro w' h1
    obtain ⟨k0, k1, k2, k3, k4, k5, k6, k7, k8, k9, k10, k11⟩ := hcP.out.blk (h1 _ (by omega))
    go_simp
  try simp only [Act.put, List.setIfInBounds_toArray, List.set_cons_zero, List.set_cons_succ]
  refine readE (i := 4) (L := #[true, true, true, true, true, false, false, false, false, false, false, false]) (v := .agg #[.bool d.S.s, .slice d.S.A d.S.n d.S.c, .int .i64 d.S.e, .bool d.W.s, .slice d.W.A d.W.n d.W.c, .int .i64 d.W.e, .bool d.C.s, .slice d.C.A d.C.n d.C.c, .int .i64 d.C.e, .bool d.A.s, .slice d.A.A d.A.n d.A.c, .int .i64 d.A.e]) rfl (by rfl) (by kernel_rfl) (by kernel_rfl) (by kernel_rfl) (fun _ _ _ h => hpan (by rfl) h) (by assumption) (by rfl) ?yd2_ ?zd2_
  case yd2_ =>
    intro w' h1
    obtain ⟨⟨k0, k1, k2, k3, k4, k5, k6, k7, k8, k9, k10, k11⟩, kf⟩ := MBox.cells ((h1 _ l20).trans hD)
    go_simp
  try simp only [Act.put, List.setIfInBounds_toArray, List.set_cons_zero, List.set_cons_succ]
  refine stepK2 (i := 5) (j := 9) (Li := #[true, true, true, true, true, true, false, false, false, false, false, false]) (Lj := #[true, true, true, true, true, false, false, false, false, true, false, false]) rfl rfl (by rfl) (by rfl) (by kernel_rfl) (by rfl) (by rfl) (fun K hK => ?o_39) (fun K hK => ?o_40)
  case o_39 =>
    
    go_simp
    go_at_call 45
    refine (Done_num y_38 dP d RP RD (hT.below b_ hT.lt) T 0 HDN.out).mono ?_
    rintro e' y_41 ⟨x', rfl, hB, ix, rx⟩
    replace ix := Lib.hid ix
    replace kp_ := Keeps.on kp_ (by omega) hB
    replace b_ := b_.trans (hB.mono (by omega))
    have ly_41 : y_38.heap.size ≤ y_41.heap.size := hB.size
    replace RP := RP.on hB
    replace RD := RD.on hB
    clear hB
    refine hK _ _ ⟨fun _ _ => kp_, ?_⟩
    clear hK K
    try simp only [Act.put, List.setIfInBounds_toArray, List.set_cons_zero, List.set_cons_succ]
    refine pureE (i := 6) (L := #[true, true, true, true, true, true, true, false, false, false, false, false]) (v := ?_) rfl (by rfl) (by kernel_rfl) (by kernel_rfl) (by kernel_rfl) (fun _ _ _ h => hpan (by rfl) h) (by rfl) ?hy84 ?rest84
    case hy84 => intro w; go_simp; (try with_reducible rfl)
    try simp only [Act.put, List.setIfInBounds_toArray, List.set_cons_zero, List.set_cons_succ]
    refine pureE (i := 7) (L := #[true, true, true, true, true, true, true, true, false, false, false, false]) (v := ?_) rfl (by rfl) (by kernel_rfl) (by kernel_rfl) (by kernel_rfl) (fun _ _ _ h => hpan (by rfl) h) (by rfl) ?hy85 ?rest85
    case hy85 => intro w; go_simp; (try with_reducible rfl)
    try simp only [Act.put, List.setIfInBounds_toArray, List.set_cons_zero, List.set_cons_succ]
    refine pureE (i := 8) (L := #[true, true, true, true, true, true, true, true, true, false, false, false]) (v := ?_) rfl (by rfl) (by kernel_rfl) (by kernel_rfl) (by kernel_rfl) (fun _ _ _ h => hpan (by rfl) h) (by rfl) ?hy86 ?rest86
    case hy86 => intro w; go_simp; (try with_reducible rfl)
    try simp only [Act.put, List.setIfInBounds_toArray, List.set_cons_zero, List.set_cons_succ]
    refine stepK (i := 9) (L := #[true, true, true, true, true, true, true, true, true, true, false, false]) rfl (by rfl) (by kernel_rfl) (by rfl) (fun K hK => ?_)
    go_simp
    obtain ⟨y_42, hw_, hV9, hB, hl_⟩ := alloc_z y_41
    rw [hw_]
    clear hw_
    replace kp_ := Keeps.on kp_ (by omega) hB
    replace b_ := b_.trans (hB.mono (by omega))
    have ly_42 : y_41.heap.size ≤ y_42.heap.size := hB.size
    replace rx := rx.below hB (by omega)
    clear hB
    refine hK _ _ ⟨fun _ _ => kp_, ?_⟩
    clear hK K
    try simp only [Act.put, List.setIfInBounds_toArray, List.set_cons_zero, List.set_cons_succ]
    obtain ⟨⟨z0, z1, z2, z3, z4, z5, z6, z7, z8, z9, z10, z11⟩, zf⟩ := MBox.cells hV9
    obtain ⟨y_43, hw_, n_, hb_, hf_, ly_43, l2y_43⟩ := all_to hV9 x'
    refine stepK (i := 10) (L := #[true, true, true, true, true, true, true, true, true, true, true, false]) rfl (by rfl) (by kernel_rfl) (by rfl) (fun K hK => ?_)
    go_simp
    try rw [hw_]
    replace kp_ : Keeps _ y_43 := fun p hp => (hf_ _ (by omega)).trans (kp_ p hp)
    replace b_ := hb_ _ _ b_ (by omega)
    refine hK _ _ ⟨fun _ _ => kp_, ?_⟩
    clear hK K hw_ z0 z1 z2 z3 z4 z5 z6 z7 z8 z9 z10 z11 zf hb_
    try simp only [Act.put, List.setIfInBounds_toArray, List.set_cons_zero, List.set_cons_succ]
    replace hV9 : MBox y_43 _ _ := n_
    replace rx := rows_rng rx (w' := y_43) (fun b h1 h2 => hf_ b (by omega))
    clear hf_
    refine pureE (i := 11) (L := #[true, true, true, true, true, true, true, true, true, true, true, true]) (v := ?_) rfl (by rfl) (by kernel_rfl) (by kernel_rfl) (by kernel_rfl) (fun _ _ _ h => hpan (by rfl) h) (by rfl) ?hy89 ?rest89
    case hy89 => intro w; go_simp; (try with_reducible rfl)
    try simp only [Act.put, List.setIfInBounds_toArray, List.set_cons_zero, List.set_cons_succ]
    refine doneE (by kernel_rfl) ?_ _
    exact hE y_41.heap.size x' _ _ _ _ _ _ _ _ _ _ (by omega) hV9 b_ ix.out (rx.more (by omega) (by omega))
  case o_40 =>
    
    go_simp
    obtain ⟨y_44, hw_, hV9, hB, hl_⟩ := alloc_z y_38
    rw [hw_]
    clear hw_
    replace kp_ := Keeps.on kp_ (by omega) hB
    replace b_ := b_.trans (hB.mono (by omega))
    have ly_44 : y_38.heap.size ≤ y_44.heap.size := hB.size
    replace RP := RP.on hB
    replace RD := RD.on hB
    clear hB
    refine hK _ _ ⟨fun _ _ => kp_, ?_⟩
    clear hK K
    try simp only [Act.put, List.setIfInBounds_toArray, List.set_cons_zero, List.set_cons_succ]
    refine stepK (i := 5) (L := #[true, true, true, true, true, true, false, false, false, true, false, false]) rfl (by rfl) (by kernel_rfl) (by rfl) (fun K hK => ?_)
    go_simp
    go_at_call 45
    refine (Done_num y_44 dP d RP RD (hT.below b_ hT.lt) T 0 HDN.out).mono ?_
    rintro e' y_45 ⟨x', rfl, hB, ix, rx⟩
    replace ix := Lib.hid ix
    replace kp_ := Keeps.on kp_ (by omega) hB
    replace b_ := b_.trans (hB.mono (by omega))
    have ly_45 : y_44.heap.size ≤ y_45.heap.size := hB.size
    replace hV9 := box_on hV9 hB (lt_of_heap hV9)
    replace RP := RP.on hB
    replace RD := RD.on hB
    clear hB
    refine hK _ _ ⟨fun _ _ => kp_, ?_⟩
    clear hK K
    try simp only [Act.put, List.setIfInBounds_toArray, List.set_cons_zero, List.set_cons_succ]
    refine pureE (i := 6) (L := #[true, true, true, true, true, true, true, false, false, true, false, false]) (v := ?_) rfl (by rfl) (by kernel_rfl) (by kernel_rfl) (by kernel_rfl) (fun _ _ _ h => hpan (by rfl) h) (by rfl) ?hy91 ?rest91
    case hy91 => intro w; go_simp; (try with_reducible rfl)
    try simp only [Act.put, List.setIfInBounds_toArray, List.set_cons_zero, List.set_cons_succ]
    refine pureE (i := 7) (L := #[true, true, true, true, true, true, true, true, false, true, false, false]) (v := ?_) rfl (by rfl) (by kernel_rfl) (by kernel_rfl) (by kernel_rfl) (fun _ _ _ h => hpan (by rfl) h) (by rfl) ?hy92 ?rest92
    case hy92 => intro w; go_simp; (try with_reducible rfl)
    try simp only [Act.put, List.setIfInBounds_toArray, List.set_cons_zero, List.set_cons_succ]
    refine pureE (i := 8) (L := #[true, true, true, true, true, true, true, true, true, true, false, false]) (v := ?_) rfl (by rfl) (by kernel_rfl) (by kernel_rfl) (by kernel_rfl) (fun _ _ _ h => hpan (by rfl) h) (by rfl) ?hy93 ?rest93
    case hy93 => intro w; go_simp; (try with_reducible rfl)
    try simp only [Act.put, List.setIfInBounds_toArray, List.set_cons_zero, List.set_cons_succ]
    obtain ⟨⟨z0, z1, z2, z3, z4, z5, z6, z7, z8, z9, z10, z11⟩, zf⟩ := MBox.cells hV9
    obtain ⟨y_46, hw_, n_, hb_, hf_, ly_46, l2y_46⟩ := all_to hV9 x'
    refine stepK (i := 10) (L := #[true, true, true, true, true, true, true, true, true, true, true, false]) rfl (by rfl) (by kernel_rfl) (by rfl) (fun K hK => ?_)
    go_simp
    try rw [hw_]
    replace kp_ : Keeps _ y_46 := fun p hp => (hf_ _ (by omega)).trans (kp_ p hp)
    replace b_ := hb_ _ _ b_ (by omega)
    refine hK _ _ ⟨fun _ _ => kp_, ?_⟩
    clear hK K hw_ z0 z1 z2 z3 z4 z5 z6 z7 z8 z9 z10 z11 zf hb_
    try simp only [Act.put, List.setIfInBounds_toArray, List.set_cons_zero, List.set_cons_succ]
    replace hV9 : MBox y_46 _ _ := n_
    replace rx := rows_rng rx (w' := y_46) (fun b h1 h2 => hf_ b (by omega))
    clear hf_
    refine pureE (i := 11) (L := #[true, true, true, true, true, true, true, true, true, true, true, true]) (v := ?_) rfl (by rfl) (by kernel_rfl) (by kernel_rfl) (by kernel_rfl) (fun _ _ _ h => hpan (by rfl) h) (by rfl) ?hy95 ?rest95
    case hy95 => intro w; go_simp; (try with_reducible rfl)
    try simp only [Act.put, List.setIfInBounds_toArray, List.set_cons_zero, List.set_cons_succ]
    refine doneE (by kernel_rfl) ?_ _
    exact hE y_38.heap.size x' _ _ _ _ _ _ _ _ _ _ (by omega) hV9 b_ ix.out (rx.more (by omega) (by omega))
end Ma
end Go.Proofs.YtlbkepiflhchdaaDoor
