/- The law MeanNames: a walk (printed by a program of mine). -/
/- The statement MeanNames is proved, tied to the program's text: for every input the law answers true and leaves it as it was. No conditions. -/
import Derived.Test.YtlbkepiflhchdaaDoorBm32
import Derived.Test.YtlbkepiflhchdaaDoorBm27
import Derived.Test.YtlbkepiflhchdaaDoorCards
import Derived.Test.YtlbkepiflhchdaaDoorTie
import Derived.SevenTiedAt
namespace Go.Proofs.YtlbkepiflhchdaaDoor
open Go.RowKit
namespace Ma
open Dp Dy
/-- 2^-1024, as an average. -/
def tiR (x : Nat) : Dn := if x = 3 then ⟨false, 1, 1024⟩ else Dn.zero
theorem tiR_may : MayR tiR := four zero_may zero_may zero_may (may_small _ _ _ (by decide) (by decide) (by decide) (by decide))
theorem tiny_is (A : Option Addr) : IsM tiR ⟨⟨false, none, 0, 0, 0, []⟩, ⟨false, none, 0, 0, 0, []⟩, ⟨false, none, 0, 0, 0, []⟩, ⟨false, A, 1, 1, 1024, [1]⟩⟩ := four Is.zero Is.zero Is.zero ⟨rfl, rfl, (canon_one 1 (by decide) (by decide)).symm⟩
theorem tiny_half16 : halfD ⟨false, 1, 1024⟩ = (Dn.zero, 10) := by
  have h : strip 1025 1 = (1, 1025) := by simp [strip]
  unfold halfD formed
  simp only [h]
  simp
theorem bad_not : ¬ Mv.may ⟨⟨true, none, 0, 0, 0, []⟩, ⟨false, none, 0, 0, 0, []⟩, ⟨false, none, 0, 0, 0, []⟩, ⟨false, none, 0, 0, 0, []⟩⟩ := fun k => by
  have h := k 0 (by decide)
  exact absurd (h.2.2.2.1 rfl).2 (by decide)
theorem nm_meet {t : Mv} (h : IsM tiR t) : meetM t ZM = ((zR, zR), 10) := by
  have h2 : midD (dnM t 3) (dnM ZM 3) = ((Dn.zero, Dn.zero), 10) := by
    rw [h.dnm 3 (by decide), IsM.zero.dnm 3 (by decide)]
    have e : addD ⟨false, 1, 1024⟩ Dn.zero = (⟨false, 1, 1024⟩, 0) := add_zero (may_small _ _ _ (by decide) (by decide) (by decide) (by decide))
    show midD ⟨false, 1, 1024⟩ Dn.zero = _
    unfold midD
    rw [e]
    simp only
    rw [tiny_half16, if_neg (by simp)]
  unfold meetM
  rw [if_pos ⟨h.may tiR_may, IsM.zero.may zR_may⟩, h2, if_neg (by simp)]
theorem nm_done {t b : Mv} (h : ¬ b.may) : doneM t b = (zR, 8) := by
  unfold doneM
  rw [if_neg fun k => h k.2]
theorem nm_bad {b : Mv} (h : ¬ b.may) : farM [b] = ((Dn.zero, Dn.zero), 8) := by
  unfold farM
  rw [if_neg (by simp), if_pos ⟨b, by simp, h⟩]
theorem sub_self {a : Dn} : subD a a = (Dn.zero, 0) := sub_of (K := a.e) zero_may (Nat.le_refl _) (Nat.le_refl _) (Nat.zero_le _) (by rw [vl_zero]; omega)
theorem nm_far {t : Mv} (h : IsM tiR t) : farM [t] = ((Dn.zero, Dn.zero), 0) := by
  refine far_of (by simp) (fun m hm => ?_) ?_ ?_
  · obtain rfl : m = t := by simpa using hm
    exact h.may tiR_may
  · exact sub_self
  · exact sub_self
theorem far_none16 : farM [] = ((Dn.zero, Dn.zero), 6) := by
  unfold farM
  rw [if_neg (by simp), if_neg (by simp), if_neg (by simp [colM, farL_nil]), if_pos rfl]
/-- 5 and 1; 7 and -1/2. -/
def xR (x : Nat) : Dn := if x = 0 then ⟨false, 5, 0⟩ else if x = 1 then ⟨false, 1, 0⟩ else Dn.zero
def yR (x : Nat) : Dn := if x = 0 then ⟨false, 7, 0⟩ else if x = 2 then ⟨true, 1, 1⟩ else Dn.zero
def zzR (x : Nat) : Dn := if x = 0 then ⟨false, 5, 0⟩ else if x = 1 then ⟨false, 1, 0⟩ else if x = 2 then ⟨true, 1, 1⟩ else Dn.zero
theorem xR_may : MayR xR := four (small _ _ (by decide) (by decide)) (small _ _ (by decide) (by decide)) zero_may zero_may
theorem hf_may : Dn.May ⟨true, 1, 1⟩ := may_small _ _ _ (by decide) (by decide) (by decide) (by decide)
theorem yR_may : MayR yR := four (small _ _ (by decide) (by decide)) zero_may hf_may zero_may
theorem nm_add {p q : Mv} (hp : IsM xR p) (hq : IsM yR q) : ∃ T, doneM p q = (T, 0) ∧ ∀ j, j < 4 → T j = zzR j := by
  obtain ⟨T, hT, hx⟩ := addM_of (T := zzR) (S := fun x => if x = 2 then ⟨true, 1, 1⟩ else Dn.zero) (b := ⟨ZM.S, ZM.W, q.C, q.A⟩) hp (four Is.zero Is.zero (hq 2 (by decide)) (hq 3 (by decide))) xR_may (four zero_may zero_may hf_may zero_may)
    (four (add_zero (xR_may 0 (by decide))) (add_zero (xR_may 1 (by decide))) (zero_add hf_may) (add_zero zero_may))
  refine ⟨T, ?_, hx⟩
  unfold doneM
  rw [if_pos ⟨hp.may xR_may, hq.may yR_may⟩]
  exact hT
set_option maxHeartbeats 51200000 in
set_option maxRecDepth 100000 in
theorem names16_walk (w : World) (hT : Tab w) :
    Calls Tryd.prog 15 #[] w (Yes w) := by
  have a_ : Amid w w := ⟨Below.refl _ _, hT⟩
  have g0 := hT.lt
  obtain ⟨q, hq⟩ : ∃ q : Dn, q = ⟨true, 1, 1⟩ := ⟨_, rfl⟩
  have HQ := Lib.hid hq
  clear hq
  go_enter Tryd.func15, Tryd.ntmps15
  go_wp2_with fail
  generalize hww_1 : ((w.alloc (.cells #[.int .u32 1] 52)).alloc (.cells #[.bool false, .slice none 0 0, .int .i64 0, .bool false, .slice none 0 0, .int .i64 0, .bool false, .slice none 0 0, .int .i64 0, .bool false, .slice (some ⟨w.heap.size, 0, none⟩) 1 1, .int .i64 1024] 39)).alloc (.cells #[.bool true, .slice none 0 0, .int .i64 0, .bool false, .slice none 0 0, .int .i64 0, .bool false, .slice none 0 0, .int .i64 0, .bool false, .slice none 0 0, .int .i64 0] 39) = w_1 at *
  obtain ⟨X1, X2, X3, hB, low_1, hiw_1⟩ := boxes3 w _ _ _ hww_1
  replace hB : Below w.heap.size w w_1 := hB
  have lw_1 : w.heap.size ≤ w_1.heap.size := hB.size
  replace a_ := Amid.on a_ hB
  obtain ⟨T, hTe⟩ : ∃ T : Mv, T = ⟨⟨false, none, 0, 0, 0, []⟩, ⟨false, none, 0, 0, 0, []⟩, ⟨false, none, 0, 0, 0, []⟩, ⟨false, some ⟨w.heap.size, 0, none⟩, 1, 1, 1024, [1]⟩⟩ := ⟨_, rfl⟩
  obtain ⟨D, hDe⟩ : ∃ D : Mv, D = ⟨⟨true, none, 0, 0, 0, []⟩, ⟨false, none, 0, 0, 0, []⟩, ⟨false, none, 0, 0, 0, []⟩, ⟨false, none, 0, 0, 0, []⟩⟩ := ⟨_, rfl⟩
  have hMt : MBox w_1 (w.heap.size + 1) T := by rw [hTe]; exact X2
  have hMd : MBox w_1 (w.heap.size + 1 + 1) D := by rw [hDe]; exact X3
  have I1 : Ints w_1 0 w_1.heap.size .u32 (some ⟨w.heap.size, 0, none⟩) 1 [1] := ⟨rfl, by decide, by decide, fun _ => ⟨_, 0, rfl, Nat.zero_le _, by omega, fun j hj => by
    obtain rfl : j = 0 := by omega
    exact ⟨cell_of_row _ _ 0 _ _ _ X1, frozen_of_row _ _ 0 _ _ X1⟩⟩⟩
  have Rt : MRows w_1 0 w_1.heap.size T := by rw [hTe]; exact ⟨Ints.nil_ .., Ints.nil_ .., Ints.nil_ .., I1⟩
  have Rd : MRows w_1 0 w_1.heap.size D := by rw [hDe]; exact ⟨Ints.nil_ .., Ints.nil_ .., Ints.nil_ .., Ints.nil_ ..⟩
  have ht := Lib.hid (show IsM tiR T by rw [hTe]; exact tiny_is _)
  have hd := Lib.hid (show ¬ D.may by rw [hDe]; exact bad_not)
  clear hTe hDe hB X1 X2 X3 I1
  refine (Far_num w_1 none 0 0 [] ⟨rfl, by decide, fun h => absurd h (by decide), fun j hj => absurd hj (Nat.not_lt_zero _)⟩ (by decide) a_.tab Dn.zero Dn.zero 6 far_none16).mono ?_
  rintro e' w_2 ⟨X1, Y1, rfl, hB, hX, hY, B2, lb1, lb2, iX, iY⟩
  have lw_2 : w_1.heap.size ≤ w_2.heap.size := hB.size
  replace hMt := box_on hMt hB (by omega)
  replace hMd := box_on hMd hB (by omega)
  replace Rt := MRows.on Rt hB
  replace Rd := MRows.on Rd hB
  replace a_ := Amid.on a_ hB
  try clear hww_1
  clear iX iY hX hY lb1 lb2
  clear hB
  generalize hww_3 : (w_2.alloc (.cells #[.bool X1.s, .slice X1.A X1.n X1.c, .int .i64 X1.e] 24)).alloc (.cells #[.bool Y1.s, .slice Y1.A Y1.n Y1.c, .int .i64 Y1.e] 24) = w_3 at *
  obtain ⟨hDX1, hDY1, hB, low_3, hiw_3⟩ := boxes2 w_2 _ _ hww_3
  replace hB : Below w_2.heap.size w_2 w_3 := hB
  replace hDX1 : w_3.heap[w_2.heap.size]? = some (.cells #[.bool X1.s, .slice X1.A X1.n X1.c, .int .i64 X1.e] 24 (0, 0)) := hDX1
  replace hDY1 : w_3.heap[w_2.heap.size + 1]? = some (.cells #[.bool Y1.s, .slice Y1.A Y1.n Y1.c, .int .i64 Y1.e] 24 (0, 0)) := hDY1
  have lw_3 : w_2.heap.size ≤ w_3.heap.size := hB.size
  replace hMt := box_on hMt hB (by omega)
  replace hMd := box_on hMd hB (by omega)
  replace Rt := MRows.on Rt hB
  replace Rd := MRows.on Rd hB
  replace a_ := Amid.on a_ hB
  clear hB
  clear hDX1 hDY1
  obtain ⟨⟨q_4_0, q_4_1, q_4_2, q_4_3, q_4_4, q_4_5, q_4_6, q_4_7, q_4_8, q_4_9, q_4_10, q_4_11⟩, q_4f⟩ := MBox.cells hMt
  go_wp2_with fail
  refine (Meet_num w_3 T ZM Rt (ZM_rows ..) a_.tab zR zR 10 (nm_meet ht.out)).mono ?_
  rintro e' w_5 ⟨m, d, rfl, hB, hm, hd_, B1, lb1, lb2, rm, rd⟩
  clear q_4_0 q_4_1 q_4_2 q_4_3 q_4_4 q_4_5 q_4_6 q_4_7 q_4_8 q_4_9 q_4_10 q_4_11 q_4f
  have lw_5 : w_3.heap.size ≤ w_5.heap.size := hB.size
  replace hMt := box_on hMt hB (by omega)
  replace hMd := box_on hMd hB (by omega)
  replace Rt := MRows.on Rt hB
  replace Rd := MRows.on Rd hB
  replace a_ := Amid.on a_ hB
  try clear hww_3
  clear hm hd_ lb1 lb2 rm rd
  clear hB
  generalize hww_6 : (w_5.alloc (.cells #[.bool m.S.s, .slice m.S.A m.S.n m.S.c, .int .i64 m.S.e, .bool m.W.s, .slice m.W.A m.W.n m.W.c, .int .i64 m.W.e, .bool m.C.s, .slice m.C.A m.C.n m.C.c, .int .i64 m.C.e, .bool m.A.s, .slice m.A.A m.A.n m.A.c, .int .i64 m.A.e] 39)).alloc (.cells #[.bool d.S.s, .slice d.S.A d.S.n d.S.c, .int .i64 d.S.e, .bool d.W.s, .slice d.W.A d.W.n d.W.c, .int .i64 d.W.e, .bool d.C.s, .slice d.C.A d.C.n d.C.c, .int .i64 d.C.e, .bool d.A.s, .slice d.A.A d.A.n d.A.c, .int .i64 d.A.e] 39) = w_6 at *
  obtain ⟨hMm, hMd2, hB, low_6, hiw_6⟩ := boxes2 w_5 _ _ hww_6
  replace hB : Below w_5.heap.size w_5 w_6 := hB
  have lw_6 : w_5.heap.size ≤ w_6.heap.size := hB.size
  replace hMt := box_on hMt hB (by omega)
  replace hMd := box_on hMd hB (by omega)
  replace Rt := MRows.on Rt hB
  replace Rd := MRows.on Rd hB
  replace a_ := Amid.on a_ hB
  replace hMm : MBox w_6 w_5.heap.size m := hMm
  replace hMd2 : MBox w_6 (w_5.heap.size + 1) d := hMd2
  clear hB
  clear hMm hMd2
  obtain ⟨⟨q_7_0, q_7_1, q_7_2, q_7_3, q_7_4, q_7_5, q_7_6, q_7_7, q_7_8, q_7_9, q_7_10, q_7_11⟩, q_7f⟩ := MBox.cells hMt
  obtain ⟨⟨q_8_0, q_8_1, q_8_2, q_8_3, q_8_4, q_8_5, q_8_6, q_8_7, q_8_8, q_8_9, q_8_10, q_8_11⟩, q_8f⟩ := MBox.cells hMd
  go_wp2_with fail
  refine (Done_num w_6 T D Rt Rd a_.tab zR 8 (nm_done hd.out)).mono ?_
  rintro e' w_9 ⟨x, rfl, hB, hx, rx⟩
  clear q_7_0 q_7_1 q_7_2 q_7_3 q_7_4 q_7_5 q_7_6 q_7_7 q_7_8 q_7_9 q_7_10 q_7_11 q_7f q_8_0 q_8_1 q_8_2 q_8_3 q_8_4 q_8_5 q_8_6 q_8_7 q_8_8 q_8_9 q_8_10 q_8_11 q_8f
  have lw_9 : w_6.heap.size ≤ w_9.heap.size := hB.size
  replace hMt := box_on hMt hB (by omega)
  replace hMd := box_on hMd hB (by omega)
  replace Rt := MRows.on Rt hB
  replace Rd := MRows.on Rd hB
  replace a_ := Amid.on a_ hB
  try clear hww_6
  clear hx rx
  clear hB
  have hB := (Below.refl w_9.heap.size w_9).alloc (Nat.le_refl _) (.cells #[.bool x.S.s, .slice x.S.A x.S.n x.S.c, .int .i64 x.S.e, .bool x.W.s, .slice x.W.A x.W.n x.W.c, .int .i64 x.W.e, .bool x.C.s, .slice x.C.A x.C.n x.C.c, .int .i64 x.C.e, .bool x.A.s, .slice x.A.A x.A.n x.A.c, .int .i64 x.A.e] 39)
  have hMx : MBox (w_9.alloc (.cells #[.bool x.S.s, .slice x.S.A x.S.n x.S.c, .int .i64 x.S.e, .bool x.W.s, .slice x.W.A x.W.n x.W.c, .int .i64 x.W.e, .bool x.C.s, .slice x.C.A x.C.n x.C.c, .int .i64 x.C.e, .bool x.A.s, .slice x.A.A x.A.n x.A.c, .int .i64 x.A.e] 39)) w_9.heap.size x := heap_alloc_last _ _
  have mw_10 : w_9.heap.size < (w_9.alloc (.cells #[.bool x.S.s, .slice x.S.A x.S.n x.S.c, .int .i64 x.S.e, .bool x.W.s, .slice x.W.A x.W.n x.W.c, .int .i64 x.W.e, .bool x.C.s, .slice x.C.A x.C.n x.C.c, .int .i64 x.C.e, .bool x.A.s, .slice x.A.A x.A.n x.A.c, .int .i64 x.A.e] 39)).heap.size := by simp
  generalize hww_10 : w_9.alloc (.cells #[.bool x.S.s, .slice x.S.A x.S.n x.S.c, .int .i64 x.S.e, .bool x.W.s, .slice x.W.A x.W.n x.W.c, .int .i64 x.W.e, .bool x.C.s, .slice x.C.A x.C.n x.C.c, .int .i64 x.C.e, .bool x.A.s, .slice x.A.A x.A.n x.A.c, .int .i64 x.A.e] 39) = w_10 at *
  have lw_10 : w_9.heap.size ≤ w_10.heap.size := hB.size
  replace hMt := box_on hMt hB (by omega)
  replace hMd := box_on hMd hB (by omega)
  replace Rt := MRows.on Rt hB
  replace Rd := MRows.on Rd hB
  replace a_ := Amid.on a_ hB
  clear hB
  clear hMx
  go_wp2_with fail
  refine (Of_any w_10 5 (by decide) (by decide) false 5 rfl rfl).mono ?_
  rintro e' w_11 ⟨Aa, na, rfl, hB, hI⟩
  have lw_11 : w_10.heap.size ≤ w_11.heap.size := hB.size
  replace hMt := box_on hMt hB (by omega)
  replace hMd := box_on hMd hB (by omega)
  replace Rt := MRows.on Rt hB
  replace Rd := MRows.on Rd hB
  replace a_ := Amid.on a_ hB
  have ia := ints_all hI
  clear hI
  try clear hww_10
  clear hB
  go_wp2_with fail
  refine (Of_any w_11 1 (by decide) (by decide) false 1 rfl rfl).mono ?_
  rintro e' w_12 ⟨Ab, nb, rfl, hB, hI⟩
  have lw_12 : w_11.heap.size ≤ w_12.heap.size := hB.size
  replace hMt := box_on hMt hB (by omega)
  replace hMd := box_on hMd hB (by omega)
  replace Rt := MRows.on Rt hB
  replace Rd := MRows.on Rd hB
  replace ia := ints_on ia hB
  replace a_ := Amid.on a_ hB
  have ib := ints_all hI
  clear hI
  try clear hww_10
  clear hB
  go_wp2_with fail
  refine (Of_any w_12 7 (by decide) (by decide) false 7 rfl rfl).mono ?_
  rintro e' w_13 ⟨Ac, nc, rfl, hB, hI⟩
  have lw_13 : w_12.heap.size ≤ w_13.heap.size := hB.size
  replace hMt := box_on hMt hB (by omega)
  replace hMd := box_on hMd hB (by omega)
  replace Rt := MRows.on Rt hB
  replace Rd := MRows.on Rd hB
  replace ia := ints_on ia hB
  replace ib := ints_on ib hB
  replace a_ := Amid.on a_ hB
  have ic := ints_all hI
  clear hI
  try clear hww_10
  clear hB
  go_wp2_with fail
  refine (half16_any w_13 true q HQ.out).mono ?_
  rintro e' w_14 ⟨Ah, nh, ch, rfl, hB, hI⟩
  have lw_14 : w_13.heap.size ≤ w_14.heap.size := hB.size
  replace hMt := box_on hMt hB (by omega)
  replace hMd := box_on hMd hB (by omega)
  replace Rt := MRows.on Rt hB
  replace Rd := MRows.on Rd hB
  replace ia := ints_on ia hB
  replace ib := ints_on ib hB
  replace ic := ints_on ic hB
  replace a_ := Amid.on a_ hB
  have ih := ints_all hI
  clear hI
  clear hB
  have hP := Lib.hid (show IsM xR ⟨⟨false, Aa, na, na, 0, canon 4294967296 5⟩, ⟨false, Ab, nb, nb, 0, canon 4294967296 1⟩, ⟨false, none, 0, 0, 0, []⟩, ⟨false, none, 0, 0, 0, []⟩⟩ from four ⟨rfl, rfl, rfl⟩ ⟨rfl, rfl, rfl⟩ Is.zero Is.zero)
  have hQ := Lib.hid (show IsM yR ⟨⟨false, Ac, nc, nc, 0, canon 4294967296 7⟩, ⟨false, none, 0, 0, 0, []⟩, ⟨q.neg, Ah, nh, ch, q.e, canon 4294967296 q.m⟩, ⟨false, none, 0, 0, 0, []⟩⟩ from four ⟨rfl, rfl, rfl⟩ Is.zero (by show Is ⟨true, 1, 1⟩ _; rw [← HQ.out]; exact ⟨rfl, rfl, rfl⟩) Is.zero)
  obtain ⟨TT, hTT, hTx⟩ := nm_add hP.out hQ.out
  have HTT := Lib.hid hTT
  replace hTx := Lib.hid hTx
  clear hTT hP hQ
  go_wp2_with fail
  refine (Done_num w_14 ⟨⟨false, Aa, na, na, 0, canon 4294967296 5⟩, ⟨false, Ab, nb, nb, 0, canon 4294967296 1⟩, ⟨false, none, 0, 0, 0, []⟩, ⟨false, none, 0, 0, 0, []⟩⟩ ⟨⟨false, Ac, nc, nc, 0, canon 4294967296 7⟩, ⟨false, none, 0, 0, 0, []⟩, ⟨q.neg, Ah, nh, ch, q.e, canon 4294967296 q.m⟩, ⟨false, none, 0, 0, 0, []⟩⟩ ⟨ia, ib, (Ints.nil_ ..), (Ints.nil_ ..)⟩ ⟨ic, (Ints.nil_ ..), ih, (Ints.nil_ ..)⟩ a_.tab TT 0 HTT.out).mono ?_
  rintro e' w_15 ⟨y, rfl, hB, hy, ry⟩
  have lw_15 : w_14.heap.size ≤ w_15.heap.size := hB.size
  replace hMt := box_on hMt hB (by omega)
  replace hMd := box_on hMd hB (by omega)
  replace Rt := MRows.on Rt hB
  replace Rd := MRows.on Rd hB
  replace ia := ints_on ia hB
  replace ib := ints_on ib hB
  replace ic := ints_on ic hB
  replace ih := ints_on ih hB
  replace a_ := Amid.on a_ hB
  have Ry := MRows.more ry (Nat.zero_le _) (Nat.le_refl _)
  clear ry
  replace hy := Lib.hid hy
  clear hB
  clear ia ib ic ih
  have hB := (Below.refl w_15.heap.size w_15).alloc (Nat.le_refl _) (.cells #[.bool y.S.s, .slice y.S.A y.S.n y.S.c, .int .i64 y.S.e, .bool y.W.s, .slice y.W.A y.W.n y.W.c, .int .i64 y.W.e, .bool y.C.s, .slice y.C.A y.C.n y.C.c, .int .i64 y.C.e, .bool y.A.s, .slice y.A.A y.A.n y.A.c, .int .i64 y.A.e] 39)
  have hMy : MBox (w_15.alloc (.cells #[.bool y.S.s, .slice y.S.A y.S.n y.S.c, .int .i64 y.S.e, .bool y.W.s, .slice y.W.A y.W.n y.W.c, .int .i64 y.W.e, .bool y.C.s, .slice y.C.A y.C.n y.C.c, .int .i64 y.C.e, .bool y.A.s, .slice y.A.A y.A.n y.A.c, .int .i64 y.A.e] 39)) w_15.heap.size y := heap_alloc_last _ _
  have mw_16 : w_15.heap.size < (w_15.alloc (.cells #[.bool y.S.s, .slice y.S.A y.S.n y.S.c, .int .i64 y.S.e, .bool y.W.s, .slice y.W.A y.W.n y.W.c, .int .i64 y.W.e, .bool y.C.s, .slice y.C.A y.C.n y.C.c, .int .i64 y.C.e, .bool y.A.s, .slice y.A.A y.A.n y.A.c, .int .i64 y.A.e] 39)).heap.size := by simp
  generalize hww_16 : w_15.alloc (.cells #[.bool y.S.s, .slice y.S.A y.S.n y.S.c, .int .i64 y.S.e, .bool y.W.s, .slice y.W.A y.W.n y.W.c, .int .i64 y.W.e, .bool y.C.s, .slice y.C.A y.C.n y.C.c, .int .i64 y.C.e, .bool y.A.s, .slice y.A.A y.A.n y.A.c, .int .i64 y.A.e] 39) = w_16 at *
  have lw_16 : w_15.heap.size ≤ w_16.heap.size := hB.size
  replace hMt := box_on hMt hB (by omega)
  replace hMd := box_on hMd hB (by omega)
  replace Rt := MRows.on Rt hB
  replace Rd := MRows.on Rd hB
  replace Ry := MRows.on Ry hB
  replace a_ := Amid.on a_ hB
  clear hB
  obtain ⟨⟨q_17_0, q_17_1, q_17_2, q_17_3, q_17_4, q_17_5, q_17_6, q_17_7, q_17_8, q_17_9, q_17_10, q_17_11⟩, q_17f⟩ := MBox.cells hMd
  go_wp2_with fail
  try clear hww_16
  generalize hww_18 : w_16.alloc (.cells #[.bool D.S.s, .slice D.S.A D.S.n D.S.c, .int .i64 D.S.e, .bool D.W.s, .slice D.W.A D.W.n D.W.c, .int .i64 D.W.e, .bool D.C.s, .slice D.C.A D.C.n D.C.c, .int .i64 D.C.e, .bool D.A.s, .slice D.A.A D.A.n D.A.c, .int .i64 D.A.e] 39) = w_18 at *
  have hLL := lms_one1 w_16 D Rd hww_18
  have hB : Below w_16.heap.size w_16 w_18 := by rw [← hww_18]; exact (Below.refl _ _).alloc (Nat.le_refl _) _
  clear q_17_0 q_17_1 q_17_2 q_17_3 q_17_4 q_17_5 q_17_6 q_17_7 q_17_8 q_17_9 q_17_10 q_17_11 q_17f
  have lw_18 : w_16.heap.size ≤ w_18.heap.size := hB.size
  replace hMt := box_on hMt hB (by omega)
  replace hMd := box_on hMd hB (by omega)
  replace hMy := box_on hMy hB (by omega)
  replace Rt := MRows.on Rt hB
  replace Rd := MRows.on Rd hB
  replace Ry := MRows.on Ry hB
  replace a_ := Amid.on a_ hB
  clear hB
  refine (Far_num w_18 _ 1 1 [D] hLL (by decide) a_.tab Dn.zero Dn.zero 8 (nm_bad hd.out)).mono ?_
  rintro e' w_19 ⟨Xd, Yd, rfl, hB, hXd, hYd, B2, lb1, lb2, iX, iY⟩
  have lw_19 : w_18.heap.size ≤ w_19.heap.size := hB.size
  replace hMt := box_on hMt hB (by omega)
  replace hMd := box_on hMd hB (by omega)
  replace hMy := box_on hMy hB (by omega)
  replace Rt := MRows.on Rt hB
  replace Rd := MRows.on Rd hB
  replace Ry := MRows.on Ry hB
  replace a_ := Amid.on a_ hB
  try clear hww_18
  clear hLL
  clear hB
  clear hXd hYd iX iY lb1 lb2
  generalize hww_20 : (w_19.alloc (.cells #[.bool Xd.s, .slice Xd.A Xd.n Xd.c, .int .i64 Xd.e] 24)).alloc (.cells #[.bool Yd.s, .slice Yd.A Yd.n Yd.c, .int .i64 Yd.e] 24) = w_20 at *
  obtain ⟨hDXd, hDYd, hB, low_20, hiw_20⟩ := boxes2 w_19 _ _ hww_20
  replace hB : Below w_19.heap.size w_19 w_20 := hB
  replace hDXd : w_20.heap[w_19.heap.size]? = some (.cells #[.bool Xd.s, .slice Xd.A Xd.n Xd.c, .int .i64 Xd.e] 24 (0, 0)) := hDXd
  replace hDYd : w_20.heap[w_19.heap.size + 1]? = some (.cells #[.bool Yd.s, .slice Yd.A Yd.n Yd.c, .int .i64 Yd.e] 24 (0, 0)) := hDYd
  have lw_20 : w_19.heap.size ≤ w_20.heap.size := hB.size
  replace hMt := box_on hMt hB (by omega)
  replace hMd := box_on hMd hB (by omega)
  replace hMy := box_on hMy hB (by omega)
  replace Rt := MRows.on Rt hB
  replace Rd := MRows.on Rd hB
  replace Ry := MRows.on Ry hB
  replace a_ := Amid.on a_ hB
  clear hB
  clear hDXd hDYd
  obtain ⟨⟨q_21_0, q_21_1, q_21_2, q_21_3, q_21_4, q_21_5, q_21_6, q_21_7, q_21_8, q_21_9, q_21_10, q_21_11⟩, q_21f⟩ := MBox.cells hMt
  go_wp2_with fail
  try clear hww_20
  generalize hww_22 : w_20.alloc (.cells #[.bool T.S.s, .slice T.S.A T.S.n T.S.c, .int .i64 T.S.e, .bool T.W.s, .slice T.W.A T.W.n T.W.c, .int .i64 T.W.e, .bool T.C.s, .slice T.C.A T.C.n T.C.c, .int .i64 T.C.e, .bool T.A.s, .slice T.A.A T.A.n T.A.c, .int .i64 T.A.e] 39) = w_22 at *
  have hLL := lms_one1 w_20 T Rt hww_22
  have hB : Below w_20.heap.size w_20 w_22 := by rw [← hww_22]; exact (Below.refl _ _).alloc (Nat.le_refl _) _
  clear q_21_0 q_21_1 q_21_2 q_21_3 q_21_4 q_21_5 q_21_6 q_21_7 q_21_8 q_21_9 q_21_10 q_21_11 q_21f
  have lw_22 : w_20.heap.size ≤ w_22.heap.size := hB.size
  replace hMt := box_on hMt hB (by omega)
  replace hMd := box_on hMd hB (by omega)
  replace hMy := box_on hMy hB (by omega)
  replace Rt := MRows.on Rt hB
  replace Rd := MRows.on Rd hB
  replace Ry := MRows.on Ry hB
  replace a_ := Amid.on a_ hB
  clear hB
  refine (Far_num w_22 _ 1 1 [T] hLL (by decide) a_.tab Dn.zero Dn.zero 0 (nm_far ht.out)).mono ?_
  rintro e' w_23 ⟨Xt, Yt, rfl, hB, hXt, hYt, B2, lb1, lb2, iX, iY⟩
  have lw_23 : w_22.heap.size ≤ w_23.heap.size := hB.size
  replace hMt := box_on hMt hB (by omega)
  replace hMd := box_on hMd hB (by omega)
  replace hMy := box_on hMy hB (by omega)
  replace Rt := MRows.on Rt hB
  replace Rd := MRows.on Rd hB
  replace Ry := MRows.on Ry hB
  replace a_ := Amid.on a_ hB
  try clear hww_22
  clear hLL
  clear hB
  have JXt : Ints w_23 0 w_23.heap.size .u32 Xt.A Xt.n Xt.xs := iX.more (Nat.zero_le _) lb2
  have JYt : Ints w_23 0 w_23.heap.size .u32 Yt.A Yt.n Yt.xs := iY.more (Nat.zero_le _) (Nat.le_refl _)
  replace hXt := Lib.hid hXt
  replace hYt := Lib.hid hYt
  clear iX iY lb1 lb2
  generalize hww_24 : (w_23.alloc (.cells #[.bool Xt.s, .slice Xt.A Xt.n Xt.c, .int .i64 Xt.e] 24)).alloc (.cells #[.bool Yt.s, .slice Yt.A Yt.n Yt.c, .int .i64 Yt.e] 24) = w_24 at *
  obtain ⟨hDXt, hDYt, hB, low_24, hiw_24⟩ := boxes2 w_23 _ _ hww_24
  replace hB : Below w_23.heap.size w_23 w_24 := hB
  replace hDXt : w_24.heap[w_23.heap.size]? = some (.cells #[.bool Xt.s, .slice Xt.A Xt.n Xt.c, .int .i64 Xt.e] 24 (0, 0)) := hDXt
  replace hDYt : w_24.heap[w_23.heap.size + 1]? = some (.cells #[.bool Yt.s, .slice Yt.A Yt.n Yt.c, .int .i64 Yt.e] 24 (0, 0)) := hDYt
  have lw_24 : w_23.heap.size ≤ w_24.heap.size := hB.size
  replace hMt := box_on hMt hB (by omega)
  replace hMd := box_on hMd hB (by omega)
  replace hMy := box_on hMy hB (by omega)
  replace Rt := MRows.on Rt hB
  replace Rd := MRows.on Rd hB
  replace Ry := MRows.on Ry hB
  replace JXt := ints_on JXt hB
  replace JYt := ints_on JYt hB
  replace a_ := Amid.on a_ hB
  clear hB
  go_wp2_with fail
  try clear hww_24
  refine region_E (Keeps w_24) [] (m := 46) (L := #[false, false, false, false, false, false, false, false, false, false, false, false, false, false, false, false, false, false, false, false, false, false, false, false, false, false, false, false, false, false, false, false, false, false, false, false, false, false, false, false, false, false, false, false, false, false]) (by kernel_rfl) (by rfl) (by rfl) ?_
  have kp_ : Keeps w_24 w_24.drew := fun _ _ => rfl
  have hB : Below w_24.heap.size w_24 w_24.drew := (Below.refl _ _).drew
  replace Rt : MRows w_24.drew 0 w_24.drew.heap.size _ := MRows.on Rt hB
  replace Rd : MRows w_24.drew 0 w_24.drew.heap.size _ := MRows.on Rd hB
  replace Ry : MRows w_24.drew 0 w_24.drew.heap.size _ := MRows.on Ry hB
  replace JXt : Ints w_24.drew 0 w_24.drew.heap.size .u32 _ _ _ := ints_on JXt hB
  replace JYt : Ints w_24.drew 0 w_24.drew.heap.size .u32 _ _ _ := ints_on JYt hB
  replace a_ := Amid.on a_ hB
  have lw_25 : w_24.heap.size ≤ w_24.drew.heap.size := hB.size
  clear hB
  generalize w_24.drew = w_25 at *
  refine pureE (i := 0) (L := #[true, false, false, false, false, false, false, false, false, false, false, false, false, false, false, false, false, false, false, false, false, false, false, false, false, false, false, false, false, false, false, false, false, false, false, false, false, false, false, false, false, false, false, false, false, false]) (v := ?_) rfl (by rfl) (by kernel_rfl) (by kernel_rfl) (by kernel_rfl) (fun _ _ _ h => h) (by rfl) ?hy1 ?rest1
  case hy1 => intro w; go_simp; (try with_reducible rfl)
  try simp only [Act.put, List.setIfInBounds_toArray, List.set_cons_zero, List.set_cons_succ]
  refine stepK (i := 1) (L := #[true, true, false, false, false, false, false, false, false, false, false, false, false, false, false, false, false, false, false, false, false, false, false, false, false, false, false, false, false, false, false, false, false, false, false, false, false, false, false, false, false, false, false, false, false, false]) rfl (by rfl) (by kernel_rfl) (by rfl) (fun K hK => ?_)
  go_simp
  go_at_call 61
  refine (alive16_any w_25 a_.tab).mono ?_
  rintro e' w_26 ⟨rfl, hB⟩
  replace kp_ := Keeps.on kp_ (by omega) hB
  have lw_26 : w_25.heap.size ≤ w_26.heap.size := hB.size
  replace Rt := MRows.on Rt hB
  replace Rd := MRows.on Rd hB
  replace Ry := MRows.on Ry hB
  replace JXt := ints_on JXt hB
  replace JYt := ints_on JYt hB
  replace a_ := Amid.on a_ hB
  clear hB
  refine hK _ _ ⟨fun _ _ => kp_, ?_⟩
  clear hK K
  try simp only [Act.put, List.setIfInBounds_toArray, List.set_cons_zero, List.set_cons_succ]
  refine pureE (i := 2) (L := #[true, true, true, false, false, false, false, false, false, false, false, false, false, false, false, false, false, false, false, false, false, false, false, false, false, false, false, false, false, false, false, false, false, false, false, false, false, false, false, false, false, false, false, false, false, false]) (v := ?_) rfl (by rfl) (by kernel_rfl) (by kernel_rfl) (by kernel_rfl) (fun _ _ _ h => h) (by rfl) ?hy3 ?rest3
  case hy3 => intro w; go_simp; (try with_reducible rfl)
  try simp only [Act.put, List.setIfInBounds_toArray, List.set_cons_zero, List.set_cons_succ]
  refine pureE (i := 3) (L := #[true, true, true, true, false, false, false, false, false, false, false, false, false, false, false, false, false, false, false, false, false, false, false, false, false, false, false, false, false, false, false, false, false, false, false, false, false, false, false, false, false, false, false, false, false, false]) (v := ?_) rfl (by rfl) (by kernel_rfl) (by kernel_rfl) (by kernel_rfl) (fun _ _ _ h => h) (by rfl) ?hy4 ?rest4
  case hy4 => intro w; go_simp; (try with_reducible rfl)
  try simp only [Act.put, List.setIfInBounds_toArray, List.set_cons_zero, List.set_cons_succ]
  refine pureE (i := 4) (L := #[true, true, true, true, true, false, false, false, false, false, false, false, false, false, false, false, false, false, false, false, false, false, false, false, false, false, false, false, false, false, false, false, false, false, false, false, false, false, false, false, false, false, false, false, false, false]) (v := ?_) rfl (by rfl) (by kernel_rfl) (by kernel_rfl) (by kernel_rfl) (fun _ _ _ h => h) (by rfl) ?hy5 ?rest5
  case hy5 => intro w; go_simp; (try with_reducible rfl)
  try simp only [Act.put, List.setIfInBounds_toArray, List.set_cons_zero, List.set_cons_succ]
  refine pureE (i := 5) (L := #[true, true, true, true, true, true, false, false, false, false, false, false, false, false, false, false, false, false, false, false, false, false, false, false, false, false, false, false, false, false, false, false, false, false, false, false, false, false, false, false, false, false, false, false, false, false]) (v := ?_) rfl (by rfl) (by kernel_rfl) (by kernel_rfl) (by kernel_rfl) (fun _ _ _ h => h) (by rfl) ?hy6 ?rest6
  case hy6 => intro w; go_simp; (try with_reducible rfl)
  try simp only [Act.put, List.setIfInBounds_toArray, List.set_cons_zero, List.set_cons_succ]
  refine pureE (i := 6) (L := #[true, true, true, true, true, true, true, false, false, false, false, false, false, false, false, false, false, false, false, false, false, false, false, false, false, false, false, false, false, false, false, false, false, false, false, false, false, false, false, false, false, false, false, false, false, false]) (v := ?_) rfl (by rfl) (by kernel_rfl) (by kernel_rfl) (by kernel_rfl) (fun _ _ _ h => h) (by rfl) ?hy7 ?rest7
  case hy7 => intro w; go_simp; (try with_reducible rfl)
  try simp only [Act.put, List.setIfInBounds_toArray, List.set_cons_zero, List.set_cons_succ]
  refine pureE (i := 7) (L := #[true, true, true, true, true, true, true, true, false, false, false, false, false, false, false, false, false, false, false, false, false, false, false, false, false, false, false, false, false, false, false, false, false, false, false, false, false, false, false, false, false, false, false, false, false, false]) (v := ?_) rfl (by rfl) (by kernel_rfl) (by kernel_rfl) (by kernel_rfl) (fun _ _ _ h => h) (by rfl) ?hy8 ?rest8
  case hy8 => intro w; go_simp; (try with_reducible rfl)
  try simp only [Act.put, List.setIfInBounds_toArray, List.set_cons_zero, List.set_cons_succ]
  refine pureE (i := 8) (L := #[true, true, true, true, true, true, true, true, true, false, false, false, false, false, false, false, false, false, false, false, false, false, false, false, false, false, false, false, false, false, false, false, false, false, false, false, false, false, false, false, false, false, false, false, false, false]) (v := ?_) rfl (by rfl) (by kernel_rfl) (by kernel_rfl) (by kernel_rfl) (fun _ _ _ h => h) (by rfl) ?hy9 ?rest9
  case hy9 => intro w; go_simp; (try with_reducible rfl)
  try simp only [Act.put, List.setIfInBounds_toArray, List.set_cons_zero, List.set_cons_succ]
  refine pureE (i := 9) (L := #[true, true, true, true, true, true, true, true, true, true, false, false, false, false, false, false, false, false, false, false, false, false, false, false, false, false, false, false, false, false, false, false, false, false, false, false, false, false, false, false, false, false, false, false, false, false]) (v := ?_) rfl (by rfl) (by kernel_rfl) (by kernel_rfl) (by kernel_rfl) (fun _ _ _ h => h) (by rfl) ?hy10 ?rest10
  case hy10 => intro w; go_simp; (try with_reducible rfl)
  try simp only [Act.put, List.setIfInBounds_toArray, List.set_cons_zero, List.set_cons_succ]
  refine pureE (i := 10) (L := #[true, true, true, true, true, true, true, true, true, true, true, false, false, false, false, false, false, false, false, false, false, false, false, false, false, false, false, false, false, false, false, false, false, false, false, false, false, false, false, false, false, false, false, false, false, false]) (v := ?_) rfl (by rfl) (by kernel_rfl) (by kernel_rfl) (by kernel_rfl) (fun _ _ _ h => h) (by rfl) ?hy11 ?rest11
  case hy11 => intro w; go_simp; (try with_reducible rfl)
  try simp only [Act.put, List.setIfInBounds_toArray, List.set_cons_zero, List.set_cons_succ]
  refine pureE (i := 11) (L := #[true, true, true, true, true, true, true, true, true, true, true, true, false, false, false, false, false, false, false, false, false, false, false, false, false, false, false, false, false, false, false, false, false, false, false, false, false, false, false, false, false, false, false, false, false, false]) (v := ?_) rfl (by rfl) (by kernel_rfl) (by kernel_rfl) (by kernel_rfl) (fun _ _ _ h => h) (by rfl) ?hy12 ?rest12
  case hy12 => intro w; go_simp; (try with_reducible rfl)
  try simp only [Act.put, List.setIfInBounds_toArray, List.set_cons_zero, List.set_cons_succ]
  refine pureE (i := 12) (L := #[true, true, true, true, true, true, true, true, true, true, true, true, true, false, false, false, false, false, false, false, false, false, false, false, false, false, false, false, false, false, false, false, false, false, false, false, false, false, false, false, false, false, false, false, false, false]) (v := ?_) rfl (by rfl) (by kernel_rfl) (by kernel_rfl) (by kernel_rfl) (fun _ _ _ h => h) (by rfl) ?hy13 ?rest13
  case hy13 => intro w; go_simp; (try with_reducible rfl)
  try simp only [Act.put, List.setIfInBounds_toArray, List.set_cons_zero, List.set_cons_succ]
  refine pureE (i := 13) (L := #[true, true, true, true, true, true, true, true, true, true, true, true, true, true, false, false, false, false, false, false, false, false, false, false, false, false, false, false, false, false, false, false, false, false, false, false, false, false, false, false, false, false, false, false, false, false]) (v := ?_) rfl (by rfl) (by kernel_rfl) (by kernel_rfl) (by kernel_rfl) (fun _ _ _ h => h) (by rfl) ?hy14 ?rest14
  case hy14 => intro w; go_simp; (try with_reducible rfl)
  try simp only [Act.put, List.setIfInBounds_toArray, List.set_cons_zero, List.set_cons_succ]
  refine pureE (i := 14) (L := #[true, true, true, true, true, true, true, true, true, true, true, true, true, true, true, false, false, false, false, false, false, false, false, false, false, false, false, false, false, false, false, false, false, false, false, false, false, false, false, false, false, false, false, false, false, false]) (v := ?_) rfl (by rfl) (by kernel_rfl) (by kernel_rfl) (by kernel_rfl) (fun _ _ _ h => h) (by rfl) ?hy15 ?rest15
  case hy15 => intro w; go_simp; (try with_reducible rfl)
  try simp only [Act.put, List.setIfInBounds_toArray, List.set_cons_zero, List.set_cons_succ]
  refine pureE (i := 15) (L := #[true, true, true, true, true, true, true, true, true, true, true, true, true, true, true, true, false, false, false, false, false, false, false, false, false, false, false, false, false, false, false, false, false, false, false, false, false, false, false, false, false, false, false, false, false, false]) (v := ?_) rfl (by rfl) (by kernel_rfl) (by kernel_rfl) (by kernel_rfl) (fun _ _ _ h => h) (by rfl) ?hy16 ?rest16
  case hy16 => intro w; go_simp; (try with_reducible rfl)
  try simp only [Act.put, List.setIfInBounds_toArray, List.set_cons_zero, List.set_cons_succ]
  refine pureE (i := 16) (L := #[true, true, true, true, true, true, true, true, true, true, true, true, true, true, true, true, true, false, false, false, false, false, false, false, false, false, false, false, false, false, false, false, false, false, false, false, false, false, false, false, false, false, false, false, false, false]) (v := ?_) rfl (by rfl) (by kernel_rfl) (by kernel_rfl) (by kernel_rfl) (fun _ _ _ h => h) (by rfl) ?hy17 ?rest17
  case hy17 => intro w; go_simp; (try with_reducible rfl)
  try simp only [Act.put, List.setIfInBounds_toArray, List.set_cons_zero, List.set_cons_succ]
  refine pureE (i := 17) (L := #[true, true, true, true, true, true, true, true, true, true, true, true, true, true, true, true, true, true, false, false, false, false, false, false, false, false, false, false, false, false, false, false, false, false, false, false, false, false, false, false, false, false, false, false, false, false]) (v := ?_) rfl (by rfl) (by kernel_rfl) (by kernel_rfl) (by kernel_rfl) (fun _ _ _ h => h) (by rfl) ?hy18 ?rest18
  case hy18 => intro w; go_simp; (try with_reducible rfl)
  try simp only [Act.put, List.setIfInBounds_toArray, List.set_cons_zero, List.set_cons_succ]
  refine pureE (i := 18) (L := #[true, true, true, true, true, true, true, true, true, true, true, true, true, true, true, true, true, true, true, false, false, false, false, false, false, false, false, false, false, false, false, false, false, false, false, false, false, false, false, false, false, false, false, false, false, false]) (v := ?_) rfl (by rfl) (by kernel_rfl) (by kernel_rfl) (by kernel_rfl) (fun _ _ _ h => h) (by rfl) ?hy19 ?rest19
  case hy19 => intro w; go_simp; (try with_reducible rfl)
  try simp only [Act.put, List.setIfInBounds_toArray, List.set_cons_zero, List.set_cons_succ]
  refine pureE (i := 19) (L := #[true, true, true, true, true, true, true, true, true, true, true, true, true, true, true, true, true, true, true, true, false, false, false, false, false, false, false, false, false, false, false, false, false, false, false, false, false, false, false, false, false, false, false, false, false, false]) (v := ?_) rfl (by rfl) (by kernel_rfl) (by kernel_rfl) (by kernel_rfl) (fun _ _ _ h => h) (by rfl) ?hy20 ?rest20
  case hy20 => intro w; go_simp; (try with_reducible rfl)
  try simp only [Act.put, List.setIfInBounds_toArray, List.set_cons_zero, List.set_cons_succ]
  refine readE (i := 20) (L := #[true, true, true, true, true, true, true, true, true, true, true, true, true, true, true, true, true, true, true, true, true, false, false, false, false, false, false, false, false, false, false, false, false, false, false, false, false, false, false, false, false, false, false, false, false, false]) (v := .agg #[.bool y.S.s, .slice y.S.A y.S.n y.S.c, .int .i64 y.S.e, .bool y.W.s, .slice y.W.A y.W.n y.W.c, .int .i64 y.W.e, .bool y.C.s, .slice y.C.A y.C.n y.C.c, .int .i64 y.C.e, .bool y.A.s, .slice y.A.A y.A.n y.A.c, .int .i64 y.A.e]) rfl (by rfl) (by kernel_rfl) (by kernel_rfl) (by kernel_rfl) (fun _ _ _ h => h) (by assumption) (by rfl) ?yr_27 ?zr_27
  case yr_27 =>
    intro w' h1
    obtain ⟨⟨k0, k1, k2, k3, k4, k5, k6, k7, k8, k9, k10, k11⟩, kf⟩ := MBox.cells ((h1 _ (by omega)).trans hMy)
    go_simp
  try simp only [Act.put, List.setIfInBounds_toArray, List.set_cons_zero, List.set_cons_succ]
  refine stepK (i := 21) (L := #[true, true, true, true, true, true, true, true, true, true, true, true, true, true, true, true, true, true, true, true, true, true, false, false, false, false, false, false, false, false, false, false, false, false, false, false, false, false, false, false, false, false, false, false, false, false]) rfl (by rfl) (by kernel_rfl) (by rfl) (fun K hK => ?_)
  go_simp
  go_at_call 38
  refine (Of_any w_26 5 (by decide) (by decide) false 5 rfl rfl).mono ?_
  rintro e' w_28 ⟨Ak, nk, rfl, hB, hI⟩
  replace kp_ := Keeps.on kp_ (by omega) hB
  have lw_28 : w_26.heap.size ≤ w_28.heap.size := hB.size
  replace Rt := MRows.on Rt hB
  replace Rd := MRows.on Rd hB
  replace Ry := MRows.on Ry hB
  replace JXt := ints_on JXt hB
  replace JYt := ints_on JYt hB
  replace a_ := Amid.on a_ hB
  have ik := ints_all hI
  clear hI
  clear hB
  refine hK _ _ ⟨fun _ _ => kp_, ?_⟩
  clear hK K
  try simp only [Act.put, List.setIfInBounds_toArray, List.set_cons_zero, List.set_cons_succ]
  refine stepK (i := 22) (L := #[true, true, true, true, true, true, true, true, true, true, true, true, true, true, true, true, true, true, true, true, true, true, true, false, false, false, false, false, false, false, false, false, false, false, false, false, false, false, false, false, false, false, false, false, false, false]) rfl (by rfl) (by kernel_rfl) (by rfl) (fun K hK => ?_)
  go_simp
  go_at_call 38
  refine (Of_any w_28 1 (by decide) (by decide) false 1 rfl rfl).mono ?_
  rintro e' w_29 ⟨Al, nl, rfl, hB, hI⟩
  replace kp_ := Keeps.on kp_ (by omega) hB
  have lw_29 : w_28.heap.size ≤ w_29.heap.size := hB.size
  replace Rt := MRows.on Rt hB
  replace Rd := MRows.on Rd hB
  replace Ry := MRows.on Ry hB
  replace JXt := ints_on JXt hB
  replace JYt := ints_on JYt hB
  replace ik := ints_on ik hB
  replace a_ := Amid.on a_ hB
  have il := ints_all hI
  clear hI
  clear hB
  refine hK _ _ ⟨fun _ _ => kp_, ?_⟩
  clear hK K
  try simp only [Act.put, List.setIfInBounds_toArray, List.set_cons_zero, List.set_cons_succ]
  refine stepK (i := 23) (L := #[true, true, true, true, true, true, true, true, true, true, true, true, true, true, true, true, true, true, true, true, true, true, true, true, false, false, false, false, false, false, false, false, false, false, false, false, false, false, false, false, false, false, false, false, false, false]) rfl (by rfl) (by kernel_rfl) (by rfl) (fun K hK => ?_)
  go_simp
  go_at_call 60
  refine (half16_any w_29 true q HQ.out).mono ?_
  rintro e' w_30 ⟨Aj, nj, cj, rfl, hB, hI⟩
  replace kp_ := Keeps.on kp_ (by omega) hB
  have lw_30 : w_29.heap.size ≤ w_30.heap.size := hB.size
  replace Rt := MRows.on Rt hB
  replace Rd := MRows.on Rd hB
  replace Ry := MRows.on Ry hB
  replace JXt := ints_on JXt hB
  replace JYt := ints_on JYt hB
  replace ik := ints_on ik hB
  replace il := ints_on il hB
  replace a_ := Amid.on a_ hB
  have ij := ints_all hI
  clear hI
  clear hB
  refine hK _ _ ⟨fun _ _ => kp_, ?_⟩
  clear hK K
  try simp only [Act.put, List.setIfInBounds_toArray, List.set_cons_zero, List.set_cons_succ]
  refine pureE (i := 24) (L := #[true, true, true, true, true, true, true, true, true, true, true, true, true, true, true, true, true, true, true, true, true, true, true, true, true, false, false, false, false, false, false, false, false, false, false, false, false, false, false, false, false, false, false, false, false, false]) (v := ?_) rfl (by rfl) (by kernel_rfl) (by kernel_rfl) (by kernel_rfl) (fun _ _ _ h => h) (by rfl) ?hy25 ?rest25
  case hy25 => intro w; go_simp; (try with_reducible rfl)
  try simp only [Act.put, List.setIfInBounds_toArray, List.set_cons_zero, List.set_cons_succ]
  refine stepK (i := 25) (L := #[true, true, true, true, true, true, true, true, true, true, true, true, true, true, true, true, true, true, true, true, true, true, true, true, true, true, false, false, false, false, false, false, false, false, false, false, false, false, false, false, false, false, false, false, false, false]) rfl (by rfl) (by kernel_rfl) (by rfl) (fun K hK => ?_)
  go_simp
  go_at_call 50
  refine (MSame_any w_30 y ⟨⟨false, Ak, nk, nk, 0, canon 4294967296 5⟩, ⟨false, Al, nl, nl, 0, canon 4294967296 1⟩, ⟨q.neg, Aj, nj, cj, q.e, canon 4294967296 q.m⟩, ⟨false, none, 0, 0, 0, []⟩⟩ Ry ⟨ik, il, ij, (Ints.nil_ ..)⟩ true (IsM.same (hy.out.of_eq fun j hj => (hTx.out j hj).symm) (show IsM zzR _ from four ⟨rfl, rfl, rfl⟩ ⟨rfl, rfl, rfl⟩ (by show Is ⟨true, 1, 1⟩ _; rw [← HQ.out]; exact ⟨rfl, rfl, rfl⟩) Is.zero))).mono ?_
  rintro e' w_31 ⟨rfl, hB⟩
  replace kp_ := Keeps.on kp_ (by omega) hB
  have lw_31 : w_30.heap.size ≤ w_31.heap.size := hB.size
  replace Rt := MRows.on Rt hB
  replace Rd := MRows.on Rd hB
  replace Ry := MRows.on Ry hB
  replace JXt := ints_on JXt hB
  replace JYt := ints_on JYt hB
  replace ik := ints_on ik hB
  replace il := ints_on il hB
  replace ij := ints_on ij hB
  replace a_ := Amid.on a_ hB
  clear hB
  refine hK _ _ ⟨fun _ _ => kp_, ?_⟩
  clear hK K
  try simp only [Act.put, List.setIfInBounds_toArray, List.set_cons_zero, List.set_cons_succ]
  refine pureE (i := 26) (L := #[true, true, true, true, true, true, true, true, true, true, true, true, true, true, true, true, true, true, true, true, true, true, true, true, true, true, true, false, false, false, false, false, false, false, false, false, false, false, false, false, false, false, false, false, false, false]) (v := ?_) rfl (by rfl) (by kernel_rfl) (by kernel_rfl) (by kernel_rfl) (fun _ _ _ h => h) (by rfl) ?hy27 ?rest27
  case hy27 => intro w; go_simp; (try with_reducible rfl)
  try simp only [Act.put, List.setIfInBounds_toArray, List.set_cons_zero, List.set_cons_succ]
  refine pureE (i := 27) (L := #[true, true, true, true, true, true, true, true, true, true, true, true, true, true, true, true, true, true, true, true, true, true, true, true, true, true, true, true, false, false, false, false, false, false, false, false, false, false, false, false, false, false, false, false, false, false]) (v := ?_) rfl (by rfl) (by kernel_rfl) (by kernel_rfl) (by kernel_rfl) (fun _ _ _ h => h) (by rfl) ?hy28 ?rest28
  case hy28 => intro w; go_simp; (try with_reducible rfl)
  try simp only [Act.put, List.setIfInBounds_toArray, List.set_cons_zero, List.set_cons_succ]
  refine pureE (i := 28) (L := #[true, true, true, true, true, true, true, true, true, true, true, true, true, true, true, true, true, true, true, true, true, true, true, true, true, true, true, true, true, false, false, false, false, false, false, false, false, false, false, false, false, false, false, false, false, false]) (v := ?_) rfl (by rfl) (by kernel_rfl) (by kernel_rfl) (by kernel_rfl) (fun _ _ _ h => h) (by rfl) ?hy29 ?rest29
  case hy29 => intro w; go_simp; (try with_reducible rfl)
  try simp only [Act.put, List.setIfInBounds_toArray, List.set_cons_zero, List.set_cons_succ]
  refine pureE (i := 29) (L := #[true, true, true, true, true, true, true, true, true, true, true, true, true, true, true, true, true, true, true, true, true, true, true, true, true, true, true, true, true, true, false, false, false, false, false, false, false, false, false, false, false, false, false, false, false, false]) (v := ?_) rfl (by rfl) (by kernel_rfl) (by kernel_rfl) (by kernel_rfl) (fun _ _ _ h => h) (by rfl) ?hy30 ?rest30
  case hy30 => intro w; go_simp; (try with_reducible rfl)
  try simp only [Act.put, List.setIfInBounds_toArray, List.set_cons_zero, List.set_cons_succ]
  refine pureE (i := 30) (L := #[true, true, true, true, true, true, true, true, true, true, true, true, true, true, true, true, true, true, true, true, true, true, true, true, true, true, true, true, true, true, true, false, false, false, false, false, false, false, false, false, false, false, false, false, false, false]) (v := ?_) rfl (by rfl) (by kernel_rfl) (by kernel_rfl) (by kernel_rfl) (fun _ _ _ h => h) (by rfl) ?hy31 ?rest31
  case hy31 => intro w; go_simp; (try with_reducible rfl)
  try simp only [Act.put, List.setIfInBounds_toArray, List.set_cons_zero, List.set_cons_succ]
  refine pureE (i := 31) (L := #[true, true, true, true, true, true, true, true, true, true, true, true, true, true, true, true, true, true, true, true, true, true, true, true, true, true, true, true, true, true, true, true, false, false, false, false, false, false, false, false, false, false, false, false, false, false]) (v := ?_) rfl (by rfl) (by kernel_rfl) (by kernel_rfl) (by kernel_rfl) (fun _ _ _ h => h) (by rfl) ?hy32 ?rest32
  case hy32 => intro w; go_simp; (try with_reducible rfl)
  try simp only [Act.put, List.setIfInBounds_toArray, List.set_cons_zero, List.set_cons_succ]
  refine pureE (i := 32) (L := #[true, true, true, true, true, true, true, true, true, true, true, true, true, true, true, true, true, true, true, true, true, true, true, true, true, true, true, true, true, true, true, true, true, false, false, false, false, false, false, false, false, false, false, false, false, false]) (v := ?_) rfl (by rfl) (by kernel_rfl) (by kernel_rfl) (by kernel_rfl) (fun _ _ _ h => h) (by rfl) ?hy33 ?rest33
  case hy33 => intro w; go_simp; (try with_reducible rfl)
  try simp only [Act.put, List.setIfInBounds_toArray, List.set_cons_zero, List.set_cons_succ]
  refine pureE (i := 33) (L := #[true, true, true, true, true, true, true, true, true, true, true, true, true, true, true, true, true, true, true, true, true, true, true, true, true, true, true, true, true, true, true, true, true, true, false, false, false, false, false, false, false, false, false, false, false, false]) (v := ?_) rfl (by rfl) (by kernel_rfl) (by kernel_rfl) (by kernel_rfl) (fun _ _ _ h => h) (by rfl) ?hy34 ?rest34
  case hy34 => intro w; go_simp; (try with_reducible rfl)
  try simp only [Act.put, List.setIfInBounds_toArray, List.set_cons_zero, List.set_cons_succ]
  refine pureE (i := 34) (L := #[true, true, true, true, true, true, true, true, true, true, true, true, true, true, true, true, true, true, true, true, true, true, true, true, true, true, true, true, true, true, true, true, true, true, true, false, false, false, false, false, false, false, false, false, false, false]) (v := ?_) rfl (by rfl) (by kernel_rfl) (by kernel_rfl) (by kernel_rfl) (fun _ _ _ h => h) (by rfl) ?hy35 ?rest35
  case hy35 => intro w; go_simp; (try with_reducible rfl)
  try simp only [Act.put, List.setIfInBounds_toArray, List.set_cons_zero, List.set_cons_succ]
  refine pureE (i := 35) (L := #[true, true, true, true, true, true, true, true, true, true, true, true, true, true, true, true, true, true, true, true, true, true, true, true, true, true, true, true, true, true, true, true, true, true, true, true, false, false, false, false, false, false, false, false, false, false]) (v := ?_) rfl (by rfl) (by kernel_rfl) (by kernel_rfl) (by kernel_rfl) (fun _ _ _ h => h) (by rfl) ?hy36 ?rest36
  case hy36 => intro w; go_simp; (try with_reducible rfl)
  try simp only [Act.put, List.setIfInBounds_toArray, List.set_cons_zero, List.set_cons_succ]
  refine readE (i := 36) (L := #[true, true, true, true, true, true, true, true, true, true, true, true, true, true, true, true, true, true, true, true, true, true, true, true, true, true, true, true, true, true, true, true, true, true, true, true, true, false, false, false, false, false, false, false, false, false]) (v := .agg #[.bool Xt.s, .slice Xt.A Xt.n Xt.c, .int .i64 Xt.e]) rfl (by rfl) (by kernel_rfl) (by kernel_rfl) (by kernel_rfl) (fun _ _ _ h => h) (by assumption) (by rfl) ?yXt_ ?zXt_
  case yXt_ =>
    intro w' h1
    obtain ⟨⟨e0, e1, e2⟩, _⟩ := boxD ((h1 _ (lt_of_heap hDXt)).trans hDXt)
    go_simp
  try simp only [Act.put, List.setIfInBounds_toArray, List.set_cons_zero, List.set_cons_succ]
  refine stepK (i := 37) (L := #[true, true, true, true, true, true, true, true, true, true, true, true, true, true, true, true, true, true, true, true, true, true, true, true, true, true, true, true, true, true, true, true, true, true, true, true, true, true, false, false, false, false, false, false, false, false]) rfl (by rfl) (by kernel_rfl) (by rfl) (fun K hK => ?_)
  go_simp
  go_at_call 38
  refine (Of_any w_31 0 (by decide) (by decide) false 0 rfl rfl).mono ?_
  rintro e' w_32 ⟨Au, nu, rfl, hB, hI⟩
  replace kp_ := Keeps.on kp_ (by omega) hB
  have lw_32 : w_31.heap.size ≤ w_32.heap.size := hB.size
  replace Rt := MRows.on Rt hB
  replace Rd := MRows.on Rd hB
  replace Ry := MRows.on Ry hB
  replace JXt := ints_on JXt hB
  replace JYt := ints_on JYt hB
  replace ik := ints_on ik hB
  replace il := ints_on il hB
  replace ij := ints_on ij hB
  replace a_ := Amid.on a_ hB
  have iu := ints_all hI
  clear hI
  clear hB
  refine hK _ _ ⟨fun _ _ => kp_, ?_⟩
  clear hK K
  try simp only [Act.put, List.setIfInBounds_toArray, List.set_cons_zero, List.set_cons_succ]
  refine stepK (i := 38) (L := #[true, true, true, true, true, true, true, true, true, true, true, true, true, true, true, true, true, true, true, true, true, true, true, true, true, true, true, true, true, true, true, true, true, true, true, true, true, true, true, false, false, false, false, false, false, false]) rfl (by rfl) (by kernel_rfl) (by rfl) (fun K hK => ?_)
  go_simp
  go_at_call 36
  refine (Pa.dyadSame_any w_32 Xt.s false Xt.A Au Xt.n Xt.c nu nu Xt.xs (canon 4294967296 0) Xt.e 0 JXt iu true (hXt.out.same (d' := ⟨false, Au, nu, nu, 0, canon 4294967296 0⟩) ⟨rfl, rfl, rfl⟩)).mono ?_
  rintro e' w_33 ⟨rfl, hB⟩
  replace kp_ := Keeps.on kp_ (by omega) hB
  have lw_33 : w_32.heap.size ≤ w_33.heap.size := hB.size
  replace Rt := MRows.on Rt hB
  replace Rd := MRows.on Rd hB
  replace Ry := MRows.on Ry hB
  replace JXt := ints_on JXt hB
  replace JYt := ints_on JYt hB
  replace ik := ints_on ik hB
  replace il := ints_on il hB
  replace ij := ints_on ij hB
  replace iu := ints_on iu hB
  replace a_ := Amid.on a_ hB
  clear hB
  refine hK _ _ ⟨fun _ _ => kp_, ?_⟩
  clear hK K
  try simp only [Act.put, List.setIfInBounds_toArray, List.set_cons_zero, List.set_cons_succ]
  refine pureE (i := 39) (L := #[true, true, true, true, true, true, true, true, true, true, true, true, true, true, true, true, true, true, true, true, true, true, true, true, true, true, true, true, true, true, true, true, true, true, true, true, true, true, true, true, false, false, false, false, false, false]) (v := ?_) rfl (by rfl) (by kernel_rfl) (by kernel_rfl) (by kernel_rfl) (fun _ _ _ h => h) (by rfl) ?hy40 ?rest40
  case hy40 => intro w; go_simp; (try with_reducible rfl)
  try simp only [Act.put, List.setIfInBounds_toArray, List.set_cons_zero, List.set_cons_succ]
  refine pureE (i := 40) (L := #[true, true, true, true, true, true, true, true, true, true, true, true, true, true, true, true, true, true, true, true, true, true, true, true, true, true, true, true, true, true, true, true, true, true, true, true, true, true, true, true, true, false, false, false, false, false]) (v := ?_) rfl (by rfl) (by kernel_rfl) (by kernel_rfl) (by kernel_rfl) (fun _ _ _ h => h) (by rfl) ?hy41 ?rest41
  case hy41 => intro w; go_simp; (try with_reducible rfl)
  try simp only [Act.put, List.setIfInBounds_toArray, List.set_cons_zero, List.set_cons_succ]
  refine readE (i := 41) (L := #[true, true, true, true, true, true, true, true, true, true, true, true, true, true, true, true, true, true, true, true, true, true, true, true, true, true, true, true, true, true, true, true, true, true, true, true, true, true, true, true, true, true, false, false, false, false]) (v := .agg #[.bool Yt.s, .slice Yt.A Yt.n Yt.c, .int .i64 Yt.e]) rfl (by rfl) (by kernel_rfl) (by kernel_rfl) (by kernel_rfl) (fun _ _ _ h => h) (by assumption) (by rfl) ?yYt_ ?zYt_
  case yYt_ =>
    intro w' h1
    obtain ⟨⟨e0, e1, e2⟩, _⟩ := boxD ((h1 _ (lt_of_heap hDYt)).trans hDYt)
    go_simp
  try simp only [Act.put, List.setIfInBounds_toArray, List.set_cons_zero, List.set_cons_succ]
  refine stepK (i := 42) (L := #[true, true, true, true, true, true, true, true, true, true, true, true, true, true, true, true, true, true, true, true, true, true, true, true, true, true, true, true, true, true, true, true, true, true, true, true, true, true, true, true, true, true, true, false, false, false]) rfl (by rfl) (by kernel_rfl) (by rfl) (fun K hK => ?_)
  go_simp
  go_at_call 38
  refine (Of_any w_33 0 (by decide) (by decide) false 0 rfl rfl).mono ?_
  rintro e' w_34 ⟨Av, nv, rfl, hB, hI⟩
  replace kp_ := Keeps.on kp_ (by omega) hB
  have lw_34 : w_33.heap.size ≤ w_34.heap.size := hB.size
  replace Rt := MRows.on Rt hB
  replace Rd := MRows.on Rd hB
  replace Ry := MRows.on Ry hB
  replace JXt := ints_on JXt hB
  replace JYt := ints_on JYt hB
  replace ik := ints_on ik hB
  replace il := ints_on il hB
  replace ij := ints_on ij hB
  replace iu := ints_on iu hB
  replace a_ := Amid.on a_ hB
  have iv := ints_all hI
  clear hI
  clear hB
  refine hK _ _ ⟨fun _ _ => kp_, ?_⟩
  clear hK K
  try simp only [Act.put, List.setIfInBounds_toArray, List.set_cons_zero, List.set_cons_succ]
  refine stepK (i := 43) (L := #[true, true, true, true, true, true, true, true, true, true, true, true, true, true, true, true, true, true, true, true, true, true, true, true, true, true, true, true, true, true, true, true, true, true, true, true, true, true, true, true, true, true, true, true, false, false]) rfl (by rfl) (by kernel_rfl) (by rfl) (fun K hK => ?_)
  go_simp
  go_at_call 36
  refine (Pa.dyadSame_any w_34 Yt.s false Yt.A Av Yt.n Yt.c nv nv Yt.xs (canon 4294967296 0) Yt.e 0 JYt iv true (hYt.out.same (d' := ⟨false, Av, nv, nv, 0, canon 4294967296 0⟩) ⟨rfl, rfl, rfl⟩)).mono ?_
  rintro e' w_35 ⟨rfl, hB⟩
  replace kp_ := Keeps.on kp_ (by omega) hB
  have lw_35 : w_34.heap.size ≤ w_35.heap.size := hB.size
  replace Rt := MRows.on Rt hB
  replace Rd := MRows.on Rd hB
  replace Ry := MRows.on Ry hB
  replace JXt := ints_on JXt hB
  replace JYt := ints_on JYt hB
  replace ik := ints_on ik hB
  replace il := ints_on il hB
  replace ij := ints_on ij hB
  replace iu := ints_on iu hB
  replace iv := ints_on iv hB
  replace a_ := Amid.on a_ hB
  clear hB
  refine hK _ _ ⟨fun _ _ => kp_, ?_⟩
  clear hK K
  try simp only [Act.put, List.setIfInBounds_toArray, List.set_cons_zero, List.set_cons_succ]
  refine pureE (i := 44) (L := #[true, true, true, true, true, true, true, true, true, true, true, true, true, true, true, true, true, true, true, true, true, true, true, true, true, true, true, true, true, true, true, true, true, true, true, true, true, true, true, true, true, true, true, true, true, false]) (v := ?_) rfl (by rfl) (by kernel_rfl) (by kernel_rfl) (by kernel_rfl) (fun _ _ _ h => h) (by rfl) ?hy45 ?rest45
  case hy45 => intro w; go_simp; (try with_reducible rfl)
  try simp only [Act.put, List.setIfInBounds_toArray, List.set_cons_zero, List.set_cons_succ]
  refine pureE (i := 45) (L := #[true, true, true, true, true, true, true, true, true, true, true, true, true, true, true, true, true, true, true, true, true, true, true, true, true, true, true, true, true, true, true, true, true, true, true, true, true, true, true, true, true, true, true, true, true, true]) (v := ?_) rfl (by rfl) (by kernel_rfl) (by kernel_rfl) (by kernel_rfl) (fun _ _ _ h => h) (by rfl) ?hy46 ?rest46
  case hy46 => intro w; go_simp; (try with_reducible rfl)
  try simp only [Act.put, List.setIfInBounds_toArray, List.set_cons_zero, List.set_cons_succ]
  refine doneE (by kernel_rfl) ?_ _
  go_wp2
  go_ret
  exact ⟨rfl, a_.below⟩
end Ma
end Go.Proofs.YtlbkepiflhchdaaDoor

namespace Go.Proofs.YtlbkepiflhchdaaDoor
open Go.ChangeShapes Go.WideShapes Go.ChangeAt Go.RowKit

set_option maxRecDepth 100000 in
theorem meanNames_lifted (os : Os) (started : os.Started) (H : Type) (enc : TypeId × Value → H) :
    ReturnsInHanded {} Tryd.checked os 15 .any (fun w args => (Rows.meanNamesSpec.pre enc Tryd.prog Tryd.f15 [] false w args ∧ laidMetH Tryd.prog Dy.laidT w) ∧ sizedMet enc Tryd.prog Tryd.f15 (OpenSpec.ofChange Rows.meanNamesSpec) false w args)
      (Rows.meanNamesSpec.post enc Tryd.prog Tryd.f15 false true false false) := by
  refine returnsInHanded_of_change_and (C := Tryd.checked) (X := fun w _ => laidMetH Tryd.prog Dy.laidT w) (fun _ _ _ hh h => h.of_heap hh) Dy.ownKnob_ started (by kernel_rfl) Tryd.func15
    (ChangeSpec.witness_shaped (enc := enc) (C := Tryd.checked) (os := os) (X := fun w _ => laidMetH Tryd.prog Dy.laidT w) false (World.doorLaid Tryd.prog 400 os) #[] 8 rfl (Dy.door_shaped os _) (by kernel_rfl) (by kernel_rfl) (by kernel_rfl) (Dy.door_met os _)) ?_
  intro W base args ds gs before hval0 hW _ _ hL _
  have hval : ∀ (j : Nat) t v, Tryd.f15.params[j]? = some t → args[j]? = some v → Value.okWide Tryd.prog W .any base t v := hval0
  have hW' := hW
  obtain ⟨p, q, hA0, hV, rfl, hfz, hnd⟩ := hW
  have hlt := hW'.lt
  have hA : DataW.TrodAll enc Tryd.prog W 0 (fun _ => true) true Tryd.f15.params.toList args.toList ds p := hA0
  rw [Tryd.params15] at hA hval
  obtain ⟨rfl, rfl, rfl⟩ := trodAll_none hA
  obtain ⟨rfl, rfl⟩ := trodVars_none hV
  exact (Ma.names16_walk W  (Dy.tab_of_laid hL)).mono fun e W' ⟨he, hb⟩ => ⟨_, he, law_post hW' rfl Tryd.laidOut (by kernel_rfl) (tb := 4) (by kernel_rfl) Tryd.underlying4 rfl rfl rfl hb⟩

theorem meanNames_row : Rows.MeanNamesSaid :=
  OpenClaim.holds_of_wide 15 Tryd.f15 rfl rfl rfl rfl rfl rfl rfl ⟨rfl, rfl, rfl, rfl, rfl⟩ rfl rfl rfl rfl rfl (by kernel_rfl) Tryd.func15 (by kernel_rfl)
    (of_decide_eq_true (by kernel_rfl)) (by unfold Func.isWrapper; first | (rw [if_pos (by decide +kernel)]; kernel_rfl) | (rw [if_neg (by decide +kernel)]; exact ⟨rfl, rfl⟩))
    (fun os started H enc _ => meanNames_lifted os started H enc)
theorem meanNames_holds : Rows.MeanNamesCardSaid :=
  Claim7.holds_tied_plain_at .later [] [.data] true Rows.meanNamesCard.stood.harness false
    meanNames_row (fun _ h => by cases h) (by kernel_rfl) (fun _ h => by cases h) meanNames_row_tie rfl ⟨rfl, rfl⟩ (by kernel_rfl) rfl
    (fun f fn hf hfn => by
      obtain rfl : f = 15 := Option.some.inj ((show Tryd.prog.funcNamed "headcount/headcountlaw16.MeanNames" = some 15 by kernel_rfl).symm.trans hf) |>.symm
      obtain rfl : fn = Tryd.f15 := (Option.some.inj (Tryd.func15.symm.trans hfn)).symm
      exact ⟨by kernel_rfl, fun j t ht => by
        rw [Tryd.params15] at ht
        simp at ht⟩)
    (by kernel_rfl)
#print axioms meanNames_holds
end Go.Proofs.YtlbkepiflhchdaaDoor
