/- The law MassWhole: a walk (printed by a program of mine). -/
/- The statement MassWhole is proved, tied to the program's text: for every input the law answers true and leaves it as it was. No conditions. -/
import Derived.Test.YtlbkepiflhchdaaDoorBn23
import Derived.Test.YtlbkepiflhchdaaDoorBn09
import Derived.Test.YtlbkepiflhchdaaDoorBn24
import Derived.Test.YtlbkepiflhchdaaDoorCards
import Derived.Test.YtlbkepiflhchdaaDoorTie
import Derived.SevenTiedAt
namespace Go.Proofs.YtlbkepiflhchdaaDoor
open Go.RowKit
namespace Ma
open Dp Dy
set_option maxHeartbeats 25600000 in
set_option maxRecDepth 100000 in
theorem whole_walk (w : World) (m : Mv) (hX : MRows w 0 w.heap.size m) (hT : Tab w) :
    Calls Tryd.prog 11 #[.agg #[.bool m.S.s, .slice m.S.A m.S.n m.S.c, .int .i64 m.S.e, .bool m.W.s, .slice m.W.A m.W.n m.W.c, .int .i64 m.W.e, .bool m.C.s, .slice m.C.A m.C.n m.C.c, .int .i64 m.C.e, .bool m.A.s, .slice m.A.A m.A.n m.A.c, .int .i64 m.A.e]] w (Yes w) := by
  generalize hw1 : w.alloc (.cells #[.bool m.S.s, .slice m.S.A m.S.n m.S.c, .int .i64 m.S.e, .bool m.W.s, .slice m.W.A m.W.n m.W.c, .int .i64 m.W.e, .bool m.C.s, .slice m.C.A m.C.n m.C.c, .int .i64 m.C.e, .bool m.A.s, .slice m.A.A m.A.n m.A.c, .int .i64 m.A.e] 39) = w1
  have hBL : Below w.heap.size w w1 := by rw [← hw1]; exact (Below.refl _ w).alloc (Nat.le_refl _) _
  have a_ : Amid w w1 := by rw [← hw1]; exact Amid.alloc ⟨Below.refl _ _, hT⟩ _
  have hM : MBox w1 w.heap.size m := by rw [← hw1]; exact heap_alloc_last _ _
  have l1 : w.heap.size < w1.heap.size := by rw [← hw1]; simp
  have Rm : MRows w1 0 w1.heap.size m := hX.on hBL
  have g0 := hT.lt
  obtain ⟨gr, hgr⟩ : ∃ gr, greatM m = gr := ⟨_, rfl⟩
  have HG := Lib.hid hgr
  obtain ⟨kR, sR, code, hs⟩ : ∃ kR sR code, splitM m = ((kR, sR), code) := ⟨_, _, _, rfl⟩
  have HS := Lib.hid hs
  clear hgr hs hBL
  go_enter Tryd.func11, Tryd.ntmps11
  go_wp2_with fail
  refine (aliveM_any w1 a_.tab).mono ?_
  rintro e' w_1 ⟨rfl, hB⟩
  have lw_1 : w1.heap.size ≤ w_1.heap.size := hB.size
  replace hM := box_on hM hB (by omega)
  replace Rm := MRows.on Rm hB
  replace a_ := Amid.on a_ hB
  clear hB
  try clear hw1
  obtain ⟨⟨q_2_0, q_2_1, q_2_2, q_2_3, q_2_4, q_2_5, q_2_6, q_2_7, q_2_8, q_2_9, q_2_10, q_2_11⟩, q_2f⟩ := MBox.cells hM
  go_wp2_with fail
  refine (RGreat_any w_1 m Rm gr HG.out).mono ?_
  rintro e' w_3 ⟨rfl, hB⟩
  clear q_2_0 q_2_1 q_2_2 q_2_3 q_2_4 q_2_5 q_2_6 q_2_7 q_2_8 q_2_9 q_2_10 q_2_11 q_2f
  have lw_3 : w_1.heap.size ≤ w_3.heap.size := hB.size
  replace hM := box_on hM hB (by omega)
  replace Rm := MRows.on Rm hB
  replace a_ := Amid.on a_ hB
  clear hB
  cases gr
  rotate_left
  · go_wp2
    go_ret
    exact ⟨rfl, a_.below⟩
  · skip
    obtain ⟨⟨q_4_0, q_4_1, q_4_2, q_4_3, q_4_4, q_4_5, q_4_6, q_4_7, q_4_8, q_4_9, q_4_10, q_4_11⟩, q_4f⟩ := MBox.cells hM
    go_wp2_with fail
    refine (MSplit_num w_3 m Rm a_.tab kR sR code HS.out).mono ?_
    rintro e' w_5 ⟨k, s, rfl, hB, hsC, hsI, hkI, B, lb1, lb2, rS, rK⟩
    clear q_4_0 q_4_1 q_4_2 q_4_3 q_4_4 q_4_5 q_4_6 q_4_7 q_4_8 q_4_9 q_4_10 q_4_11 q_4f
    have lw_5 : w_3.heap.size ≤ w_5.heap.size := hB.size
    replace hM := box_on hM hB (by omega)
    replace Rm := MRows.on Rm hB
    replace a_ := Amid.on a_ hB
    have Rk := MRows.more rK (Nat.zero_le _) (Nat.le_refl _)
    have Rs := MRows.more rS (Nat.zero_le _) lb2
    clear rK rS lb1 lb2
    replace hsI := Lib.hid hsI
    replace hkI := Lib.hid hkI
    replace hsC := Lib.hid hsC
    clear hB
    rcases split_codes HS.out with rfl | ⟨rfl, hn, rfl, rfl⟩ | ⟨rfl, hn, rfl, rfl⟩
    · skip
      generalize hww_6 : (w_5.alloc (.cells #[.bool k.S.s, .slice k.S.A k.S.n k.S.c, .int .i64 k.S.e, .bool k.W.s, .slice k.W.A k.W.n k.W.c, .int .i64 k.W.e, .bool k.C.s, .slice k.C.A k.C.n k.C.c, .int .i64 k.C.e, .bool k.A.s, .slice k.A.A k.A.n k.A.c, .int .i64 k.A.e] 39)).alloc (.cells #[.bool s.S.s, .slice s.S.A s.S.n s.S.c, .int .i64 s.S.e, .bool s.W.s, .slice s.W.A s.W.n s.W.c, .int .i64 s.W.e, .bool s.C.s, .slice s.C.A s.C.n s.C.c, .int .i64 s.C.e, .bool s.A.s, .slice s.A.A s.A.n s.A.c, .int .i64 s.A.e] 39) = w_6 at *
      obtain ⟨hMk, hMs, hB, low_6, hiw_6⟩ := boxes2 w_5 _ _ hww_6
      replace hB : Below w_5.heap.size w_5 w_6 := hB
      have lw_6 : w_5.heap.size ≤ w_6.heap.size := hB.size
      replace hM := box_on hM hB (by omega)
      replace Rm := MRows.on Rm hB
      replace Rk := MRows.on Rk hB
      replace Rs := MRows.on Rs hB
      replace a_ := Amid.on a_ hB
      replace hMk : MBox w_6 w_5.heap.size k := hMk
      replace hMs : MBox w_6 (w_5.heap.size + 1) s := hMs
      clear hB
      obtain ⟨⟨q_7_0, q_7_1, q_7_2, q_7_3, q_7_4, q_7_5, q_7_6, q_7_7, q_7_8, q_7_9, q_7_10, q_7_11⟩, q_7f⟩ := MBox.cells hM
      obtain ⟨⟨q_8_0, q_8_1, q_8_2, q_8_3, q_8_4, q_8_5, q_8_6, q_8_7, q_8_8, q_8_9, q_8_10, q_8_11⟩, q_8f⟩ := MBox.cells hMk
      obtain ⟨⟨q_9_0, q_9_1, q_9_2, q_9_3, q_9_4, q_9_5, q_9_6, q_9_7, q_9_8, q_9_9, q_9_10, q_9_11⟩, q_9f⟩ := MBox.cells hMs
      obtain ⟨TT, hadd, hTm, hk0, hk1⟩ := whole_law (lo := 0) (hi := w.heap.size) hX HS.out hkI.out hsI.out
      have HA := Lib.hid hadd
      have HT := Lib.hid hTm
      have HK0 := Lib.hid hk0
      have HK1 := Lib.hid hk1
      clear hadd hTm hk0 hk1
      go_wp2_with fail
      refine (MAdd_num w_6 k s Rk Rs a_.tab TT 0 HA.out).mono ?_
      rintro e' w_10 ⟨p, rfl, hB, hp, rp⟩
      clear q_7_0 q_7_1 q_7_2 q_7_3 q_7_4 q_7_5 q_7_6 q_7_7 q_7_8 q_7_9 q_7_10 q_7_11 q_7f q_8_0 q_8_1 q_8_2 q_8_3 q_8_4 q_8_5 q_8_6 q_8_7 q_8_8 q_8_9 q_8_10 q_8_11 q_8f q_9_0 q_9_1 q_9_2 q_9_3 q_9_4 q_9_5 q_9_6 q_9_7 q_9_8 q_9_9 q_9_10 q_9_11 q_9f
      have lw_10 : w_6.heap.size ≤ w_10.heap.size := hB.size
      replace hM := box_on hM hB (by omega)
      replace hMk := box_on hMk hB (by omega)
      replace hMs := box_on hMs hB (by omega)
      replace Rm := MRows.on Rm hB
      replace Rk := MRows.on Rk hB
      replace Rs := MRows.on Rs hB
      replace a_ := Amid.on a_ hB
      have Rp := MRows.more rp (Nat.zero_le _) (Nat.le_refl _)
      clear rp
      replace hp := Lib.hid hp
      clear hB
      have hB := (Below.refl w_10.heap.size w_10).alloc (Nat.le_refl _) (.cells #[.bool p.S.s, .slice p.S.A p.S.n p.S.c, .int .i64 p.S.e, .bool p.W.s, .slice p.W.A p.W.n p.W.c, .int .i64 p.W.e, .bool p.C.s, .slice p.C.A p.C.n p.C.c, .int .i64 p.C.e, .bool p.A.s, .slice p.A.A p.A.n p.A.c, .int .i64 p.A.e] 39)
      have hMp : MBox (w_10.alloc (.cells #[.bool p.S.s, .slice p.S.A p.S.n p.S.c, .int .i64 p.S.e, .bool p.W.s, .slice p.W.A p.W.n p.W.c, .int .i64 p.W.e, .bool p.C.s, .slice p.C.A p.C.n p.C.c, .int .i64 p.C.e, .bool p.A.s, .slice p.A.A p.A.n p.A.c, .int .i64 p.A.e] 39)) w_10.heap.size p := heap_alloc_last _ _
      have mw_11 : w_10.heap.size < (w_10.alloc (.cells #[.bool p.S.s, .slice p.S.A p.S.n p.S.c, .int .i64 p.S.e, .bool p.W.s, .slice p.W.A p.W.n p.W.c, .int .i64 p.W.e, .bool p.C.s, .slice p.C.A p.C.n p.C.c, .int .i64 p.C.e, .bool p.A.s, .slice p.A.A p.A.n p.A.c, .int .i64 p.A.e] 39)).heap.size := by simp
      generalize hww_11 : w_10.alloc (.cells #[.bool p.S.s, .slice p.S.A p.S.n p.S.c, .int .i64 p.S.e, .bool p.W.s, .slice p.W.A p.W.n p.W.c, .int .i64 p.W.e, .bool p.C.s, .slice p.C.A p.C.n p.C.c, .int .i64 p.C.e, .bool p.A.s, .slice p.A.A p.A.n p.A.c, .int .i64 p.A.e] 39) = w_11 at *
      have lw_11 : w_10.heap.size ≤ w_11.heap.size := hB.size
      replace hM := box_on hM hB (by omega)
      replace hMk := box_on hMk hB (by omega)
      replace hMs := box_on hMs hB (by omega)
      replace Rm := MRows.on Rm hB
      replace Rk := MRows.on Rk hB
      replace Rs := MRows.on Rs hB
      replace Rp := MRows.on Rp hB
      replace a_ := Amid.on a_ hB
      clear hB
      obtain ⟨⟨q_12_0, q_12_1, q_12_2, q_12_3, q_12_4, q_12_5, q_12_6, q_12_7, q_12_8, q_12_9, q_12_10, q_12_11⟩, q_12f⟩ := MBox.cells hMp
      obtain ⟨⟨q_13_0, q_13_1, q_13_2, q_13_3, q_13_4, q_13_5, q_13_6, q_13_7, q_13_8, q_13_9, q_13_10, q_13_11⟩, q_13f⟩ := MBox.cells hM
      go_wp2_with fail
      refine (MSame_any w_11 p m Rp Rm true (hp.out.same HT.out)).mono ?_
      rintro e' w_14 ⟨rfl, hB⟩
      clear q_12_0 q_12_1 q_12_2 q_12_3 q_12_4 q_12_5 q_12_6 q_12_7 q_12_8 q_12_9 q_12_10 q_12_11 q_12f q_13_0 q_13_1 q_13_2 q_13_3 q_13_4 q_13_5 q_13_6 q_13_7 q_13_8 q_13_9 q_13_10 q_13_11 q_13f
      have lw_14 : w_11.heap.size ≤ w_14.heap.size := hB.size
      replace hM := box_on hM hB (by omega)
      replace hMk := box_on hMk hB (by omega)
      replace hMs := box_on hMs hB (by omega)
      replace hMp := box_on hMp hB (by omega)
      replace Rm := MRows.on Rm hB
      replace Rk := MRows.on Rk hB
      replace Rs := MRows.on Rs hB
      replace Rp := MRows.on Rp hB
      replace a_ := Amid.on a_ hB
      clear hB
      try clear hww_6 hww_11
      obtain ⟨⟨q_15_0, q_15_1, q_15_2, q_15_3, q_15_4, q_15_5, q_15_6, q_15_7, q_15_8, q_15_9, q_15_10, q_15_11⟩, q_15f⟩ := MBox.cells hMk
      obtain ⟨⟨q_16_0, q_16_1, q_16_2, q_16_3, q_16_4, q_16_5, q_16_6, q_16_7, q_16_8, q_16_9, q_16_10, q_16_11⟩, q_16f⟩ := MBox.cells hMs
      go_wp2_with fail
      refine (Pa.dyadSame_any w_14 k.S.s s.S.s k.S.A s.S.A k.S.n k.S.c s.S.n s.S.c k.S.xs s.S.xs k.S.e s.S.e (MRows.get Rk 0) (MRows.get Rs 0) true ((hkI.out 0 (by decide)).same (by rw [HK0.out]; exact hsI.out 0 (by decide)))).mono ?_
      rintro e' w_17 ⟨rfl, hB⟩
      clear q_15_0 q_15_1 q_15_2 q_15_3 q_15_4 q_15_5 q_15_6 q_15_7 q_15_8 q_15_9 q_15_10 q_15_11 q_15f q_16_0 q_16_1 q_16_2 q_16_3 q_16_4 q_16_5 q_16_6 q_16_7 q_16_8 q_16_9 q_16_10 q_16_11 q_16f
      have lw_17 : w_14.heap.size ≤ w_17.heap.size := hB.size
      replace hM := box_on hM hB (by omega)
      replace hMk := box_on hMk hB (by omega)
      replace hMs := box_on hMs hB (by omega)
      replace hMp := box_on hMp hB (by omega)
      replace Rm := MRows.on Rm hB
      replace Rk := MRows.on Rk hB
      replace Rs := MRows.on Rs hB
      replace Rp := MRows.on Rp hB
      replace a_ := Amid.on a_ hB
      clear hB
      obtain ⟨⟨q_18_0, q_18_1, q_18_2, q_18_3, q_18_4, q_18_5, q_18_6, q_18_7, q_18_8, q_18_9, q_18_10, q_18_11⟩, q_18f⟩ := MBox.cells hMk
      obtain ⟨⟨q_19_0, q_19_1, q_19_2, q_19_3, q_19_4, q_19_5, q_19_6, q_19_7, q_19_8, q_19_9, q_19_10, q_19_11⟩, q_19f⟩ := MBox.cells hMs
      go_wp2_with fail
      refine (Pa.dyadSame_any w_17 k.W.s s.W.s k.W.A s.W.A k.W.n k.W.c s.W.n s.W.c k.W.xs s.W.xs k.W.e s.W.e (MRows.get Rk 1) (MRows.get Rs 1) true ((hkI.out 1 (by decide)).same (by rw [HK1.out]; exact hsI.out 1 (by decide)))).mono ?_
      rintro e' w_20 ⟨rfl, hB⟩
      clear q_18_0 q_18_1 q_18_2 q_18_3 q_18_4 q_18_5 q_18_6 q_18_7 q_18_8 q_18_9 q_18_10 q_18_11 q_18f q_19_0 q_19_1 q_19_2 q_19_3 q_19_4 q_19_5 q_19_6 q_19_7 q_19_8 q_19_9 q_19_10 q_19_11 q_19f
      have lw_20 : w_17.heap.size ≤ w_20.heap.size := hB.size
      replace hM := box_on hM hB (by omega)
      replace hMk := box_on hMk hB (by omega)
      replace hMs := box_on hMs hB (by omega)
      replace hMp := box_on hMp hB (by omega)
      replace Rm := MRows.on Rm hB
      replace Rk := MRows.on Rk hB
      replace Rs := MRows.on Rs hB
      replace Rp := MRows.on Rp hB
      replace a_ := Amid.on a_ hB
      clear hB
      obtain ⟨⟨q_21_0, q_21_1, q_21_2, q_21_3, q_21_4, q_21_5, q_21_6, q_21_7, q_21_8, q_21_9, q_21_10, q_21_11⟩, q_21f⟩ := MBox.cells hMs
      go_wp2_with fail
      refine (MSame_any w_20 s ⟨s.S, s.W, ZM.C, ZM.A⟩ Rs ⟨Rs.S, Rs.W, Ints.nil_ .., Ints.nil_ ..⟩ true (by rw [← hsC.out.1, ← hsC.out.2]; exact hsI.out.same hsI.out)).mono ?_
      rintro e' w_22 ⟨rfl, hB⟩
      clear q_21_0 q_21_1 q_21_2 q_21_3 q_21_4 q_21_5 q_21_6 q_21_7 q_21_8 q_21_9 q_21_10 q_21_11 q_21f
      have lw_22 : w_20.heap.size ≤ w_22.heap.size := hB.size
      replace hM := box_on hM hB (by omega)
      replace hMk := box_on hMk hB (by omega)
      replace hMs := box_on hMs hB (by omega)
      replace hMp := box_on hMp hB (by omega)
      replace Rm := MRows.on Rm hB
      replace Rk := MRows.on Rk hB
      replace Rs := MRows.on Rs hB
      replace Rp := MRows.on Rp hB
      replace a_ := Amid.on a_ hB
      clear hB
      go_wp2
      go_ret
      exact ⟨rfl, a_.below⟩
    · skip
      generalize hww_23 : (w_5.alloc (.cells #[.bool k.S.s, .slice k.S.A k.S.n k.S.c, .int .i64 k.S.e, .bool k.W.s, .slice k.W.A k.W.n k.W.c, .int .i64 k.W.e, .bool k.C.s, .slice k.C.A k.C.n k.C.c, .int .i64 k.C.e, .bool k.A.s, .slice k.A.A k.A.n k.A.c, .int .i64 k.A.e] 39)).alloc (.cells #[.bool s.S.s, .slice s.S.A s.S.n s.S.c, .int .i64 s.S.e, .bool s.W.s, .slice s.W.A s.W.n s.W.c, .int .i64 s.W.e, .bool s.C.s, .slice s.C.A s.C.n s.C.c, .int .i64 s.C.e, .bool s.A.s, .slice s.A.A s.A.n s.A.c, .int .i64 s.A.e] 39) = w_23 at *
      obtain ⟨hMk, hMs, hB, low_23, hiw_23⟩ := boxes2 w_5 _ _ hww_23
      replace hB : Below w_5.heap.size w_5 w_23 := hB
      have lw_23 : w_5.heap.size ≤ w_23.heap.size := hB.size
      replace hM := box_on hM hB (by omega)
      replace Rm := MRows.on Rm hB
      replace Rk := MRows.on Rk hB
      replace Rs := MRows.on Rs hB
      replace a_ := Amid.on a_ hB
      replace hMk : MBox w_23 w_5.heap.size k := hMk
      replace hMs : MBox w_23 (w_5.heap.size + 1) s := hMs
      clear hB
      obtain ⟨⟨q_24_0, q_24_1, q_24_2, q_24_3, q_24_4, q_24_5, q_24_6, q_24_7, q_24_8, q_24_9, q_24_10, q_24_11⟩, q_24f⟩ := MBox.cells hM
      obtain ⟨⟨q_25_0, q_25_1, q_25_2, q_25_3, q_25_4, q_25_5, q_25_6, q_25_7, q_25_8, q_25_9, q_25_10, q_25_11⟩, q_25f⟩ := MBox.cells hMk
      obtain ⟨⟨q_26_0, q_26_1, q_26_2, q_26_3, q_26_4, q_26_5, q_26_6, q_26_7, q_26_8, q_26_9, q_26_10, q_26_11⟩, q_26f⟩ := MBox.cells hMs
      go_wp2_with fail
      refine (MCheck_any w_23 m Rm 8 (chk_not hn)).mono ?_
      rintro e' w_27 ⟨rfl, hB⟩
      clear q_24_0 q_24_1 q_24_2 q_24_3 q_24_4 q_24_5 q_24_6 q_24_7 q_24_8 q_24_9 q_24_10 q_24_11 q_24f q_25_0 q_25_1 q_25_2 q_25_3 q_25_4 q_25_5 q_25_6 q_25_7 q_25_8 q_25_9 q_25_10 q_25_11 q_25f q_26_0 q_26_1 q_26_2 q_26_3 q_26_4 q_26_5 q_26_6 q_26_7 q_26_8 q_26_9 q_26_10 q_26_11 q_26f
      have lw_27 : w_23.heap.size ≤ w_27.heap.size := hB.size
      replace hM := box_on hM hB (by omega)
      replace hMk := box_on hMk hB (by omega)
      replace hMs := box_on hMs hB (by omega)
      replace Rm := MRows.on Rm hB
      replace Rk := MRows.on Rk hB
      replace Rs := MRows.on Rs hB
      replace a_ := Amid.on a_ hB
      clear hB
      obtain ⟨⟨q_28_0, q_28_1, q_28_2, q_28_3, q_28_4, q_28_5, q_28_6, q_28_7, q_28_8, q_28_9, q_28_10, q_28_11⟩, q_28f⟩ := MBox.cells hMk
      go_wp2_with fail
      refine (MSame_any w_27 k ZM Rk (ZM_rows ..) true (hkI.out.same IsM.zero)).mono ?_
      rintro e' w_29 ⟨rfl, hB⟩
      clear q_28_0 q_28_1 q_28_2 q_28_3 q_28_4 q_28_5 q_28_6 q_28_7 q_28_8 q_28_9 q_28_10 q_28_11 q_28f
      have lw_29 : w_27.heap.size ≤ w_29.heap.size := hB.size
      replace hM := box_on hM hB (by omega)
      replace hMk := box_on hMk hB (by omega)
      replace hMs := box_on hMs hB (by omega)
      replace Rm := MRows.on Rm hB
      replace Rk := MRows.on Rk hB
      replace Rs := MRows.on Rs hB
      replace a_ := Amid.on a_ hB
      clear hB
      try clear hww_23
      obtain ⟨⟨q_30_0, q_30_1, q_30_2, q_30_3, q_30_4, q_30_5, q_30_6, q_30_7, q_30_8, q_30_9, q_30_10, q_30_11⟩, q_30f⟩ := MBox.cells hMs
      go_wp2_with fail
      refine (MSame_any w_29 s ZM Rs (ZM_rows ..) true (hsI.out.same IsM.zero)).mono ?_
      rintro e' w_31 ⟨rfl, hB⟩
      clear q_30_0 q_30_1 q_30_2 q_30_3 q_30_4 q_30_5 q_30_6 q_30_7 q_30_8 q_30_9 q_30_10 q_30_11 q_30f
      have lw_31 : w_29.heap.size ≤ w_31.heap.size := hB.size
      replace hM := box_on hM hB (by omega)
      replace hMk := box_on hMk hB (by omega)
      replace hMs := box_on hMs hB (by omega)
      replace Rm := MRows.on Rm hB
      replace Rk := MRows.on Rk hB
      replace Rs := MRows.on Rs hB
      replace a_ := Amid.on a_ hB
      clear hB
      go_wp2
      go_ret
      exact ⟨rfl, a_.below⟩
    · skip
      generalize hww_32 : (w_5.alloc (.cells #[.bool k.S.s, .slice k.S.A k.S.n k.S.c, .int .i64 k.S.e, .bool k.W.s, .slice k.W.A k.W.n k.W.c, .int .i64 k.W.e, .bool k.C.s, .slice k.C.A k.C.n k.C.c, .int .i64 k.C.e, .bool k.A.s, .slice k.A.A k.A.n k.A.c, .int .i64 k.A.e] 39)).alloc (.cells #[.bool s.S.s, .slice s.S.A s.S.n s.S.c, .int .i64 s.S.e, .bool s.W.s, .slice s.W.A s.W.n s.W.c, .int .i64 s.W.e, .bool s.C.s, .slice s.C.A s.C.n s.C.c, .int .i64 s.C.e, .bool s.A.s, .slice s.A.A s.A.n s.A.c, .int .i64 s.A.e] 39) = w_32 at *
      obtain ⟨hMk, hMs, hB, low_32, hiw_32⟩ := boxes2 w_5 _ _ hww_32
      replace hB : Below w_5.heap.size w_5 w_32 := hB
      have lw_32 : w_5.heap.size ≤ w_32.heap.size := hB.size
      replace hM := box_on hM hB (by omega)
      replace Rm := MRows.on Rm hB
      replace Rk := MRows.on Rk hB
      replace Rs := MRows.on Rs hB
      replace a_ := Amid.on a_ hB
      replace hMk : MBox w_32 w_5.heap.size k := hMk
      replace hMs : MBox w_32 (w_5.heap.size + 1) s := hMs
      clear hB
      obtain ⟨⟨q_33_0, q_33_1, q_33_2, q_33_3, q_33_4, q_33_5, q_33_6, q_33_7, q_33_8, q_33_9, q_33_10, q_33_11⟩, q_33f⟩ := MBox.cells hM
      obtain ⟨⟨q_34_0, q_34_1, q_34_2, q_34_3, q_34_4, q_34_5, q_34_6, q_34_7, q_34_8, q_34_9, q_34_10, q_34_11⟩, q_34f⟩ := MBox.cells hMk
      obtain ⟨⟨q_35_0, q_35_1, q_35_2, q_35_3, q_35_4, q_35_5, q_35_6, q_35_7, q_35_8, q_35_9, q_35_10, q_35_11⟩, q_35f⟩ := MBox.cells hMs
      go_wp2_with fail
      refine (MCheck_any w_32 m Rm 0 (chk_may hn)).mono ?_
      rintro e' w_36 ⟨rfl, hB⟩
      clear q_33_0 q_33_1 q_33_2 q_33_3 q_33_4 q_33_5 q_33_6 q_33_7 q_33_8 q_33_9 q_33_10 q_33_11 q_33f q_34_0 q_34_1 q_34_2 q_34_3 q_34_4 q_34_5 q_34_6 q_34_7 q_34_8 q_34_9 q_34_10 q_34_11 q_34f q_35_0 q_35_1 q_35_2 q_35_3 q_35_4 q_35_5 q_35_6 q_35_7 q_35_8 q_35_9 q_35_10 q_35_11 q_35f
      have lw_36 : w_32.heap.size ≤ w_36.heap.size := hB.size
      replace hM := box_on hM hB (by omega)
      replace hMk := box_on hMk hB (by omega)
      replace hMs := box_on hMs hB (by omega)
      replace Rm := MRows.on Rm hB
      replace Rk := MRows.on Rk hB
      replace Rs := MRows.on Rs hB
      replace a_ := Amid.on a_ hB
      clear hB
      obtain ⟨⟨q_37_0, q_37_1, q_37_2, q_37_3, q_37_4, q_37_5, q_37_6, q_37_7, q_37_8, q_37_9, q_37_10, q_37_11⟩, q_37f⟩ := MBox.cells hMk
      go_wp2_with fail
      refine (MSame_any w_36 k ZM Rk (ZM_rows ..) true (hkI.out.same IsM.zero)).mono ?_
      rintro e' w_38 ⟨rfl, hB⟩
      clear q_37_0 q_37_1 q_37_2 q_37_3 q_37_4 q_37_5 q_37_6 q_37_7 q_37_8 q_37_9 q_37_10 q_37_11 q_37f
      have lw_38 : w_36.heap.size ≤ w_38.heap.size := hB.size
      replace hM := box_on hM hB (by omega)
      replace hMk := box_on hMk hB (by omega)
      replace hMs := box_on hMs hB (by omega)
      replace Rm := MRows.on Rm hB
      replace Rk := MRows.on Rk hB
      replace Rs := MRows.on Rs hB
      replace a_ := Amid.on a_ hB
      clear hB
      try clear hww_32
      obtain ⟨⟨q_39_0, q_39_1, q_39_2, q_39_3, q_39_4, q_39_5, q_39_6, q_39_7, q_39_8, q_39_9, q_39_10, q_39_11⟩, q_39f⟩ := MBox.cells hMs
      go_wp2_with fail
      refine (MSame_any w_38 s ZM Rs (ZM_rows ..) true (hsI.out.same IsM.zero)).mono ?_
      rintro e' w_40 ⟨rfl, hB⟩
      clear q_39_0 q_39_1 q_39_2 q_39_3 q_39_4 q_39_5 q_39_6 q_39_7 q_39_8 q_39_9 q_39_10 q_39_11 q_39f
      have lw_40 : w_38.heap.size ≤ w_40.heap.size := hB.size
      replace hM := box_on hM hB (by omega)
      replace hMk := box_on hMk hB (by omega)
      replace hMs := box_on hMs hB (by omega)
      replace Rm := MRows.on Rm hB
      replace Rk := MRows.on Rk hB
      replace Rs := MRows.on Rs hB
      replace a_ := Amid.on a_ hB
      clear hB
      go_wp2
      go_ret
      exact ⟨rfl, a_.below⟩
end Ma
end Go.Proofs.YtlbkepiflhchdaaDoor

namespace Go.Proofs.YtlbkepiflhchdaaDoor
open Go.ChangeShapes Go.WideShapes Go.ChangeAt Go.RowKit

set_option maxRecDepth 100000 in
theorem massWhole_lifted (os : Os) (started : os.Started) (H : Type) (enc : TypeId × Value → H) :
    ReturnsInHanded {} Tryd.checked os 11 .any (fun w args => (Rows.massWholeSpec.pre enc Tryd.prog Tryd.f11 [] false w args ∧ laidMetH Tryd.prog Dy.laidT w) ∧ sizedMet enc Tryd.prog Tryd.f11 (OpenSpec.ofChange Rows.massWholeSpec) false w args)
      (Rows.massWholeSpec.post enc Tryd.prog Tryd.f11 false true false false) := by
  refine returnsInHanded_of_change_and (C := Tryd.checked) (X := fun w _ => laidMetH Tryd.prog Dy.laidT w) (fun _ _ _ hh h => h.of_heap hh) Dy.ownKnob_ started (by kernel_rfl) Tryd.func11
    (ChangeSpec.witness_shaped (enc := enc) (C := Tryd.checked) (os := os) (X := fun w _ => laidMetH Tryd.prog Dy.laidT w) false (World.doorLaid Tryd.prog 400 os) #[.agg #[.bool false, .slice none 0 0, .int .i64 0, .bool false, .slice none 0 0, .int .i64 0, .bool false, .slice none 0 0, .int .i64 0, .bool false, .slice none 0 0, .int .i64 0]] 8 rfl (Dy.door_shaped os _) (by kernel_rfl) (by kernel_rfl) (by kernel_rfl) (Dy.door_met os _)) ?_
  intro W base args ds gs before hval0 hW _ _ hL _
  have hval : ∀ (j : Nat) t v, Tryd.f11.params[j]? = some t → args[j]? = some v → Value.okWide Tryd.prog W .any base t v := hval0
  have hW' := hW
  obtain ⟨p, q, hA0, hV, rfl, hfz, hnd⟩ := hW
  have hlt := hW'.lt
  have hA : DataW.TrodAll enc Tryd.prog W 0 (fun _ => true) true Tryd.f11.params.toList args.toList ds p := hA0
  rw [Tryd.params11] at hA hval
  obtain ⟨v0, d0, rfl, rfl, h0⟩ := trodAll_one hA
  obtain ⟨rfl, rfl⟩ := trodVars_none hV
  obtain ⟨m0, rfl, hc0, hx0⟩ := mass_open Tryd.underlying39 rfl rfl (by kernel_rfl) Tryd.underlying24 (by kernel_rfl) (by kernel_rfl) Tryd.underlying4 Tryd.underlying22 Tryd.underlying52 (by kernel_rfl) Tryd.underlying3 (hval 0 39 v0 rfl rfl) h0 (fun b off hm => hfz b off (by simp [hm])) (fun x hm => hlt x (by simp [hm]))
  exact (Ma.whole_walk W m0 hx0 (Dy.tab_of_laid hL)).mono fun e W' ⟨he, hb⟩ => ⟨_, he, law_post hW' rfl Tryd.laidOut (by kernel_rfl) (tb := 4) (by kernel_rfl) Tryd.underlying4 rfl rfl rfl hb⟩

theorem massWhole_row : Rows.MassWholeSaid :=
  OpenClaim.holds_of_wide 11 Tryd.f11 rfl rfl rfl rfl rfl rfl rfl ⟨rfl, rfl, rfl, rfl, rfl⟩ rfl rfl rfl rfl rfl (by kernel_rfl) Tryd.func11 (by kernel_rfl)
    (of_decide_eq_true (by kernel_rfl)) (by unfold Func.isWrapper; first | (rw [if_pos (by decide +kernel)]; kernel_rfl) | (rw [if_neg (by decide +kernel)]; exact ⟨rfl, rfl⟩))
    (fun os started H enc _ => massWhole_lifted os started H enc)
theorem massWhole_holds : Rows.MassWholeCardSaid :=
  Claim7.holds_tied_plain_at .later [] [.data] true Rows.massWholeCard.stood.harness false
    massWhole_row (fun _ h => by cases h) (by kernel_rfl) (fun _ h => by cases h) massWhole_row_tie rfl ⟨rfl, rfl⟩ (by kernel_rfl) rfl
    (fun f fn hf hfn => by
      obtain rfl : f = 11 := Option.some.inj ((show Tryd.prog.funcNamed "headcount/headcountlaw06.MassWhole" = some 11 by kernel_rfl).symm.trans hf) |>.symm
      obtain rfl : fn = Tryd.f11 := (Option.some.inj (Tryd.func11.symm.trans hfn)).symm
      exact ⟨by kernel_rfl, fun j t ht => by
        rw [Tryd.params11] at ht
        have hm : t ∈ [39] := by simpa using Array.mem_of_getElem? ht
        have hall : ([39].all fun u => !Tryd.prog.wantsStandIn u) = true := by kernel_rfl
        exact (show Tryd.prog.wantsStandIn t = false by simpa using List.all_eq_true.1 hall t hm)⟩)
    (by kernel_rfl)
#print axioms massWhole_holds
end Go.Proofs.YtlbkepiflhchdaaDoor
