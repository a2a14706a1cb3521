/- headcountref20: parts that are great, the same, copied: walks (printed by a program of mine). -/
import Derived.Test.YtmbppgjhdcmckaaGreatDoorPsBase
import Derived.Test.YtmbppgjhdcmckaaGreatDoorPaTags
import Derived.Test.YtmbppgjhdcmckaaGreatDoorPsSame
namespace Go.Proofs.YtmbppgjhdcmckaaGreatDoor
open Go.RowKit
namespace Ma
open Dp Dy
set_option maxHeartbeats 6400000 in
set_option maxRecDepth 100000 in
/-- headcountref20.GreatPart. -/
theorem GreatPart_any (w : World) (p : Pv) (hR : PRows w 0 w.heap.size p) (k : Bool) (hk : greatP p = k) :
    Calls Tryz.prog 7 #[.agg #[.bool p.M.S.s, .slice p.M.S.A p.M.S.n p.M.S.c, .int .i64 p.M.S.e, .bool p.M.W.s, .slice p.M.W.A p.M.W.n p.M.W.c, .int .i64 p.M.W.e, .bool p.M.C.s, .slice p.M.C.A p.M.C.n p.M.C.c, .int .i64 p.M.C.e, .bool p.M.A.s, .slice p.M.A.A p.M.A.n p.M.A.c, .int .i64 p.M.A.e, .bool p.h, .int .i64 p.mn, .int .i64 p.mx, .slice p.A p.n p.c]] w fun e w' => e = .returned (.bool k) ∧ Below w.heap.size w w' := by
  obtain ⟨w1, hw, bP, j1, S1⟩ := alloc_p w p
  obtain ⟨q, hq⟩ : ∃ q, greatM p.M = q := ⟨_, rfl⟩
  have HQ := Lib.hid hq
  have HK := Lib.hid hk
  clear hq hk
  go_enter Tryz.func7, Tryz.ntmps7
  obtain ⟨⟨q1_0, q1_1, q1_2, q1_3, q1_4, q1_5, q1_6, q1_7, q1_8, q1_9, q1_10, q1_11, q1_12, q1_13, q1_14, q1_15⟩, q1f⟩ := PBox.cell bP
  go_wp2_with fail
  refine (RGreat_any w1 p.M (PRows.on hR j1).M q HQ.out).mono ?_
  rintro e' v2 ⟨rfl, j3⟩
  clear q1_0 q1_1 q1_2 q1_3 q1_4 q1_5 q1_6 q1_7 q1_8 q1_9 q1_10 q1_11 q1_12 q1_13 q1_14 q1_15 q1f
  try clear hw
  obtain ⟨⟨q4_0, q4_1, q4_2, q4_3, q4_4, q4_5, q4_6, q4_7, q4_8, q4_9, q4_10, q4_11, q4_12, q4_13, q4_14, q4_15⟩, q4f⟩ := PBox.cell (box_later bP j3 S1)
  cases q
  rotate_left
  · skip
    have hk' : k = true := by rw [← HK.out, greatP, HQ.out]; rfl
    subst hk'
    clear HK HQ
    go_wp2
    go_ret
    exact ⟨rfl, (later j1 j3)⟩
  · skip
    by_cases hn : (70 : Int) < (p.n : Int)
    · skip
      have hk' : k = true := by rw [← HK.out, greatP, HQ.out, decide_eq_true (show 70 < p.n by omega)]; rfl
      subst hk'
      clear HK HQ
      go_wp2
      go_ret
      exact ⟨rfl, (later j1 j3)⟩
    · skip
      have hk' : k = false := by rw [← HK.out, greatP, HQ.out, decide_eq_false (show ¬ 70 < p.n by omega)]; rfl
      subst hk'
      clear HK HQ
      have hnb : decide ((70 : Int) < (p.n : Int)) = false := decide_eq_false hn
      clear hn
      go_wp2
      go_ret
      exact ⟨rfl, (later j1 j3)⟩
set_option maxHeartbeats 12800000 in
set_option maxRecDepth 100000 in
/-- headcountref20.SamePart. -/
theorem RSamePart_any (w : World) (a b : Pv) (hA : PRows w 0 w.heap.size a) (hB : PRows w 0 w.heap.size b) (k : Bool) (hk : sameP a b = k) :
    Calls Tryz.prog 16 #[.agg #[.bool a.M.S.s, .slice a.M.S.A a.M.S.n a.M.S.c, .int .i64 a.M.S.e, .bool a.M.W.s, .slice a.M.W.A a.M.W.n a.M.W.c, .int .i64 a.M.W.e, .bool a.M.C.s, .slice a.M.C.A a.M.C.n a.M.C.c, .int .i64 a.M.C.e, .bool a.M.A.s, .slice a.M.A.A a.M.A.n a.M.A.c, .int .i64 a.M.A.e, .bool a.h, .int .i64 a.mn, .int .i64 a.mx, .slice a.A a.n a.c], .agg #[.bool b.M.S.s, .slice b.M.S.A b.M.S.n b.M.S.c, .int .i64 b.M.S.e, .bool b.M.W.s, .slice b.M.W.A b.M.W.n b.M.W.c, .int .i64 b.M.W.e, .bool b.M.C.s, .slice b.M.C.A b.M.C.n b.M.C.c, .int .i64 b.M.C.e, .bool b.M.A.s, .slice b.M.A.A b.M.A.n b.M.A.c, .int .i64 b.M.A.e, .bool b.h, .int .i64 b.mn, .int .i64 b.mx, .slice b.A b.n b.c]] w fun e w' => e = .returned (.bool k) ∧ Below w.heap.size w w' := by
  generalize hw : (w.alloc (.cells #[.bool a.M.S.s, .slice a.M.S.A a.M.S.n a.M.S.c, .int .i64 a.M.S.e, .bool a.M.W.s, .slice a.M.W.A a.M.W.n a.M.W.c, .int .i64 a.M.W.e, .bool a.M.C.s, .slice a.M.C.A a.M.C.n a.M.C.c, .int .i64 a.M.C.e, .bool a.M.A.s, .slice a.M.A.A a.M.A.n a.M.A.c, .int .i64 a.M.A.e, .bool a.h, .int .i64 a.mn, .int .i64 a.mx, .slice a.A a.n a.c] 30)).alloc (.cells #[.bool b.M.S.s, .slice b.M.S.A b.M.S.n b.M.S.c, .int .i64 b.M.S.e, .bool b.M.W.s, .slice b.M.W.A b.M.W.n b.M.W.c, .int .i64 b.M.W.e, .bool b.M.C.s, .slice b.M.C.A b.M.C.n b.M.C.c, .int .i64 b.M.C.e, .bool b.M.A.s, .slice b.M.A.A b.M.A.n b.M.A.c, .int .i64 b.M.A.e, .bool b.h, .int .i64 b.mn, .int .i64 b.mx, .slice b.A b.n b.c] 30) = w1
  obtain ⟨bA, bB, j1, lo1, hi1⟩ := boxes2 w _ _ hw
  replace bA : PBox w1 w.heap.size a := bA
  replace bB : PBox w1 (w.heap.size + 1) b := bB
  replace j1 : Below w.heap.size w w1 := j1
  have S1 : w.heap.size < w1.heap.size := by omega
  have S2 : w.heap.size + 1 < w1.heap.size := by omega
  obtain ⟨q, hq⟩ : ∃ q, sameM a.M b.M = q := ⟨_, rfl⟩
  obtain ⟨r, hr⟩ : ∃ q, Pa.Sm a.xs b.xs = q := ⟨_, rfl⟩
  have HQ := Lib.hid hq
  have HR := Lib.hid hr
  have HK := Lib.hid hk
  clear hq hr hk
  go_enter Tryz.func16, Tryz.ntmps16
  obtain ⟨⟨q5_0, q5_1, q5_2, q5_3, q5_4, q5_5, q5_6, q5_7, q5_8, q5_9, q5_10, q5_11, q5_12, q5_13, q5_14, q5_15⟩, q5f⟩ := PBox.cell bA
  obtain ⟨⟨q6_0, q6_1, q6_2, q6_3, q6_4, q6_5, q6_6, q6_7, q6_8, q6_9, q6_10, q6_11, q6_12, q6_13, q6_14, q6_15⟩, q6f⟩ := PBox.cell bB
  go_wp2_with fail
  refine (RSame_any w1 a.M b.M (PRows.on hA j1).M (PRows.on hB j1).M q HQ.out).mono ?_
  rintro e' v7 ⟨rfl, j8⟩
  clear q5_0 q5_1 q5_2 q5_3 q5_4 q5_5 q5_6 q5_7 q5_8 q5_9 q5_10 q5_11 q5_12 q5_13 q5_14 q5_15 q5f q6_0 q6_1 q6_2 q6_3 q6_4 q6_5 q6_6 q6_7 q6_8 q6_9 q6_10 q6_11 q6_12 q6_13 q6_14 q6_15 q6f
  try clear hw
  obtain ⟨⟨q9_0, q9_1, q9_2, q9_3, q9_4, q9_5, q9_6, q9_7, q9_8, q9_9, q9_10, q9_11, q9_12, q9_13, q9_14, q9_15⟩, q9f⟩ := PBox.cell (box_later bA j8 S1)
  obtain ⟨⟨q10_0, q10_1, q10_2, q10_3, q10_4, q10_5, q10_6, q10_7, q10_8, q10_9, q10_10, q10_11, q10_12, q10_13, q10_14, q10_15⟩, q10f⟩ := PBox.cell (box_later bB j8 S2)
  cases q
  · skip
    have hk' : k = false := by rw [← HK.out, sameP, HQ.out]; rfl
    subst hk'
    clear HK HQ HR
    go_wp2
    go_ret
    exact ⟨rfl, (later j1 j8)⟩
  · skip
    by_cases e1 : a.h = b.h
    rotate_left
    · skip
      have hk' : k = false := by
        rw [← HK.out, sameP, HQ.out, sameE, decide_eq_false e1]
        simp
      subst hk'
      have eb : (a.h == b.h) = false := by simpa using e1
      clear HK HQ HR
      go_wp2
      go_ret
      exact ⟨rfl, (later j1 j8)⟩
    · skip
      rw [e1] at q9_12
      replace e1 := Lib.hid e1
      by_cases e2 : a.mn = b.mn
      rotate_left
      · skip
        have hk' : k = false := by
          rw [← HK.out, sameP, HQ.out, sameE, decide_eq_false e2]
          simp
        subst hk'
        have eb : (a.mn == b.mn) = false := by simpa using e2
        clear HK HQ HR
        go_wp2
        go_ret
        exact ⟨rfl, (later j1 j8)⟩
      · skip
        rw [e2] at q9_13
        replace e2 := Lib.hid e2
        by_cases e3 : a.mx = b.mx
        rotate_left
        · skip
          have hk' : k = false := by
            rw [← HK.out, sameP, HQ.out, sameE, decide_eq_false e3]
            simp
          subst hk'
          have eb : (a.mx == b.mx) = false := by simpa using e3
          clear HK HQ HR
          go_wp2
          go_ret
          exact ⟨rfl, (later j1 j8)⟩
        · skip
          rw [e3] at q9_14
          replace e3 := Lib.hid e3
          have hk' : k = r := by
            rw [← HK.out, sameP, HQ.out, HR.out, sameE, e1.out, e2.out, e3.out]
            simp
          subst hk'
          have HRR := Lib.hid HR.out
          clear HK HQ HR e1 e2 e3
          go_wp2_with fail
          refine (Pa.tagsSame_any v7 0 v7.heap.size 0 v7.heap.size _ _ _ _ _ _ _ _ (PRows.on hA (later j1 j8)).L (PRows.on hB (later j1 j8)).L k HRR.out).mono ?_
          rintro e' v_ ⟨rfl, m_, rfl⟩
          have jd : Below w.heap.size w (v7.drewN m_) := below_drewN (later j1 j8) m_
          cases k
          · skip
            go_wp2
            go_ret
            exact ⟨rfl, jd⟩
          · skip
            go_wp2
            go_ret
            exact ⟨rfl, jd⟩
set_option maxHeartbeats 12800000 in
set_option maxRecDepth 100000 in
/-- past.SamePart. -/
theorem SamePart_any (w : World) (a b : Pv) (hA : PRows w 0 w.heap.size a) (hB : PRows w 0 w.heap.size b) (k : Bool) (hk : sameP a b = k) :
    Calls Tryz.prog 109 #[.agg #[.bool a.M.S.s, .slice a.M.S.A a.M.S.n a.M.S.c, .int .i64 a.M.S.e, .bool a.M.W.s, .slice a.M.W.A a.M.W.n a.M.W.c, .int .i64 a.M.W.e, .bool a.M.C.s, .slice a.M.C.A a.M.C.n a.M.C.c, .int .i64 a.M.C.e, .bool a.M.A.s, .slice a.M.A.A a.M.A.n a.M.A.c, .int .i64 a.M.A.e, .bool a.h, .int .i64 a.mn, .int .i64 a.mx, .slice a.A a.n a.c], .agg #[.bool b.M.S.s, .slice b.M.S.A b.M.S.n b.M.S.c, .int .i64 b.M.S.e, .bool b.M.W.s, .slice b.M.W.A b.M.W.n b.M.W.c, .int .i64 b.M.W.e, .bool b.M.C.s, .slice b.M.C.A b.M.C.n b.M.C.c, .int .i64 b.M.C.e, .bool b.M.A.s, .slice b.M.A.A b.M.A.n b.M.A.c, .int .i64 b.M.A.e, .bool b.h, .int .i64 b.mn, .int .i64 b.mx, .slice b.A b.n b.c]] w fun e w' => e = .returned (.bool k) ∧ Below w.heap.size w w' := by
  generalize hw : (w.alloc (.cells #[.bool a.M.S.s, .slice a.M.S.A a.M.S.n a.M.S.c, .int .i64 a.M.S.e, .bool a.M.W.s, .slice a.M.W.A a.M.W.n a.M.W.c, .int .i64 a.M.W.e, .bool a.M.C.s, .slice a.M.C.A a.M.C.n a.M.C.c, .int .i64 a.M.C.e, .bool a.M.A.s, .slice a.M.A.A a.M.A.n a.M.A.c, .int .i64 a.M.A.e, .bool a.h, .int .i64 a.mn, .int .i64 a.mx, .slice a.A a.n a.c] 30)).alloc (.cells #[.bool b.M.S.s, .slice b.M.S.A b.M.S.n b.M.S.c, .int .i64 b.M.S.e, .bool b.M.W.s, .slice b.M.W.A b.M.W.n b.M.W.c, .int .i64 b.M.W.e, .bool b.M.C.s, .slice b.M.C.A b.M.C.n b.M.C.c, .int .i64 b.M.C.e, .bool b.M.A.s, .slice b.M.A.A b.M.A.n b.M.A.c, .int .i64 b.M.A.e, .bool b.h, .int .i64 b.mn, .int .i64 b.mx, .slice b.A b.n b.c] 30) = w1
  obtain ⟨bA, bB, j1, lo1, hi1⟩ := boxes2 w _ _ hw
  replace bA : PBox w1 w.heap.size a := bA
  replace bB : PBox w1 (w.heap.size + 1) b := bB
  replace j1 : Below w.heap.size w w1 := j1
  have S1 : w.heap.size < w1.heap.size := by omega
  have S2 : w.heap.size + 1 < w1.heap.size := by omega
  obtain ⟨q, hq⟩ : ∃ q, sameM a.M b.M = q := ⟨_, rfl⟩
  obtain ⟨r, hr⟩ : ∃ q, Pa.Sm a.xs b.xs = q := ⟨_, rfl⟩
  have HQ := Lib.hid hq
  have HR := Lib.hid hr
  have HK := Lib.hid hk
  clear hq hr hk
  go_enter Tryz.func109, Tryz.ntmps109
  obtain ⟨⟨q11_0, q11_1, q11_2, q11_3, q11_4, q11_5, q11_6, q11_7, q11_8, q11_9, q11_10, q11_11, q11_12, q11_13, q11_14, q11_15⟩, q11f⟩ := PBox.cell bA
  obtain ⟨⟨q12_0, q12_1, q12_2, q12_3, q12_4, q12_5, q12_6, q12_7, q12_8, q12_9, q12_10, q12_11, q12_12, q12_13, q12_14, q12_15⟩, q12f⟩ := PBox.cell bB
  go_wp2_with fail
  refine (MSame_anyP w1 a.M b.M (PRows.on hA j1).M (PRows.on hB j1).M q HQ.out).mono ?_
  rintro e' v13 ⟨rfl, j14⟩
  clear q11_0 q11_1 q11_2 q11_3 q11_4 q11_5 q11_6 q11_7 q11_8 q11_9 q11_10 q11_11 q11_12 q11_13 q11_14 q11_15 q11f q12_0 q12_1 q12_2 q12_3 q12_4 q12_5 q12_6 q12_7 q12_8 q12_9 q12_10 q12_11 q12_12 q12_13 q12_14 q12_15 q12f
  try clear hw
  obtain ⟨⟨q15_0, q15_1, q15_2, q15_3, q15_4, q15_5, q15_6, q15_7, q15_8, q15_9, q15_10, q15_11, q15_12, q15_13, q15_14, q15_15⟩, q15f⟩ := PBox.cell (box_later bA j14 S1)
  obtain ⟨⟨q16_0, q16_1, q16_2, q16_3, q16_4, q16_5, q16_6, q16_7, q16_8, q16_9, q16_10, q16_11, q16_12, q16_13, q16_14, q16_15⟩, q16f⟩ := PBox.cell (box_later bB j14 S2)
  cases q
  · skip
    have hk' : k = false := by rw [← HK.out, sameP, HQ.out]; rfl
    subst hk'
    clear HK HQ HR
    go_wp2
    go_ret
    exact ⟨rfl, (later j1 j14)⟩
  · skip
    by_cases e1 : a.h = b.h
    rotate_left
    · skip
      have hk' : k = false := by
        rw [← HK.out, sameP, HQ.out, sameE, decide_eq_false e1]
        simp
      subst hk'
      have eb : (a.h == b.h) = false := by simpa using e1
      clear HK HQ HR
      go_wp2
      go_ret
      exact ⟨rfl, (later j1 j14)⟩
    · skip
      rw [e1] at q15_12
      replace e1 := Lib.hid e1
      by_cases e2 : a.mn = b.mn
      rotate_left
      · skip
        have hk' : k = false := by
          rw [← HK.out, sameP, HQ.out, sameE, decide_eq_false e2]
          simp
        subst hk'
        have eb : (a.mn == b.mn) = false := by simpa using e2
        clear HK HQ HR
        go_wp2
        go_ret
        exact ⟨rfl, (later j1 j14)⟩
      · skip
        rw [e2] at q15_13
        replace e2 := Lib.hid e2
        by_cases e3 : a.mx = b.mx
        rotate_left
        · skip
          have hk' : k = false := by
            rw [← HK.out, sameP, HQ.out, sameE, decide_eq_false e3]
            simp
          subst hk'
          have eb : (a.mx == b.mx) = false := by simpa using e3
          clear HK HQ HR
          go_wp2
          go_ret
          exact ⟨rfl, (later j1 j14)⟩
        · skip
          rw [e3] at q15_14
          replace e3 := Lib.hid e3
          have hk' : k = r := by
            rw [← HK.out, sameP, HQ.out, HR.out, sameE, e1.out, e2.out, e3.out]
            simp
          subst hk'
          have HRR := Lib.hid HR.out
          clear HK HQ HR e1 e2 e3
          go_wp2_with fail
          refine (Pa.Equal_any v13 0 v13.heap.size 0 v13.heap.size _ _ _ _ _ _ _ _ (PRows.on hA (later j1 j14)).L (PRows.on hB (later j1 j14)).L k HRR.out).mono ?_
          rintro e' v_ ⟨rfl, m_, rfl⟩
          have jd : Below w.heap.size w (v13.drewN m_) := below_drewN (later j1 j14) m_
          cases k
          · skip
            go_wp2
            go_ret
            exact ⟨rfl, jd⟩
          · skip
            go_wp2
            go_ret
            exact ⟨rfl, jd⟩
end Ma
end Go.Proofs.YtmbppgjhdcmckaaGreatDoor
