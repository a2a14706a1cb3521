/- headcountref20: parts that are great, the same, copied: walks (printed by a program of mine). -/
/- headcountref20.TwinPart: a walk (printed by a program of mine). -/
/- headcountref20.Twin: a walk (printed by a program of mine). -/
/- slices.Clone of frozen parts: a walk (printed by a program of mine). -/
/- A part is laid into an own list of frozen parts. No function in sight (printed by a program of mine). -/
/- mass.Twin in a seat whose set lacks it: a walk (printed by a program of mine). -/
import Derived.Test.YtbbnbgllgomolaaBy10
import Derived.Test.YtbbnbgllgomolaaBy05
import Derived.Laws.StructEq
import Derived.Test.YtbbnbgllgomolaaBy09
import Derived.Test.YtbbnbgllgomolaaBy03
import Derived.Test.YtbbnbgllgomolaaBy04
import Derived.Test.YtbbnbgllgomolaaBy07
import Derived.Test.YtbbnbgllgomolaaBy01
import Derived.Test.YtbbnbgllgomolaaBy08
namespace Go.Proofs.Ytbbnbgllgomolaa
open Go.RowKit
namespace Ma
open Dp Dy
set_option maxHeartbeats 6400000 in
set_option maxRecDepth 100000 in
/-- headcountref20.GreatPart. -/
theorem GreatPart_any (w : World) (p : Pv) (hR : PRows w 0 w.heap.size p) (k : Bool) (hk : greatP p = k) :
  Calls Try.prog 13 #[.agg #[.bool p.M.S.s, .slice p.M.S.A p.M.S.n p.M.S.c, .int .i64 p.M.S.e, .bool p.M.W.s, .slice p.M.W.A p.M.W.n p.M.W.c, .int .i64 p.M.W.e, .bool p.M.C.s, .slice p.M.C.A p.M.C.n p.M.C.c, .int .i64 p.M.C.e, .bool p.M.A.s, .slice p.M.A.A p.M.A.n p.M.A.c, .int .i64 p.M.A.e, .bool p.h, .int .i64 p.mn, .int .i64 p.mx, .slice p.A p.n p.c]] w fun e w' => e = .returned (.bool k) ∧ Below w.heap.size w w' := by
 obtain ⟨w1, hw, bP, j1, S1⟩ := alloc_p w p
 obtain ⟨q, hq⟩ : ∃ q, greatM p.M = q := ⟨_, rfl⟩
 have HQ := Lib.hid hq
 have HK := Lib.hid hk
 clear hq hk
 go_enter Try.func13, Try.ntmps13
 obtain ⟨⟨q1_0, q1_1, q1_2, q1_3, q1_4, q1_5, q1_6, q1_7, q1_8, q1_9, q1_10, q1_11, q1_12, q1_13, q1_14, q1_15⟩, q1f⟩ := PBox.cell bP
 go_wp2_with fail
 refine (RGreat_any w1 p.M (PRows.on hR j1).M q HQ.out).mono ?_
 rintro e' v2 ⟨rfl, j3⟩
 clear q1_0 q1_1 q1_2 q1_3 q1_4 q1_5 q1_6 q1_7 q1_8 q1_9 q1_10 q1_11 q1_12 q1_13 q1_14 q1_15 q1f
 try clear hw
 obtain ⟨⟨q4_0, q4_1, q4_2, q4_3, q4_4, q4_5, q4_6, q4_7, q4_8, q4_9, q4_10, q4_11, q4_12, q4_13, q4_14, q4_15⟩, q4f⟩ := PBox.cell (box_later bP j3 S1)
 cases q
 rotate_left
 · skip
   have hk' : k = true := by rw [← HK.out, greatP, HQ.out]; rfl
   subst hk'
   clear HK HQ
   go_wp2
   go_ret
   exact ⟨rfl, (later j1 j3)⟩
 · skip
   by_cases hn : (70 : Int) < (p.n : Int)
   · skip
     have hk' : k = true := by rw [← HK.out, greatP, HQ.out, decide_eq_true (show 70 < p.n by omega)]; rfl
     subst hk'
     clear HK HQ
     go_wp2
     go_ret
     exact ⟨rfl, (later j1 j3)⟩
   · skip
     have hk' : k = false := by rw [← HK.out, greatP, HQ.out, decide_eq_false (show ¬ 70 < p.n by omega)]; rfl
     subst hk'
     clear HK HQ
     have hnb : decide ((70 : Int) < (p.n : Int)) = false := decide_eq_false hn
     clear hn
     go_wp2
     go_ret
     exact ⟨rfl, (later j1 j3)⟩
set_option maxHeartbeats 12800000 in
set_option maxRecDepth 100000 in
/-- headcountref20.SamePart. -/
theorem RSamePart_any (w : World) (a b : Pv) (hA : PRows w 0 w.heap.size a) (hB : PRows w 0 w.heap.size b) (k : Bool) (hk : sameP a b = k) :
  Calls Try.prog 19 #[.agg #[.bool a.M.S.s, .slice a.M.S.A a.M.S.n a.M.S.c, .int .i64 a.M.S.e, .bool a.M.W.s, .slice a.M.W.A a.M.W.n a.M.W.c, .int .i64 a.M.W.e, .bool a.M.C.s, .slice a.M.C.A a.M.C.n a.M.C.c, .int .i64 a.M.C.e, .bool a.M.A.s, .slice a.M.A.A a.M.A.n a.M.A.c, .int .i64 a.M.A.e, .bool a.h, .int .i64 a.mn, .int .i64 a.mx, .slice a.A a.n a.c], .agg #[.bool b.M.S.s, .slice b.M.S.A b.M.S.n b.M.S.c, .int .i64 b.M.S.e, .bool b.M.W.s, .slice b.M.W.A b.M.W.n b.M.W.c, .int .i64 b.M.W.e, .bool b.M.C.s, .slice b.M.C.A b.M.C.n b.M.C.c, .int .i64 b.M.C.e, .bool b.M.A.s, .slice b.M.A.A b.M.A.n b.M.A.c, .int .i64 b.M.A.e, .bool b.h, .int .i64 b.mn, .int .i64 b.mx, .slice b.A b.n b.c]] w fun e w' => e = .returned (.bool k) ∧ Below w.heap.size w w' := by
 generalize hw : (w.alloc (.cells #[.bool a.M.S.s, .slice a.M.S.A a.M.S.n a.M.S.c, .int .i64 a.M.S.e, .bool a.M.W.s, .slice a.M.W.A a.M.W.n a.M.W.c, .int .i64 a.M.W.e, .bool a.M.C.s, .slice a.M.C.A a.M.C.n a.M.C.c, .int .i64 a.M.C.e, .bool a.M.A.s, .slice a.M.A.A a.M.A.n a.M.A.c, .int .i64 a.M.A.e, .bool a.h, .int .i64 a.mn, .int .i64 a.mx, .slice a.A a.n a.c] 31)).alloc (.cells #[.bool b.M.S.s, .slice b.M.S.A b.M.S.n b.M.S.c, .int .i64 b.M.S.e, .bool b.M.W.s, .slice b.M.W.A b.M.W.n b.M.W.c, .int .i64 b.M.W.e, .bool b.M.C.s, .slice b.M.C.A b.M.C.n b.M.C.c, .int .i64 b.M.C.e, .bool b.M.A.s, .slice b.M.A.A b.M.A.n b.M.A.c, .int .i64 b.M.A.e, .bool b.h, .int .i64 b.mn, .int .i64 b.mx, .slice b.A b.n b.c] 31) = w1
 obtain ⟨bA, bB, j1, lo1, hi1⟩ := boxes2 w _ _ hw
 replace bA : PBox w1 w.heap.size a := bA
 replace bB : PBox w1 (w.heap.size + 1) b := bB
 replace j1 : Below w.heap.size w w1 := j1
 have S1 : w.heap.size < w1.heap.size := by omega
 have S2 : w.heap.size + 1 < w1.heap.size := by omega
 obtain ⟨q, hq⟩ : ∃ q, sameM a.M b.M = q := ⟨_, rfl⟩
 obtain ⟨r, hr⟩ : ∃ q, Pa.Sm a.xs b.xs = q := ⟨_, rfl⟩
 have HQ := Lib.hid hq
 have HR := Lib.hid hr
 have HK := Lib.hid hk
 clear hq hr hk
 go_enter Try.func19, Try.ntmps19
 obtain ⟨⟨q5_0, q5_1, q5_2, q5_3, q5_4, q5_5, q5_6, q5_7, q5_8, q5_9, q5_10, q5_11, q5_12, q5_13, q5_14, q5_15⟩, q5f⟩ := PBox.cell bA
 obtain ⟨⟨q6_0, q6_1, q6_2, q6_3, q6_4, q6_5, q6_6, q6_7, q6_8, q6_9, q6_10, q6_11, q6_12, q6_13, q6_14, q6_15⟩, q6f⟩ := PBox.cell bB
 go_wp2_with fail
 refine (RSame_any w1 a.M b.M (PRows.on hA j1).M (PRows.on hB j1).M q HQ.out).mono ?_
 rintro e' v7 ⟨rfl, j8⟩
 clear q5_0 q5_1 q5_2 q5_3 q5_4 q5_5 q5_6 q5_7 q5_8 q5_9 q5_10 q5_11 q5_12 q5_13 q5_14 q5_15 q5f q6_0 q6_1 q6_2 q6_3 q6_4 q6_5 q6_6 q6_7 q6_8 q6_9 q6_10 q6_11 q6_12 q6_13 q6_14 q6_15 q6f
 try clear hw
 obtain ⟨⟨q9_0, q9_1, q9_2, q9_3, q9_4, q9_5, q9_6, q9_7, q9_8, q9_9, q9_10, q9_11, q9_12, q9_13, q9_14, q9_15⟩, q9f⟩ := PBox.cell (box_later bA j8 S1)
 obtain ⟨⟨q10_0, q10_1, q10_2, q10_3, q10_4, q10_5, q10_6, q10_7, q10_8, q10_9, q10_10, q10_11, q10_12, q10_13, q10_14, q10_15⟩, q10f⟩ := PBox.cell (box_later bB j8 S2)
 cases q
 · skip
   have hk' : k = false := by rw [← HK.out, sameP, HQ.out]; rfl
   subst hk'
   clear HK HQ HR
   go_wp2
   go_ret
   exact ⟨rfl, (later j1 j8)⟩
 · skip
   by_cases e1 : a.h = b.h
   rotate_left
   · skip
     have hk' : k = false := by
      rw [← HK.out, sameP, HQ.out, sameE, decide_eq_false e1]
      simp
     subst hk'
     have eb : (a.h == b.h) = false := by simpa using e1
     clear HK HQ HR
     go_wp2
     go_ret
     exact ⟨rfl, (later j1 j8)⟩
   · skip
     rw [e1] at q9_12
     replace e1 := Lib.hid e1
     by_cases e2 : a.mn = b.mn
     rotate_left
     · skip
       have hk' : k = false := by
        rw [← HK.out, sameP, HQ.out, sameE, decide_eq_false e2]
        simp
       subst hk'
       have eb : (a.mn == b.mn) = false := by simpa using e2
       clear HK HQ HR
       go_wp2
       go_ret
       exact ⟨rfl, (later j1 j8)⟩
     · skip
       rw [e2] at q9_13
       replace e2 := Lib.hid e2
       by_cases e3 : a.mx = b.mx
       rotate_left
       · skip
         have hk' : k = false := by
          rw [← HK.out, sameP, HQ.out, sameE, decide_eq_false e3]
          simp
         subst hk'
         have eb : (a.mx == b.mx) = false := by simpa using e3
         clear HK HQ HR
         go_wp2
         go_ret
         exact ⟨rfl, (later j1 j8)⟩
       · skip
         rw [e3] at q9_14
         replace e3 := Lib.hid e3
         have hk' : k = r := by
          rw [← HK.out, sameP, HQ.out, HR.out, sameE, e1.out, e2.out, e3.out]
          simp
         subst hk'
         have HRR := Lib.hid HR.out
         clear HK HQ HR e1 e2 e3
         go_wp2_with fail
         refine (Pa.tagsSame_any v7 0 v7.heap.size 0 v7.heap.size _ _ _ _ _ _ _ _ (PRows.on hA (later j1 j8)).L (PRows.on hB (later j1 j8)).L k HRR.out).mono ?_
         rintro e' v_ ⟨rfl, m_, rfl⟩
         have jd : Below w.heap.size w (v7.drewN m_) := below_drewN (later j1 j8) m_
         cases k
         · skip
           go_wp2
           go_ret
           exact ⟨rfl, jd⟩
         · skip
           go_wp2
           go_ret
           exact ⟨rfl, jd⟩
set_option maxHeartbeats 12800000 in
set_option maxRecDepth 100000 in
/-- past.SamePart. -/
theorem SamePart_any (w : World) (a b : Pv) (hA : PRows w 0 w.heap.size a) (hB : PRows w 0 w.heap.size b) (k : Bool) (hk : sameP a b = k) :
  Calls Try.prog 21 #[.agg #[.bool a.M.S.s, .slice a.M.S.A a.M.S.n a.M.S.c, .int .i64 a.M.S.e, .bool a.M.W.s, .slice a.M.W.A a.M.W.n a.M.W.c, .int .i64 a.M.W.e, .bool a.M.C.s, .slice a.M.C.A a.M.C.n a.M.C.c, .int .i64 a.M.C.e, .bool a.M.A.s, .slice a.M.A.A a.M.A.n a.M.A.c, .int .i64 a.M.A.e, .bool a.h, .int .i64 a.mn, .int .i64 a.mx, .slice a.A a.n a.c], .agg #[.bool b.M.S.s, .slice b.M.S.A b.M.S.n b.M.S.c, .int .i64 b.M.S.e, .bool b.M.W.s, .slice b.M.W.A b.M.W.n b.M.W.c, .int .i64 b.M.W.e, .bool b.M.C.s, .slice b.M.C.A b.M.C.n b.M.C.c, .int .i64 b.M.C.e, .bool b.M.A.s, .slice b.M.A.A b.M.A.n b.M.A.c, .int .i64 b.M.A.e, .bool b.h, .int .i64 b.mn, .int .i64 b.mx, .slice b.A b.n b.c]] w fun e w' => e = .returned (.bool k) ∧ Below w.heap.size w w' := by
 generalize hw : (w.alloc (.cells #[.bool a.M.S.s, .slice a.M.S.A a.M.S.n a.M.S.c, .int .i64 a.M.S.e, .bool a.M.W.s, .slice a.M.W.A a.M.W.n a.M.W.c, .int .i64 a.M.W.e, .bool a.M.C.s, .slice a.M.C.A a.M.C.n a.M.C.c, .int .i64 a.M.C.e, .bool a.M.A.s, .slice a.M.A.A a.M.A.n a.M.A.c, .int .i64 a.M.A.e, .bool a.h, .int .i64 a.mn, .int .i64 a.mx, .slice a.A a.n a.c] 31)).alloc (.cells #[.bool b.M.S.s, .slice b.M.S.A b.M.S.n b.M.S.c, .int .i64 b.M.S.e, .bool b.M.W.s, .slice b.M.W.A b.M.W.n b.M.W.c, .int .i64 b.M.W.e, .bool b.M.C.s, .slice b.M.C.A b.M.C.n b.M.C.c, .int .i64 b.M.C.e, .bool b.M.A.s, .slice b.M.A.A b.M.A.n b.M.A.c, .int .i64 b.M.A.e, .bool b.h, .int .i64 b.mn, .int .i64 b.mx, .slice b.A b.n b.c] 31) = w1
 obtain ⟨bA, bB, j1, lo1, hi1⟩ := boxes2 w _ _ hw
 replace bA : PBox w1 w.heap.size a := bA
 replace bB : PBox w1 (w.heap.size + 1) b := bB
 replace j1 : Below w.heap.size w w1 := j1
 have S1 : w.heap.size < w1.heap.size := by omega
 have S2 : w.heap.size + 1 < w1.heap.size := by omega
 obtain ⟨q, hq⟩ : ∃ q, sameM a.M b.M = q := ⟨_, rfl⟩
 obtain ⟨r, hr⟩ : ∃ q, Pa.Sm a.xs b.xs = q := ⟨_, rfl⟩
 have HQ := Lib.hid hq
 have HR := Lib.hid hr
 have HK := Lib.hid hk
 clear hq hr hk
 go_enter Try.func21, Try.ntmps21
 obtain ⟨⟨q11_0, q11_1, q11_2, q11_3, q11_4, q11_5, q11_6, q11_7, q11_8, q11_9, q11_10, q11_11, q11_12, q11_13, q11_14, q11_15⟩, q11f⟩ := PBox.cell bA
 obtain ⟨⟨q12_0, q12_1, q12_2, q12_3, q12_4, q12_5, q12_6, q12_7, q12_8, q12_9, q12_10, q12_11, q12_12, q12_13, q12_14, q12_15⟩, q12f⟩ := PBox.cell bB
 go_wp2_with fail
 refine (MSame_anyP w1 a.M b.M (PRows.on hA j1).M (PRows.on hB j1).M q HQ.out).mono ?_
 rintro e' v13 ⟨rfl, j14⟩
 clear q11_0 q11_1 q11_2 q11_3 q11_4 q11_5 q11_6 q11_7 q11_8 q11_9 q11_10 q11_11 q11_12 q11_13 q11_14 q11_15 q11f q12_0 q12_1 q12_2 q12_3 q12_4 q12_5 q12_6 q12_7 q12_8 q12_9 q12_10 q12_11 q12_12 q12_13 q12_14 q12_15 q12f
 try clear hw
 obtain ⟨⟨q15_0, q15_1, q15_2, q15_3, q15_4, q15_5, q15_6, q15_7, q15_8, q15_9, q15_10, q15_11, q15_12, q15_13, q15_14, q15_15⟩, q15f⟩ := PBox.cell (box_later bA j14 S1)
 obtain ⟨⟨q16_0, q16_1, q16_2, q16_3, q16_4, q16_5, q16_6, q16_7, q16_8, q16_9, q16_10, q16_11, q16_12, q16_13, q16_14, q16_15⟩, q16f⟩ := PBox.cell (box_later bB j14 S2)
 cases q
 · skip
   have hk' : k = false := by rw [← HK.out, sameP, HQ.out]; rfl
   subst hk'
   clear HK HQ HR
   go_wp2
   go_ret
   exact ⟨rfl, (later j1 j14)⟩
 · skip
   by_cases e1 : a.h = b.h
   rotate_left
   · skip
     have hk' : k = false := by
      rw [← HK.out, sameP, HQ.out, sameE, decide_eq_false e1]
      simp
     subst hk'
     have eb : (a.h == b.h) = false := by simpa using e1
     clear HK HQ HR
     go_wp2
     go_ret
     exact ⟨rfl, (later j1 j14)⟩
   · skip
     rw [e1] at q15_12
     replace e1 := Lib.hid e1
     by_cases e2 : a.mn = b.mn
     rotate_left
     · skip
       have hk' : k = false := by
        rw [← HK.out, sameP, HQ.out, sameE, decide_eq_false e2]
        simp
       subst hk'
       have eb : (a.mn == b.mn) = false := by simpa using e2
       clear HK HQ HR
       go_wp2
       go_ret
       exact ⟨rfl, (later j1 j14)⟩
     · skip
       rw [e2] at q15_13
       replace e2 := Lib.hid e2
       by_cases e3 : a.mx = b.mx
       rotate_left
       · skip
         have hk' : k = false := by
          rw [← HK.out, sameP, HQ.out, sameE, decide_eq_false e3]
          simp
         subst hk'
         have eb : (a.mx == b.mx) = false := by simpa using e3
         clear HK HQ HR
         go_wp2
         go_ret
         exact ⟨rfl, (later j1 j14)⟩
       · skip
         rw [e3] at q15_14
         replace e3 := Lib.hid e3
         have hk' : k = r := by
          rw [← HK.out, sameP, HQ.out, HR.out, sameE, e1.out, e2.out, e3.out]
          simp
         subst hk'
         have HRR := Lib.hid HR.out
         clear HK HQ HR e1 e2 e3
         go_wp2_with fail
         refine (Pa.Equal_any v13 0 v13.heap.size 0 v13.heap.size _ _ _ _ _ _ _ _ (PRows.on hA (later j1 j14)).L (PRows.on hB (later j1 j14)).L k HRR.out).mono ?_
         rintro e' v_ ⟨rfl, m_, rfl⟩
         have jd : Below w.heap.size w (v13.drewN m_) := below_drewN (later j1 j14) m_
         cases k
         · skip
           go_wp2
           go_ret
           exact ⟨rfl, jd⟩
         · skip
           go_wp2
           go_ret
           exact ⟨rfl, jd⟩
end Ma
end Go.Proofs.Ytbbnbgllgomolaa
namespace Go.Proofs.Ytbbnbgllgomolaa
open Go.RowKit
namespace Ma
open Dp Dy
set_option maxHeartbeats 25600000 in
set_option maxRecDepth 100000 in
/-- headcountref20.TwinPart. -/
theorem RTwinPart_any (w : World) (p : Pv) (hR : PRows w 0 w.heap.size p) (hn : ∀ x, x < 4 → (p.M.get x).n ≤ 1000000) (hn2 : p.n ≤ 1000000) :
  Calls Try.prog 15 #[.agg #[.bool p.M.S.s, .slice p.M.S.A p.M.S.n p.M.S.c, .int .i64 p.M.S.e, .bool p.M.W.s, .slice p.M.W.A p.M.W.n p.M.W.c, .int .i64 p.M.W.e, .bool p.M.C.s, .slice p.M.C.A p.M.C.n p.M.C.c, .int .i64 p.M.C.e, .bool p.M.A.s, .slice p.M.A.A p.M.A.n p.M.A.c, .int .i64 p.M.A.e, .bool p.h, .int .i64 p.mn, .int .i64 p.mx, .slice p.A p.n p.c]] w fun e w' => ∃ q : Pv, e = .returned (.agg #[.bool q.M.S.s, .slice q.M.S.A q.M.S.n q.M.S.c, .int .i64 q.M.S.e, .bool q.M.W.s, .slice q.M.W.A q.M.W.n q.M.W.c, .int .i64 q.M.W.e, .bool q.M.C.s, .slice q.M.C.A q.M.C.n q.M.C.c, .int .i64 q.M.C.e, .bool q.M.A.s, .slice q.M.A.A q.M.A.n q.M.A.c, .int .i64 q.M.A.e, .bool q.h, .int .i64 q.mn, .int .i64 q.mx, .slice q.A q.n q.c]) ∧ TwinP p q ∧ Below w.heap.size w w' ∧ PRows w' w.heap.size w'.heap.size q := by
 generalize hw : (w.alloc (.cells #[.bool p.M.S.s, .slice p.M.S.A p.M.S.n p.M.S.c, .int .i64 p.M.S.e, .bool p.M.W.s, .slice p.M.W.A p.M.W.n p.M.W.c, .int .i64 p.M.W.e, .bool p.M.C.s, .slice p.M.C.A p.M.C.n p.M.C.c, .int .i64 p.M.C.e, .bool p.M.A.s, .slice p.M.A.A p.M.A.n p.M.A.c, .int .i64 p.M.A.e, .bool p.h, .int .i64 p.mn, .int .i64 p.mx, .slice p.A p.n p.c] 31)).alloc (.cells #[.bool false, .slice none 0 0, .int .i64 0, .bool false, .slice none 0 0, .int .i64 0, .bool false, .slice none 0 0, .int .i64 0, .bool false, .slice none 0 0, .int .i64 0, .bool false, .int .i64 0, .int .i64 0, .slice none 0 0] 31) = w1
 obtain ⟨bP, bZ, j1, lo1, hi1⟩ := boxes2 w _ _ hw
 replace bP : PBox w1 w.heap.size p := bP
 replace bZ : PBox w1 (w.heap.size + 1) ZPv := bZ
 replace j1 : Below w.heap.size w w1 := j1
 have S1 : w.heap.size < w1.heap.size := by omega
 have S2 : w.heap.size + 1 < w1.heap.size := by omega
 have NN := Lib.hid hn
 clear hn
 obtain ⟨i0, hi0, hz0, hz1, hz2⟩ := info_parts Pa.infoU32
 go_enter Try.func15, Try.ntmps15
 obtain ⟨⟨q1_0, q1_1, q1_2, q1_3, q1_4, q1_5, q1_6, q1_7, q1_8, q1_9, q1_10, q1_11, q1_12, q1_13, q1_14, q1_15⟩, q1f⟩ := PBox.cell bP
 go_wp2_with fail
 refine (RTwinM_any w1 p.M (PRows.on hR j1).M NN.out).mono ?_
 rintro e' v2 ⟨m', rfl, tm, j3, Rm⟩
 clear q1_0 q1_1 q1_2 q1_3 q1_4 q1_5 q1_6 q1_7 q1_8 q1_9 q1_10 q1_11 q1_12 q1_13 q1_14 q1_15 q1f
 try clear hw
 replace tm := Lib.hid tm
 have hP := (box_later bP j3 S1)
 have hZ := (box_later bZ j3 S2)
 have hL := (hR.below (later j1 j3) (Nat.le_refl _)).L
 have b0 := (later j1 j3)
 have sV := Below.size j3
 have sW := Below.size (later j1 j3)
 obtain ⟨⟨k0, k1, k2, k3, k4, k5, k6, k7, k8, k9, k10, k11, k12, k13, k14, k15⟩, kf⟩ := PBox.cell hP
 obtain ⟨U, hU, hP1, hbU, hfU, lU, lU'⟩ := part_mass hP m'
 go_upto_region 2 with fail
 try rw [hU]
 clear k0 k1 k2 k3 k4 k5 k6 k7 k8 k9 k10 k11 k12 k13 k14 k15 kf hU
 have b1 := hbU _ _ b0 (Nat.le_refl _)
 have hZ1 := (hfU _ (by omega)).trans hZ
 have hL1 := intsR hL (w' := U) (fun b h1 h2 => hfU b (by omega))
 have Rm1 := rows_rng Rm (w' := U) (fun b h1 h2 => hfU b (by omega))
 clear hP hZ hL b0 Rm hbU hfU
 obtain ⟨M1, hM1⟩ : ∃ q : Pv, q = { p with M := m' } := ⟨_, rfl⟩
 have hPM : PBox U w.heap.size M1 := by rw [hM1]; exact hP1
 have e1 : M1.A = p.A ∧ M1.n = p.n ∧ M1.c = p.c := by rw [hM1]; exact ⟨rfl, rfl, rfl⟩
 have HM1 := Lib.hid hM1
 clear hM1 hP1
 obtain ⟨W2, hW2⟩ : ∃ X, U.alloc (.cells #[] 70) = X := ⟨_, rfl⟩
 have bW2 : Below U.heap.size U W2 := by rw [← hW2]; exact (Below.refl _ _).alloc (Nat.le_refl _) _
 have hPW : PBox W2 w.heap.size M1 := (bW2.block _ (by omega)).trans hPM
 have hown0 : W2.ownsRow U.heap.size 70 1 (.slice (some ⟨U.heap.size, 0, none⟩) 0 0) 0 [] := by rw [← hW2]; exact Pa.own_emptyg U _ U.heap.size _ 1 rfl (Nat.le_refl _)
 have sW2 := bW2.size
 obtain ⟨⟨k0, k1, k2, k3, k4, k5, k6, k7, k8, k9, k10, k11, k12, k13, k14, k15⟩, kf⟩ := PBox.cell hPW
 rw [e1.1, e1.2.1, e1.2.2] at k15
 have hbig := hL1.big
 have hwf := Lib.hid hL1.wf
 have hraw := (hL1.below bW2 (by omega)).raw
 go_wp2_with (first
  | (at_builtin; go_loud (refine wpList_append_raw _ rfl (.tmp 7) (.tmp 9) 23 rfl U.heap.size 70 i0 _ 1 4 Try.underlying23 hi0 hz0 hz1 hz2 rfl (by decide) _ _ _ rfl hown0 _ _ _ p.n _ _ rfl hraw ?c1 ?c2 ?c3 ?c4 ?_)))
 case c1 => exact Pa.u32_one _
 case c2 => unfold maxLen; omega
 case c3 => omega
 case c4 => omega
 intro A2 c2 w3 hown hgrow _
 (try simp at hown)
 have hb3 : Below U.heap.size U w3 := bW2.grown hgrow (by omega) (fun q hq => by simp [Value.ownBlock] at hq; omega)
 have hD : Ints w3 U.heap.size w3.heap.size .u32 A2 p.n p.xs := Ints.of_own hown hwf.out hbig
 have s3 := hb3.size
 have hP3 : PBox w3 w.heap.size M1 := (hb3.block _ (by omega)).trans hPM
 have hZ3 := (hb3.block _ (by omega)).trans hZ1
 have Rm3 := Rm1.below hb3 (by omega)
 have b3 := b1.trans (hb3.mono (by omega))
 clear hgrow hown hb3 hPM hPW hown0 hraw hZ1 Rm1 b1 bW2 k0 k1 k2 k3 k4 k5 k6 k7 k8 k9 k10 k11 k12 k13 k14 k15 kf
 try clear hW2
 obtain ⟨U2, hU2, hP4, hbU, hfU, l2, l2'⟩ := part_tags hP3 A2 p.n c2 p.xs
 obtain ⟨Q, hQe⟩ : ∃ q : Pv, q = { M1 with A := A2, n := p.n, c := c2, xs := p.xs } := ⟨_, rfl⟩
 have hPQ : PBox U2 w.heap.size Q := by rw [hQe]; exact hP4
 have HQ := Lib.hid hQe
 obtain ⟨⟨k0, k1, k2, k3, k4, k5, k6, k7, k8, k9, k10, k11, k12, k13, k14, k15⟩, kf⟩ := PBox.cell hP3
 go_upto_region 3 with fail
 try rw [hU2]
 clear hU2 hQe hP4 k0 k1 k2 k3 k4 k5 k6 k7 k8 k9 k10 k11 k12 k13 k14 k15 kf hP3
 have b4 := hbU _ _ b3 (Nat.le_refl _)
 have hZ4 := (hfU _ (by omega)).trans hZ3
 have Rm4 := rows_rng Rm3 (w' := U2) (fun b h1 h2 => hfU b (by omega))
 have hD4 := intsR hD (w' := U2) (fun b h1 h2 => hfU b (by omega))
 clear b3 hZ3 Rm3 hD hbU hfU
 have tw : TwinP p Q := by
  rw [HQ.out, HM1.out]
  exact ⟨tm.out, rfl, rfl, rfl, rfl, rfl⟩
 have RQ : PRows U2 (w.heap.size + 2) U2.heap.size Q := by
  rw [HQ.out, HM1.out]
  exact ⟨Rm4.more (by omega) (by omega), hD4.more (by omega) (by omega)⟩
 clear Rm4 hD4 HM1 HQ
 obtain ⟨U3, hU3, hZ5, hbU, hfU, l3, l3'⟩ := part_to hZ4 Q
 obtain ⟨⟨k0, k1, k2, k3, k4, k5, k6, k7, k8, k9, k10, k11, k12, k13, k14, k15⟩, kf⟩ := PBox.cell hPQ
 obtain ⟨⟨y0, y1, y2, y3, y4, y5, y6, y7, y8, y9, y10, y11, y12, y13, y14, y15⟩, yf⟩ := PBox.cell hZ4
 go_wp2
 try rw [hU3]
 clear hU3 k0 k1 k2 k3 k4 k5 k6 k7 k8 k9 k10 k11 k12 k13 k14 k15 kf y0 y1 y2 y3 y4 y5 y6 y7 y8 y9 y10 y11 y12 y13 y14 y15 yf
 have b5 := hbU _ _ b4 (by omega)
 have RQ5 := RQ.rng (w' := U3) (fun b h1 h2 => hfU b (by omega))
 obtain ⟨⟨k0, k1, k2, k3, k4, k5, k6, k7, k8, k9, k10, k11, k12, k13, k14, k15⟩, kf⟩ := PBox.cell hZ5
 exact bodyPost_ret (v := .agg #[.bool Q.M.S.s, .slice Q.M.S.A Q.M.S.n Q.M.S.c, .int .i64 Q.M.S.e, .bool Q.M.W.s, .slice Q.M.W.A Q.M.W.n Q.M.W.c, .int .i64 Q.M.W.e, .bool Q.M.C.s, .slice Q.M.C.A Q.M.C.n Q.M.C.c, .int .i64 Q.M.C.e, .bool Q.M.A.s, .slice Q.M.A.A Q.M.A.n Q.M.A.c, .int .i64 Q.M.A.e, .bool Q.h, .int .i64 Q.mn, .int .i64 Q.mx, .slice Q.A Q.n Q.c]) (by simp [results, Try.results15, go_sem, k0, k1, k2, k3, k4, k5, k6, k7, k8, k9, k10, k11, k12, k13, k14, k15]) rfl ⟨Q, rfl, tw, b5, RQ5.more (by omega) (by omega)⟩
end Ma
end Go.Proofs.Ytbbnbgllgomolaa
namespace Go.Proofs.Ytbbnbgllgomolaa
open Go.RowKit
namespace Ma
open Dp Dy
theorem wp_append_rawC {P : Program} {o : Oper} {a : Act} {w : World} {K : Act → World → Prop} {Q : Exit → Act → World → Prop} (s x : Operand) (t : TypeId)
  (ho : o.op = .call { callee := .builtin .append, args := #[s, x], argTypes := #[t, t] })
  (base : Nat) (e : TypeId) (i : TypeInfo) (z : Value) (size bytes : Nat) (ht : P.underlying t = some (.slice e)) (hi : P.info? e = some i) (hz : i.zero = some z)
  (hsize : i.size = size) (hby : i.bytes = bytes) (hzs : z.cells.size = size) (hsz : 0 < size)
  (v : Value) (n : Nat) (xs : List Value) (hs : a.eval s = v) (hown : w.ownsRow base e size v n xs)
  (lo hi' : Nat) (A : Option Addr) (m c : Nat) (news : List Value) (hx : a.eval x = .slice A m c) (hr : Raw w lo hi' A (m * size) news) (h1 : ∀ u ∈ news, u.oneCell' = true)
  (h63 : n + m ≤ maxLen) (hbytes : (n + m) * bytes ≤ 140737488355328) (hbase : base ≤ w.heap.size)
  (h : ∀ A' c' w', w'.ownsRow base e size (.slice A' (n + m) c') (n + m) (xs ++ news) → w.grownBy w' v.ownBlock → ((Value.slice A' (n + m) c').ownBlock = v.ownBlock ∨ (Value.slice A' (n + m) c').ownBlock = some w.heap.size) →
   K (a.put o.dst (.slice A' (n + m) c')) w') : Oper.wp P o a w K Q := by
 obtain ⟨A', c', w', hr, h2, h3, h5⟩ := run_append_raw (P := P) w base t o.type e i z size bytes ht hi hz hsize hby hzs hsz v n xs hown lo hi' A m c news hr h1 h63 hbytes hbase
 unfold Oper.wp execOp
 simp only [ho, resolve, invoke, builtin, Sem.run_bind, Sem.run_pure, Result.andThen_ok, List.map_toArray, List.map_cons, List.map_nil, hs, hx, hr]
 exact h A' c' w' h2 h3 h5
theorem ints_grownL {w w' : World} {lo : Nat} {row : Option Nat} {k : IntKind} {A : Option Addr} {n : Nat} {xs : List Int} (h : Ints w lo w.heap.size k A n xs) (hg : w.grownBy w' row) (hr : ∀ a, A = some a → 0 < n → row ≠ some a.block) : Ints w' lo w'.heap.size k A n xs := by
 refine ⟨h.len, h.wf, h.big, fun h0 => ?_⟩
 obtain ⟨b, off, e, h1, h2, hc⟩ := h.row h0
 have hb := hg.block b h2 (fun k => hr _ e h0 k.symm)
 exact ⟨b, off, e, h1, Nat.lt_of_lt_of_le h2 hg.size, fun j hj => ⟨(World.cell?_of_block hb).trans (hc j hj).1, (World.frozen?_of_block hb).trans (hc j hj).2⟩⟩
theorem prows_grownL {w w' : World} {lo : Nat} {row : Option Nat} {f : Fv} (h : PRows w lo w.heap.size f.P) (hg : w.grownBy w' row) (hr : f.off row) : PRows w' lo w'.heap.size f.P :=
 ⟨⟨ints_grownL h.M.S hg (hr.1 0 (by decide)), ints_grownL h.M.W hg (hr.1 1 (by decide)), ints_grownL h.M.C hg (hr.1 2 (by decide)), ints_grownL h.M.A hg (hr.1 3 (by decide))⟩, ints_grownL h.L hg hr.2⟩
/-- Copies, one by one. -/
def TwinF (fs gs : List Fv) : Prop := gs.length = fs.length ∧ ∀ j (h1 : j < fs.length) (h2 : j < gs.length), gs[j].e = fs[j].e ∧ TwinP fs[j].P gs[j].P
theorem infoF : (Try.prog.info? 68).map (fun i => (i.zero, i.size, i.bytes)) = some (some (.agg #[.int .i64 0, .bool false, .slice none 0 0, .int .i64 0, .bool false, .slice none 0 0, .int .i64 0, .bool false, .slice none 0 0, .int .i64 0, .bool false, .slice none 0 0, .int .i64 0, .bool false, .int .i64 0, .int .i64 0, .slice none 0 0]), 17, 216) := by kernel_rfl
set_option maxHeartbeats 51200000 in
set_option maxRecDepth 100000 in
/-- headcountref20.Twin. -/
theorem RTwinF_any (w : World) (A : Option Addr) (n c : Nat) (fs : List Fv) (hL : LFs w 0 w.heap.size A n fs) (hn : n ≤ 1028) (hs : ∀ j (h : j < fs.length), (∀ x, x < 4 → (fs[j].P.M.get x).n ≤ 1000000) ∧ fs[j].P.n ≤ 1000000) :
  Calls Try.prog 14 #[.slice A n c] w fun e w' => ∃ (A' : Option Addr) (c' : Nat) (gs : List Fv), e = .returned (.slice A' n c') ∧ TwinF fs gs ∧ Below w.heap.size w w' ∧ OwnF w' w.heap.size (.slice A' n c') n gs ∧ ∀ g ∈ gs, PRows w' w.heap.size w'.heap.size g.P := by
 have HL := Lib.hid hL.len
 have NN := Lib.hid hs
 clear hs
 obtain ⟨i0, hi0, hz0, hz1, hz2⟩ := info_parts infoF
 go_enter Try.func14, Try.ntmps14
 go_wp2
 go_loopw [3, 4] (fun ov iv wr => ∃ (i : Nat) (os : List Fv), iv = .int .i64 i ∧ i ≤ n ∧ OwnF wr w.heap.size ov i os ∧ Below w.heap.size w wr ∧ (∀ g ∈ os, PRows wr w.heap.size wr.heap.size g.P) ∧ Hid (∀ j (h1 : j < fs.length) (h2 : j < os.length), os[j].e = fs[j].e ∧ TwinP fs[j].P os[j].P)) (fun _ iv _ => n - (intOf iv).toNat)
 case atStart => exact ⟨0, [], rfl, Nat.zero_le _, OwnF.nil_ _ _, Below.refl _ _, fun _ h => absurd h (by simp), Lib.hid fun j _ h => absurd h (Nat.not_lt_zero _)⟩
 case round =>
  obtain ⟨i, os, rfl, hi1, hO, hb, hfr, htw⟩ := hrel
  have lw := hb.size
  obtain ⟨Ao, co, rfl, hcap, hcm⟩ := hO.shape
  by_cases hi : i < n
  rotate_left
  · obtain rfl : i = n := by omega
    have ht : TwinF fs os := ⟨hO.len.trans HL.out.symm, htw.out⟩
    go_wp2
    go_ret
    exact ⟨Ao, co, os, rfl, ht, hb, hO, hfr⟩
  · have hi2 : i < fs.length := by rw [HL.out]; exact hi
    obtain ⟨b, off, hA, hb1, hb2, hc⟩ := (hL.below hb (Nat.le_refl _)).row (by omega)
    have hci := Lib.hid (hc i hi2)
    have hri := (hL.below hb (Nat.le_refl _)).rows i hi2
    have hsz := Lib.hid (NN.out i hi2)
    obtain ⟨f, hf⟩ : ∃ f, fs[i] = f := ⟨_, rfl⟩
    rw [hf] at hci hri hsz
    have HF := Lib.hid hf
    have hwrj : IntKind.i64.wrap ((i : Int) + 1) = ((i + 1 : Nat) : Int) := by rw [IntKind.wrap_i64]; omega
    clear hc hf
    subst hA
    have hOlt : ∀ k, (Value.slice Ao i co).ownBlock = some k → w.heap.size ≤ k ∧ k < wr.heap.size := fun k hk => hO.own.lt k hk
    go_wp2_with fail
    refine region_E (fun W' : World => W'.heap[b]? = wr.heap[b]?) [] (m := 16) (L := #[zF,zF,zF,zF,zF,zF,zF,zF,zF,zF,zF,zF,zF,zF,zF,zF]) (by kernel_rfl) (by rfl) (by rfl) ?_
    have kp0 : wr.drew.heap[b]? = wr.heap[b]? := rfl
    have j0 : Below wr.heap.size wr wr.drew := (Below.refl _ _).drew
    have hbw : b < wr.heap.size := by omega
    generalize wr.drew = v0 at *
    have s0 := j0.size
    refine zE 0 #[zT,zF,zF,zF,zF,zF,zF,zF,zF,zF,zF,zF,zF,zF,zF,zF] ?_ rfl ?hy1 ?rest1
    case hy1 => intro w; go_simp; (try with_reducible rfl)
    try simp only [Act.put, zp]
    refine zE 1 #[zT,zT,zF,zF,zF,zF,zF,zF,zF,zF,zF,zF,zF,zF,zF,zF] ?_ rfl ?hy2 ?rest2
    case hy2 => intro w; go_simp; (try with_reducible rfl)
    try simp only [Act.put, zp]
    refine zE 2 #[zT,zT,zT,zF,zF,zF,zF,zF,zF,zF,zF,zF,zF,zF,zF,zF] ?_ rfl ?hy3 ?rest3
    case hy3 => intro w; go_simp; (try with_reducible rfl)
    try simp only [Act.put, zp]
    refine zE 3 #[zT,zT,zT,zT,zF,zF,zF,zF,zF,zF,zF,zF,zF,zF,zF,zF] ?_ rfl ?hy4 ?rest4
    case hy4 => intro w; go_simp; (try with_reducible rfl)
    try simp only [Act.put, zp]
    refine zE 4 #[zT,zT,zT,zT,zT,zF,zF,zF,zF,zF,zF,zF,zF,zF,zF,zF] ?_ rfl ?hy5 ?rest5
    case hy5 => intro w; go_simp; (try with_reducible rfl)
    try simp only [Act.put, zp]
    refine readE (i := 5) (L := #[zT,zT,zT,zT,zT,zT,zF,zF,zF,zF,zF,zF,zF,zF,zF,zF]) (v := .int .i64 f.e) rfl (by rfl) (by kernel_rfl) (by kernel_rfl) (by kernel_rfl) (fun _ _ _ h => h) (by assumption) (by rfl) ?ya ?za
    case ya =>
     intro w' h1
     have k_ := (hci.out.blk h1).1
     go_simp
    try simp only [Act.put, zp]
    refine zE 6 #[zT,zT,zT,zT,zT,zT,zT,zF,zF,zF,zF,zF,zF,zF,zF,zF] ?_ rfl ?hy7 ?rest7
    case hy7 => intro w; go_simp; (try with_reducible rfl)
    try simp only [Act.put, zp]
    refine zE 7 #[zT,zT,zT,zT,zT,zT,zT,zT,zF,zF,zF,zF,zF,zF,zF,zF] ?_ rfl ?hy8 ?rest8
    case hy8 => intro w; go_simp; (try with_reducible rfl)
    try simp only [Act.put, zp]
    refine zE 8 #[zT,zT,zT,zT,zT,zT,zT,zT,zT,zF,zF,zF,zF,zF,zF,zF] ?_ rfl ?hy9 ?rest9
    case hy9 => intro w; go_simp; (try with_reducible rfl)
    try simp only [Act.put, zp]
    refine zE 9 #[zT,zT,zT,zT,zT,zT,zT,zT,zT,zT,zF,zF,zF,zF,zF,zF] ?_ rfl ?hy10 ?rest10
    case hy10 => intro w; go_simp; (try with_reducible rfl)
    try simp only [Act.put, zp]
    refine readE (i := 10) (L := #[zT,zT,zT,zT,zT,zT,zT,zT,zT,zT,zT,zF,zF,zF,zF,zF]) (v := .agg #[.bool f.P.M.S.s, .slice f.P.M.S.A f.P.M.S.n f.P.M.S.c, .int .i64 f.P.M.S.e, .bool f.P.M.W.s, .slice f.P.M.W.A f.P.M.W.n f.P.M.W.c, .int .i64 f.P.M.W.e, .bool f.P.M.C.s, .slice f.P.M.C.A f.P.M.C.n f.P.M.C.c, .int .i64 f.P.M.C.e, .bool f.P.M.A.s, .slice f.P.M.A.A f.P.M.A.n f.P.M.A.c, .int .i64 f.P.M.A.e, .bool f.P.h, .int .i64 f.P.mn, .int .i64 f.P.mx, .slice f.P.A f.P.n f.P.c]) rfl (by rfl) (by kernel_rfl) (by kernel_rfl) (by kernel_rfl) (fun _ _ _ h => h) (by assumption) (by rfl) ?yb ?zb
    case yb =>
     intro w' h1
     obtain ⟨k_, k0, k1, k2, k3, k4, k5, k6, k7, k8, k9, k10, k11, k12, k13, k14, k15⟩ := hci.out.blk h1
     go_simp
    try simp only [Act.put, zp]
    refine stepK (i := 11) (L := #[zT,zT,zT,zT,zT,zT,zT,zT,zT,zT,zT,zT,zF,zF,zF,zF]) rfl (by rfl) (by kernel_rfl) (by rfl) (fun K hK => ?_)
    go_simp
    go_at_call 15
    refine (RTwinPart_any v0 f.P ((hri.more (Nat.le_refl _) lw).on j0) hsz.out.1 hsz.out.2).mono ?_
    rintro e' v1 ⟨q, rfl, tw, j1, Rq⟩
    have kp1 := (j1.block b (by omega)).trans kp0
    refine hK _ _ ⟨fun _ _ => kp1, ?_⟩
    clear hK K
    try simp only [Act.put, zp]
    have s1 := j1.size
    refine zE 12 #[zT,zT,zT,zT,zT,zT,zT,zT,zT,zT,zT,zT,zT,zF,zF,zF] ?_ rfl ?hy13 ?rest13
    case hy13 => intro w; go_simp; (try with_reducible rfl)
    try simp only [Act.put, zp]
    obtain ⟨v2, hv2⟩ : ∃ U, v1.alloc (.cells #[.int .i64 f.e, .bool q.M.S.s, .slice q.M.S.A q.M.S.n q.M.S.c, .int .i64 q.M.S.e, .bool q.M.W.s, .slice q.M.W.A q.M.W.n q.M.W.c, .int .i64 q.M.W.e, .bool q.M.C.s, .slice q.M.C.A q.M.C.n q.M.C.c, .int .i64 q.M.C.e, .bool q.M.A.s, .slice q.M.A.A q.M.A.n q.M.A.c, .int .i64 q.M.A.e, .bool q.h, .int .i64 q.mn, .int .i64 q.mx, .slice q.A q.n q.c] 68) = U := ⟨_, rfl⟩
    have j2 : Below v1.heap.size v1 v2 := by rw [← hv2]; exact (Below.refl _ _).alloc (Nat.le_refl _) _
    have s2 : v1.heap.size < v2.heap.size := by rw [← hv2]; simp
    have hraw := raw_oneF v1 (⟨f.e, q⟩ : Fv) hv2
    have kp2 := (j2.block b (by omega)).trans kp1
    refine stepK (i := 13) (L := #[zT,zT,zT,zT,zT,zT,zT,zT,zT,zT,zT,zT,zT,zT,zF,zF]) rfl (by rfl) (by kernel_rfl) (by rfl) (fun K hK => ?_)
    go_simp
    try rw [hv2]
    refine hK _ _ ⟨fun _ _ => kp2, ?_⟩
    clear hK K
    try clear hv2
    try simp only [Act.put, zp]
    have hO2 := ((hO.on j0).on j1).on j2
    have hb2' := ((hb.trans (j0.mono lw)).trans (j1.mono (by omega))).trans (j2.mono (by omega))
    have Rd : PRows v2 w.heap.size v2.heap.size q := (Rq.below j2 (Nat.le_refl _)).more (by omega) (by omega)
    have hoffd : Fv.off ⟨f.e, q⟩ (Value.slice Ao i co).ownBlock := prows_off (f := ⟨f.e, q⟩) Rq fun k hk => .inl (by have := hOlt k hk; omega)
    refine stepK (i := 14) (L := #[zT,zT,zT,zT,zT,zT,zT,zT,zT,zT,zT,zT,zT,zT,zT,zF]) rfl (by rfl) (by kernel_rfl) (by rfl) (fun K hK => ?_)
    refine wp_append_rawC (.tmp 11) (.tmp 24) 22 rfl w.heap.size 68 i0 _ 17 216 Try.underlying22 hi0 hz0 hz1 hz2 rfl (by decide) _ _ _ rfl hO2.own _ _ _ 1 1 (cells17 ⟨f.e, q⟩) rfl hraw (cells17_one _) (by unfold maxLen; omega) (by omega) (by omega) ?_
    intro A3 c3 v3 hown hg hob
    have kp3 := (hg.block b (by omega) (fun e => by have := hOlt b e.symm; omega)).trans kp2
    refine hK _ _ ⟨fun _ _ => kp3, ?_⟩
    clear hK K
    try simp only [Act.put, zp]
    have hO3 := hO2.push (d := ⟨f.e, q⟩) (Rd.more (Nat.zero_le _) (Nat.le_refl _)) hoffd hown hg hob
    have hb3 : Below w.heap.size w v3 := hb2'.grown hg (by omega) (fun k hk => (hOlt k hk).1)
    have hfr2 : ∀ g ∈ os ++ [(⟨f.e, q⟩ : Fv)], PRows v3 w.heap.size v3.heap.size g.P := fun g hg' => by
     rcases List.mem_append.1 hg' with h | h
     · exact prows_grownL ((((hfr g h).below (j0) (Nat.le_refl _)).below (j1.mono s0) (by omega) |>.below (j2.mono (by omega : wr.heap.size ≤ v1.heap.size)) (Nat.le_refl _)).more (Nat.le_refl _) (by omega)) hg (hO.off g h)
     · obtain rfl : g = ⟨f.e, q⟩ := by simpa using h
       exact prows_grownL (f := ⟨f.e, q⟩) Rd hg hoffd
    have htw2 : Hid (∀ j (h1 : j < fs.length) (h2 : j < (os ++ [(⟨f.e, q⟩ : Fv)]).length), (os ++ [(⟨f.e, q⟩ : Fv)])[j].e = fs[j].e ∧ TwinP fs[j].P (os ++ [(⟨f.e, q⟩ : Fv)])[j].P) := Lib.hid fun j h1 h2 => by
     by_cases e : j < os.length
     · rw [List.getElem_append_left e]
       exact htw.out j h1 e
     · have hl := hO.len
       have hj : j = i := by simp at h2; omega
       subst hj
       rw [List.getElem_append_right (by omega)]
       simp only [hl, Nat.sub_self, List.getElem_cons_zero]
       rw [HF.out]
       exact ⟨rfl, tw⟩
    refine zE 15 #[zT,zT,zT,zT,zT,zT,zT,zT,zT,zT,zT,zT,zT,zT,zT,zT] ?_ rfl ?hy16 ?rest16
    case hy16 => intro w; go_simp; (try with_reducible rfl)
    try simp only [Act.put, zp]
    refine doneE (by kernel_rfl) ?_ _
    clear hown hg hob hraw hO2 hO hfr htw Rd Rq
    go_wp2
    go_roundw
    case rel => exact ⟨i + 1, _, by first | rfl | (congr 1; omega) | go_num, by omega, hO3, hb3, hfr2, htw2⟩
    case measure => first | (simp [intOf]; done) | (simp [intOf]; omega)
end Ma
end Go.Proofs.Ytbbnbgllgomolaa
namespace Go.Proofs.Ytbbnbgllgomolaa
open Go.RowKit
namespace Ma
open Dp Dy
/-- What may be appended: its cells are read. -/
structure Cells (w : World) (A : Option Addr) (m : Nat) (cs : List Value) : Prop where
 len : cs.length = m
 nil_ : A = none → m = 0
 at_ : ∀ ad, A = some ad → ∀ j u, cs[j]? = some u → w.cell? (ad.add j) = some u
theorem Cells.on {w w' : World} {A : Option Addr} {m : Nat} {cs : List Value} (h : Cells w A m cs) (hk : ∀ p u, w.cell? p = some u → w'.cell? p = some u) : Cells w' A m cs := ⟨h.len, h.nil_, fun ad e j u hu => hk _ _ (h.at_ ad e j u hu)⟩
theorem flatF_one' : ∀ (l : List Fv), ∀ u ∈ flatF l, u.oneCell' = true
 | [], u, h => absurd h (by simp [flatF])
 | f :: l, u, h => by
  rcases List.mem_append.1 h with h | h
  · exact cells17_one f u h
  · exact flatF_one' l u h
theorem fcells_at {w : World} {b o : Nat} {f : Fv} (h : FCells w b o f) : ∀ k, k < 17 → w.cell? ⟨b, o + k, none⟩ = (cells17 f)[k]? := fun k hk => by
 have h1 := h.range
 obtain ⟨v, hv⟩ : ∃ v, (cells17 f)[k]? = some v := ⟨_, List.getElem?_eq_getElem (by simpa [cells17] using hk)⟩
 rw [hv]
 exact h1 k v hv
theorem LFs.cells {w : World} {lo hi : Nat} {A : Option Addr} {n : Nat} {fs : List Fv} (h : LFs w lo hi A n fs) : Cells w A (n * 17) (flatF fs) := by
 refine ⟨by rw [flatF_len, h.len], fun e => ?_, fun ad e j u hu => ?_⟩
 · rcases Nat.eq_zero_or_pos n with h0 | h0
   · rw [h0]
   · obtain ⟨b, off, e', _⟩ := h.row h0
     rw [e] at e'
     cases e'
 · have hj : j < n * 17 := by
     have h1 := flatF_len fs
     rw [h.len] at h1
     rcases Nat.lt_or_ge j (flatF fs).length with h' | h'
     · omega
     · rw [List.getElem?_eq_none h'] at hu
       cases hu
   obtain ⟨b, off, e', _, _, hc⟩ := h.row (by omega)
   rw [e] at e'
   injection e' with e'
   subst e'
   have hadd : (⟨b, off, none⟩ : Addr).add j = ⟨b, off + j, none⟩ := by unfold Addr.add; split <;> simp_all
   have hq : j / 17 < fs.length := by have := h.len; omega
   have hr : j % 17 < 17 := Nat.mod_lt _ (by decide)
   have hjj : j = j / 17 * 17 + j % 17 := by omega
   have h1 := fcells_at (hc (j / 17) hq) (j % 17) hr
   have h2 := flatF_get fs (j / 17) (j % 17) hq hr
   rw [hadd]
   have e1 : off + j = off + j / 17 * 17 + j % 17 := by omega
   rw [e1, h1, ← h2, ← hjj]
   exact hu
section
variable {P : Program} (w : World)
theorem run_append_cells (base : Nat) (t ty e : TypeId) (i : TypeInfo) (z : Value) (size bytes : Nat) (ht : P.underlying t = some (.slice e)) (hi : P.info? e = some i) (hz : i.zero = some z)
  (hsize : i.size = size) (hby : i.bytes = bytes) (hzs : z.cells.size = size) (hsz : 0 < size)
  (v : Value) (n : Nat) (xs : List Value) (hown : w.ownsRow base e size v n xs)
  (A : Option Addr) (m c : Nat) (news : List Value) (hr : Cells w A (m * size) news) (h1 : ∀ u ∈ news, u.oneCell' = true)
  (h63 : n + m ≤ maxLen) (hbytes : (n + m) * bytes ≤ 140737488355328) (hbase : base ≤ w.heap.size) :
  ∃ A' c' w', (Builtin.append_ #[t, t] ty #[v, .slice A m c]).run P w = .ok (.slice A' (n + m) c') w' ∧ w'.ownsRow base e size (.slice A' (n + m) c') (n + m) (xs ++ news) ∧ w.grownBy w' v.ownBlock ∧
   ((Value.slice A' (n + m) c').ownBlock = v.ownBlock ∨ (Value.slice A' (n + m) c').ownBlock = some w.heap.size) := by
 rcases A with _ | ad
 · have hm : m = 0 := by
     rcases Nat.mul_eq_zero.1 (hr.nil_ rfl) with h0 | h0 <;> omega
   subst hm
   have hn : news = [] := List.eq_nil_of_length_eq_zero (by simpa using hr.len)
   subst hn
   have hrun := run_append_of_nil (P := P) w base t ty e i size ht hi v n xs hown c
   obtain ⟨A', c', rfl, _⟩ := own_shape hown
   exact ⟨A', c', w, hrun, by simpa using hown, World.grownBy.refl w _, .inl rfl⟩
 · obtain ⟨v', w', hrun, h2, h3, _, h5⟩ := run_append_own_at (P := P) w base t ty e i z size bytes ht hi hz hsize hby hzs hsz v n xs hown ad m c news hr.len (hr.at_ ad rfl) h1 h63 hbytes hbase
   obtain ⟨A', c', rfl, _⟩ := own_shape h2
   exact ⟨A', c', w', hrun, h2, h3, h5⟩
variable {w}
/-- The same, as an operation of a walk. -/
theorem wpList_append_cells {ops : Array Oper} {rest : List Oper} {o : Oper} {a : Act} {Q : Exit → Act → World → Prop} (hgd : o.guard = none) (s x : Operand) (t : TypeId)
  (ho : o.op = .call { callee := .builtin .append, args := #[s, x], argTypes := #[t, t] })
  (base : Nat) (e : TypeId) (i : TypeInfo) (z : Value) (size bytes : Nat) (ht : P.underlying t = some (.slice e)) (hi : P.info? e = some i) (hz : i.zero = some z)
  (hsize : i.size = size) (hby : i.bytes = bytes) (hzs : z.cells.size = size) (hsz : 0 < size)
  (v : Value) (n : Nat) (xs : List Value) (hs : a.eval s = v) (hown : w.ownsRow base e size v n xs)
  (A : Option Addr) (m c : Nat) (news : List Value) (hx : a.eval x = .slice A m c) (hr : Cells w A (m * size) news) (h1 : ∀ u ∈ news, u.oneCell' = true)
  (h63 : n + m ≤ maxLen) (hbytes : (n + m) * bytes ≤ 140737488355328) (hbase : base ≤ w.heap.size)
  (h : ∀ A' c' w', w'.ownsRow base e size (.slice A' (n + m) c') (n + m) (xs ++ news) → w.grownBy w' v.ownBlock → ((Value.slice A' (n + m) c').ownBlock = v.ownBlock ∨ (Value.slice A' (n + m) c').ownBlock = some w.heap.size) →
   wpList P ops Q rest (a.put o.dst (.slice A' (n + m) c')) w') :
  wpList P ops Q (o :: rest) a w := by
 refine wpList_plain hgd fun K hK => ?_
 obtain ⟨A', c', w', hr, h2, h3, h5⟩ := run_append_cells (P := P) w base t o.type e i z size bytes ht hi hz hsize hby hzs hsz v n xs hown A m c news hr h1 h63 hbytes hbase
 unfold Oper.wp execOp
 simp only [ho, resolve, invoke, builtin, Sem.run_bind, Sem.run_pure, Result.andThen_ok, List.map_toArray, List.map_cons, List.map_nil, hs, hx, hr]
 exact hK _ _ (h A' c' w' h2 h3 h5)
end
/-- A whole list has been appended onto an empty own one. -/
theorem ownF_all {w w2 : World} {A A3 : Option Addr} {n c3 : Nat} {fs : List Fv} (hL : LFs w 0 w.heap.size A n fs) (hb : Below w.heap.size w w2) (hown : w2.ownsRow w.heap.size 68 17 (.slice A3 n c3) n (flatF fs)) : OwnF w2 w.heap.size (.slice A3 n c3) n fs := by
 have hr : ∀ f ∈ fs, PRows w2 0 w.heap.size f.P := fun f hf => by
  obtain ⟨j, hj, rfl⟩ := List.mem_iff_getElem.1 hf
  exact (hL.rows j hj).below hb (Nat.le_refl _)
 exact ⟨hown, hL.len, fun f hf => (hr f hf).more (Nat.le_refl _) hb.size, fun f hf => prows_off (hr f hf) fun k hk => .inr (hown.lt k hk).1⟩
set_option maxHeartbeats 12800000 in
set_option maxRecDepth 100000 in
/-- slices.Clone. -/
theorem CloneF_any (w : World) (A : Option Addr) (n c : Nat) (fs : List Fv) (hL : LFs w 0 w.heap.size A n fs) (hn : n ≤ 1028) :
  Calls Try.prog 55 #[.slice A n c] w fun e w' => ∃ (A' : Option Addr) (c' : Nat), e = .returned (.slice A' n c') ∧ Below w.heap.size w w' ∧ OwnF w' w.heap.size (.slice A' n c') n fs := by
 obtain ⟨i0, hi0, hz0, hz1, hz2⟩ := info_parts infoF
 rcases A with _ | ad
 · have hn0 : n = 0 := by
     rcases Nat.eq_zero_or_pos n with h0 | h0
     · exact h0
     · obtain ⟨b, off, e, _⟩ := hL.row h0
       cases e
   subst hn0
   have hf0 : fs = [] := List.length_eq_zero_iff.1 hL.len
   subst hf0
   have hnil := Lib.run_eql_slice_nil (P := Try.prog) w 22 68 none 0 c 0 0 Try.underlying22
   go_enter Try.func55, Try.ntmps55
   go_wp2
   go_ret
   exact ⟨none, 0, rfl, Below.refl _ _, OwnF.nil_ _ _⟩
 · have hCl := (hL.below ((Below.refl w.heap.size w).alloc (Nat.le_refl _) (.cells #[] 68)) (Nat.le_refl _)).cells
   have hnil := Lib.run_eql_slice_nil (P := Try.prog) w 22 68 (some ad) n c 0 0 Try.underlying22
   go_enter Try.func55, Try.ntmps55
   go_wp2_with (first
    | (at_builtin; go_loud (refine wpList_append_cells rfl (.tmp 5) (.tmp 6) 22 rfl w.heap.size 68 i0 _ 17 216 Try.underlying22 hi0 hz0 hz1 hz2 rfl (by decide) _ 0 [] rfl (Pa.own_emptyg w _ w.heap.size _ 17 rfl (Nat.le_refl _)) _ n c (flatF fs) rfl hCl (flatF_one' _) ?c2 ?c3 ?c4 ?_)))
   case c2 => unfold maxLen; omega
   case c3 => omega
   case c4 => simp
   intro A3 c3 w2 hown hg3 _
   have hb2 : Below w.heap.size w w2 := ((Below.refl w.heap.size w).alloc (Nat.le_refl _) _).grown hg3 (by simp) (fun q hq => by simp [Value.ownBlock] at hq; omega)
   try simp only [Nat.zero_add, List.nil_append] at hown
   have hO := ownF_all hL hb2 hown
   clear hCl hown hg3
   go_wp2
   go_ret
   exact ⟨A3, c3, rfl, hb2, hO⟩
end Ma
end Go.Proofs.Ytbbnbgllgomolaa
namespace Go.Proofs.Ytbbnbgllgomolaa
open Go.RowKit
namespace Ma
open Dp Dy
def setL : List Value → Nat → List Value → List Value
 | xs, _, [] => xs
 | xs, j, v :: r => setL (xs.set j v) (j + 1) r
theorem setL_app (l : List Value) : ∀ (vs xs : List Value) (o : Nat), setL (l ++ xs) (l.length + o) vs = l ++ setL xs o vs
 | [], _, _ => rfl
 | v :: r, xs, o => by
  show setL ((l ++ xs).set (l.length + o) v) (l.length + o + 1) r = l ++ setL (xs.set o v) (o + 1) r
  rw [List.set_append_right _ _ (Nat.le_add_right _ _), Nat.add_sub_cancel_left, Nat.add_assoc, setL_app l r]
theorem own_setCells {base : Nat} {e : TypeId} {size g n cap : Nat} : ∀ (vs : List Value) (j : Nat) (w : World) (xs : List Value), w.ownsRow base e size (.slice (some ⟨g, 0, none⟩) n cap) n xs → (w.setCells g j vs).ownsRow base e size (.slice (some ⟨g, 0, none⟩) n cap) n (setL xs j vs)
 | [], _, _, _, h => h
 | v :: r, j, _w, _xs, h => own_setCells r (j + 1) _ _ (World.ownsRow.stored h j v).1
theorem below_setCells {B g : Nat} {w0 : World} (hg : B ≤ g) : ∀ (vs : List Value) (j : Nat) (w : World), Below B w0 w → Below B w0 (w.setCells g j vs)
 | [], _, _, h => h
 | v :: r, j, _w, h => below_setCells hg r (j + 1) _ (h.setCell hg v)
theorem other_setCells {g k : Nat} (hk : k ≠ g) : ∀ (vs : List Value) (j : Nat) (w : World), (w.setCells g j vs).heap[k]? = w.heap[k]?
 | [], _, _ => rfl
 | _v :: r, j, _w => (other_setCells hk r (j + 1) _).trans (Below.heap_setCell _ _ _ _ hk)
theorem size_setCellsK {g : Nat} : ∀ (vs : List Value) (j : Nat) (w : World), (w.setCells g j vs).heap.size = w.heap.size
 | [], _, _ => rfl
 | v :: r, j, w => (size_setCellsK r (j + 1) _).trans (by simp [World.setCell])
def cells16 (p : Pv) : List Value := [.bool p.M.S.s, .slice p.M.S.A p.M.S.n p.M.S.c, .int .i64 p.M.S.e, .bool p.M.W.s, .slice p.M.W.A p.M.W.n p.M.W.c, .int .i64 p.M.W.e, .bool p.M.C.s, .slice p.M.C.A p.M.C.n p.M.C.c, .int .i64 p.M.C.e, .bool p.M.A.s, .slice p.M.A.A p.M.A.n p.M.A.c, .int .i64 p.M.A.e, .bool p.h, .int .i64 p.mn, .int .i64 p.mx, .slice p.A p.n p.c]
theorem setL_head (a : Fv) (q : Pv) (t : List Value) : setL (cells17 a ++ t) 1 (cells16 q) = cells17 ⟨a.e, q⟩ ++ t := by
 simp [setL, cells17, cells16]
theorem flatF_part : ∀ (l : List Fv) (i : Nat) (q : Pv) (h : i < l.length), flatF (l.set i ⟨l[i].e, q⟩) = setL (flatF l) (i * 17 + 1) (cells16 q)
 | [], _, _, h => absurd h (Nat.not_lt_zero _)
 | a :: l, 0, q, _ => (setL_head a q (flatF l)).symm
 | a :: l, i + 1, q, h => by
  have hi : i < l.length := by simpa using h
  have ih := flatF_part l i q hi
  have e : (i + 1) * 17 + 1 = (cells17 a).length + (i * 17 + 1) := by simp [cells17]; omega
  show cells17 a ++ flatF (l.set i ⟨l[i].e, q⟩) = setL (cells17 a ++ flatF l) ((i + 1) * 17 + 1) (cells16 q)
  rw [e, setL_app, ih]
theorem OwnF.put {w : World} {base g n c : Nat} {fs : List Fv} (h : OwnF w base (.slice (some ⟨g, 0, none⟩) n c) n fs) {i : Nat} (hi : i < fs.length) (q : Pv) (hq : PRows w 0 w.heap.size q) (ho : ∀ e, Fv.off ⟨e, q⟩ (some g)) :
  OwnF (w.setCells g (i * 17 + 1) (cells16 q)) base (.slice (some ⟨g, 0, none⟩) n c) n (fs.set i ⟨fs[i].e, q⟩) := by
 have hk : ∀ {f : Fv}, PRows w 0 w.heap.size f.P → f.off (some g) → PRows (w.setCells g (i * 17 + 1) (cells16 q)) 0 (w.setCells g (i * 17 + 1) (cells16 q)).heap.size f.P := fun hr hf =>
  prows_grown hr ⟨(below_setCells (Nat.zero_le _) _ _ _ (Below.refl 0 w)).os, (below_setCells (Nat.zero_le _) _ _ _ (Below.refl 0 w)).tape, (below_setCells (Nat.zero_le _) _ _ _ (Below.refl 0 w)).output, Nat.le_of_eq (size_setCellsK _ _ _).symm, fun k _ hk => other_setCells (fun e => hk (by rw [e])) _ _ _⟩ hf
 refine ⟨by rw [flatF_part _ _ _ hi]; exact own_setCells _ _ _ _ h.own, by simp [h.len], fun f hf => ?_, fun f hf => ?_⟩
 · rcases List.mem_or_eq_of_mem_set hf with hf | rfl
   · exact hk (h.rows f hf) (h.off f hf)
   · exact hk (f := ⟨fs[i].e, q⟩) hq (ho _)
 · rcases List.mem_or_eq_of_mem_set hf with hf | rfl
   · exact h.off f hf
   · exact ho _
theorem OwnF.addr {w : World} {base n c : Nat} {A : Option Addr} {fs : List Fv} (h : OwnF w base (.slice A n c) n fs) (hn : 0 < n) : ∃ g, A = some ⟨g, 0, none⟩ ∧ base ≤ g ∧ g < w.heap.size := by
 rcases h.own.2 with ⟨_, e0⟩ | ⟨g, cap, cur, e, hb, hg, _⟩
 · omega
 · injection e with e1 e2 e3
   exact ⟨g, e1, hb, (Array.getElem?_eq_some_iff.1 hg).1⟩
end Ma
end Go.Proofs.Ytbbnbgllgomolaa
namespace Go.Proofs.Ytbbnbgllgomolaa
open Go.RowKit
namespace Pa
set_option maxHeartbeats 1600000 in
theorem Clone_anyQ (w : World) (lo hi : Nat) (A : Option Addr) (n c : Nat) (xs : List Int) (hX : Ints w lo hi .u32 A n xs) (hhi : hi ≤ w.heap.size) (hn : n ≤ 1000000) :
  Calls Try.prog 57 #[.slice A n c] w fun e w' => ∃ A' c', e = .returned (.slice A' n c') ∧ n ≤ c' ∧ Below w.heap.size w w' ∧ w'.ownsRow w.heap.size 70 1 (.slice A' n c') n (xs.map (Value.int .u32)) := by
 obtain ⟨i0, hi0, hz0, hz1, hz2⟩ := info_parts infoU32
 have HL := Lib.hid hX.len
 have hbig := hX.big
 rcases A with _ | a
 · by_cases hn : n = 0
   · subst hn
     have := hX.zero rfl
     subst this
     have hnil := Lib.run_eql_slice_nil (P := Try.prog) w 23 70 none 0 c 0 0 Try.underlying23
     go_enter Try.func57, Try.ntmps57
     go_wp2
     go_ret
     exact ⟨none, 0, rfl, Nat.le_refl _, Below.refl _ _, World.ownsRow_nil _ _ _ _⟩
   · obtain ⟨_, _, e, _⟩ := hX.row (by omega)
     cases e
 · have hnil := Lib.run_eql_slice_nil (P := Try.prog) w 23 70 (some a) n c 0 0 Try.underlying23
   go_enter Try.func57, Try.ntmps57
   go_wp2_with (first
    | (at_builtin; refine wpList_append_raw _ rfl (.tmp 5) (.tmp 6) 23 rfl w.heap.size 70 i0 _ 1 4 Try.underlying23 hi0 hz0 hz1 hz2 rfl (by decide) _ _ _ rfl (own_empty w w.heap.size _ 1 (Nat.le_refl _)) _ _ _ n _ _ rfl (hX.alloc hhi _).raw ?c1 ?c2 ?c3 ?c4 ?_))
   case c1 => exact u32_one _
   case c2 => unfold maxLen; omega
   case c3 => omega
   case c4 => simp
   intro A2 c2 w2 hown2 hgrow2 _
   have hb2 : Below w.heap.size w w2 := ((Below.refl _ w).alloc (Nat.le_refl _) _).grown hgrow2 (by simp) (fun q hq => by simp [Value.ownBlock] at hq; omega)
   have hc2 := own_cap hown2
   clear hgrow2
   go_wp2
   go_ret
   exact ⟨A2, c2, by simp, hc2, hb2, hown2⟩
set_option maxHeartbeats 1600000 in
theorem dyadTwin_anyQ (w : World) (s : Bool) (A : Option Addr) (n c : Nat) (xs : List Int) (e : Int) (hX : Ints w 0 w.heap.size .u32 A n xs) (hn : n ≤ 1000000) :
  Calls Try.prog 95 #[.agg #[.bool s, .slice A n c, .int .i64 e]] w fun r w' => ∃ A' c', r = .returned (.agg #[.bool s, .slice A' n c', .int .i64 e]) ∧ n ≤ c' ∧ Below w.heap.size w w' ∧ w.heap.size < w'.heap.size ∧ Ints w' (w.heap.size + 2) w'.heap.size .u32 A' n xs := by
 have hxw := Lib.hid hX.wf
 have hbig := hX.big
 have hX2 := (hX.alloc (Nat.le_refl _) (.cells #[.bool s, .slice A n c, .int .i64 e] 25)).alloc (by simp) (.cells #[.bool false, .slice none 0 0, .int .i64 0] 25)
 go_enter Try.func95, Try.ntmps95
 go_wp2_with fail
 refine (Clone_anyQ _ _ _ A n c xs hX2 (by simp; omega) hn).mono ?_
 rintro e w1 ⟨A2, c2, rfl, hc2, hb1, hown1⟩
 (try simp at hown1)
 have hD := Ints.of_own hown1 hxw.out hbig
 have hs1 := hb1.size
 simp at hs1
 have G1 := heapKeep hb1 (by simp; omega) (heapAll (.cells #[.bool false, .slice none 0 0, .int .i64 0] 25) (heap_newP w (.cells #[.bool s, .slice A n c, .int .i64 e] 25) _ rfl))
 have G2 := heapKeep hb1 (by simp) (heap_newP (w.alloc (.cells #[.bool s, .slice A n c, .int .i64 e] 25)) (.cells #[.bool false, .slice none 0 0, .int .i64 0] 25) (w.heap.size + 1) (by simp))
 obtain ⟨⟨k1, k2, k3⟩, k4, k5, k6⟩ := boxP3 G1
 obtain ⟨⟨p1, p2, p3⟩, p4, p5, p6⟩ := boxP3 G2
 have hbb := (((Below.refl w.heap.size w).alloc (Nat.le_refl _) (.cells #[.bool s, .slice A n c, .int .i64 e] 25)).alloc (by simp) (.cells #[.bool false, .slice none 0 0, .int .i64 0] 25)).trans (hb1.mono (by simp; omega))
 clear hb1 hown1 G1 G2
 go_wp2
 refine bodyPost_ret (v := .agg #[.bool s, .slice A2 n c2, .int .i64 e]) (by simp [results, Try.results95, go_sem, p1, p2, p3]) rfl ⟨A2, c2, rfl, hc2, ?_, ?_, ?_⟩
 · repeat (refine Below.setCell ?_ (by simp; try omega) _)
   exact hbb
 · simp [World.setCell]
   omega
 · refine Ints.more (lo := w.heap.size + 2) (hi := w1.heap.size) ?_ (Nat.le_refl _) (by simp [World.setCell])
   repeat (refine ints_far ?_ (by simp; try omega) _)
   exact hD
end Pa
namespace Ma
open Dp Dy
attribute [local go_sem] Oper.semAt_some
theorem put_getQ {m : Mv} {x y : Nat} {d : Dv} (hx : x < 4) (hy : y < 4) : (m.put x d).get y = if y = x then d else m.get y := by
 have hx' : x = 0 ∨ x = 1 ∨ x = 2 ∨ x = 3 := by omega
 have hy' : y = 0 ∨ y = 1 ∨ y = 2 ∨ y = 3 := by omega
 rcases hx' with rfl | rfl | rfl | rfl <;> rcases hy' with rfl | rfl | rfl | rfl <;> rfl
theorem keeps_allQ {w : World} {g : Nat} (m : Mv) : KeepsOthers w ((((((((((((w.setCell ⟨g, 0, none⟩ (.bool m.S.s)).setCell ⟨g, 1, none⟩ (.slice m.S.A m.S.n m.S.c)).setCell ⟨g, 2, none⟩ (.int .i64 m.S.e)).setCell ⟨g, 3, none⟩ (.bool m.W.s)).setCell ⟨g, 4, none⟩ (.slice m.W.A m.W.n m.W.c)).setCell ⟨g, 5, none⟩ (.int .i64 m.W.e)).setCell ⟨g, 6, none⟩ (.bool m.C.s)).setCell ⟨g, 7, none⟩ (.slice m.C.A m.C.n m.C.c)).setCell ⟨g, 8, none⟩ (.int .i64 m.C.e)).setCell ⟨g, 9, none⟩ (.bool m.A.s)).setCell ⟨g, 10, none⟩ (.slice m.A.A m.A.n m.A.c)).setCell ⟨g, 11, none⟩ (.int .i64 m.A.e)) :=
 ((((((((((((KeepsOthers.refl _).trans (KeepsOthers.setCell _ _ _)).trans (KeepsOthers.setCell _ _ _)).trans (KeepsOthers.setCell _ _ _)).trans (KeepsOthers.setCell _ _ _)).trans (KeepsOthers.setCell _ _ _)).trans (KeepsOthers.setCell _ _ _)).trans (KeepsOthers.setCell _ _ _)).trans (KeepsOthers.setCell _ _ _)).trans (KeepsOthers.setCell _ _ _)).trans (KeepsOthers.setCell _ _ _)).trans (KeepsOthers.setCell _ _ _)).trans (KeepsOthers.setCell _ _ _)
theorem rows_allQ {w : World} {g lo hi : Nat} {m' : Mv} (h : MRows w lo hi m') (hg : g < lo ∨ hi ≤ g) (m : Mv) : MRows ((((((((((((w.setCell ⟨g, 0, none⟩ (.bool m.S.s)).setCell ⟨g, 1, none⟩ (.slice m.S.A m.S.n m.S.c)).setCell ⟨g, 2, none⟩ (.int .i64 m.S.e)).setCell ⟨g, 3, none⟩ (.bool m.W.s)).setCell ⟨g, 4, none⟩ (.slice m.W.A m.W.n m.W.c)).setCell ⟨g, 5, none⟩ (.int .i64 m.W.e)).setCell ⟨g, 6, none⟩ (.bool m.C.s)).setCell ⟨g, 7, none⟩ (.slice m.C.A m.C.n m.C.c)).setCell ⟨g, 8, none⟩ (.int .i64 m.C.e)).setCell ⟨g, 9, none⟩ (.bool m.A.s)).setCell ⟨g, 10, none⟩ (.slice m.A.A m.A.n m.A.c)).setCell ⟨g, 11, none⟩ (.int .i64 m.A.e)) lo hi m' :=
 ⟨ints_far (ints_far (ints_far (ints_far (ints_far (ints_far (ints_far (ints_far (ints_far (ints_far (ints_far (ints_far (show Ints _ _ _ _ _ _ _ from h.S) hg _) hg _) hg _) hg _) hg _) hg _) hg _) hg _) hg _) hg _) hg _) hg _, ints_far (ints_far (ints_far (ints_far (ints_far (ints_far (ints_far (ints_far (ints_far (ints_far (ints_far (ints_far (show Ints _ _ _ _ _ _ _ from h.W) hg _) hg _) hg _) hg _) hg _) hg _) hg _) hg _) hg _) hg _) hg _) hg _, ints_far (ints_far (ints_far (ints_far (ints_far (ints_far (ints_far (ints_far (ints_far (ints_far (ints_far (ints_far (show Ints _ _ _ _ _ _ _ from h.C) hg _) hg _) hg _) hg _) hg _) hg _) hg _) hg _) hg _) hg _) hg _) hg _, ints_far (ints_far (ints_far (ints_far (ints_far (ints_far (ints_far (ints_far (ints_far (ints_far (ints_far (ints_far (show Ints _ _ _ _ _ _ _ from h.A) hg _) hg _) hg _) hg _) hg _) hg _) hg _) hg _) hg _) hg _) hg _) hg _⟩
theorem ints_ownQ {W W' : World} {row : Option Nat} {lo hi : Nat} {k : IntKind} {A : Option Addr} {n : Nat} {xs : List Int} (h : Ints W lo hi k A n xs) (hg : W.grownBy W' row) (hr : ∀ r, row = some r → (∃ o : Obj, W.heap[r]? = some o ∧ o.isCells = false) ∨ r < lo) : Ints W' lo hi k A n xs :=
 ⟨h.len, h.wf, h.big, fun h0 => by
  obtain ⟨b, off, e, h1, h2, hc⟩ := h.row h0
  have hlt := World.block_lt_of_cell? W _ (hc 0 h0).1
  have h3 : W'.heap[b]? = W.heap[b]? := hg.block b hlt fun e' => by
   rcases hr b e'.symm with ⟨o, h4, h5⟩ | h4
   · have := (hc 0 h0).1
     rw [World.cell?] at this
     simp only [h4] at this
     cases o <;> simp_all [Obj.isCells]
   · omega
  exact ⟨b, off, e, h1, h2, fun j hj => ⟨by rw [World.cell?_of_block h3]; exact (hc j hj).1, by rw [World.frozen?_of_block h3]; exact (hc j hj).2⟩⟩⟩
theorem grown_putDQ (w : World) (D : Nat) : w.grownBy (w.putObj D (.deferred none)) (some D) := ⟨rfl, rfl, rfl, by simp, fun k _ hk => World.putObj_heap_other (fun e => hk (by rw [e]))⟩
structure TwIQ (w : World) (B : Nat) (m : Mv) (pre : List Nat) (O : Nat → Prop) (W : World) (m' : Mv) : Prop where
 own : O w.heap.size
 box : MBox W w.heap.size m'
 res : MBox W (w.heap.size + 1) ZM
 done : ∀ j, j ∈ pre → j < 4 → TwinV (m.get j) (m'.get j) ∧ Ints W B W.heap.size .u32 (m'.get j).A (m'.get j).n (m'.get j).xs
 rest : ∀ j, j ∉ pre → j < 4 → m'.get j = m.get j
 bel : Below w.heap.size w W
set_option maxHeartbeats 25600000 in
set_option maxRecDepth 100000 in
theorem MTwin_anyP (w : World) (m : Mv) (hR : MRows w 0 w.heap.size m) (hn : ∀ x, x < 4 → (m.get x).n ≤ 1000000) :
  Calls Try.prog 56 #[.agg #[.bool m.S.s, .slice m.S.A m.S.n m.S.c, .int .i64 m.S.e, .bool m.W.s, .slice m.W.A m.W.n m.W.c, .int .i64 m.W.e, .bool m.C.s, .slice m.C.A m.C.n m.C.c, .int .i64 m.C.e, .bool m.A.s, .slice m.A.A m.A.n m.A.c, .int .i64 m.A.e]] w fun e w' => ∃ m', e = .returned (.agg #[.bool m'.S.s, .slice m'.S.A m'.S.n m'.S.c, .int .i64 m'.S.e, .bool m'.W.s, .slice m'.W.A m'.W.n m'.W.c, .int .i64 m'.W.e, .bool m'.C.s, .slice m'.C.A m'.C.n m'.C.c, .int .i64 m'.C.e, .bool m'.A.s, .slice m'.A.A m'.A.n m'.A.c, .int .i64 m'.A.e]) ∧ (∀ x, x < 4 → TwinV (m.get x) (m'.get x)) ∧ Below w.heap.size w w' ∧ MRows w' w.heap.size w'.heap.size m' := by
 refine (callsIn_wide (n := 5)).1 ?_
 refine callsIn_of_wp_marks Try.func56 rfl trivial ?_ rfl
 simp only [Try.ntmps56, List.size_toArray, List.length_cons, List.length_nil, Nat.reduceAdd, Nat.reduceSub, Array.replicate_succ, Array.replicate_zero, List.push_toArray, List.append_toArray, List.nil_append, List.cons_append]
 gi_wp2_with fail
 refine ⟨trivial, (callsIn_wide.2 (parts_any _ _ _)).mono ?_⟩
 rintro e w2 ⟨rfl, rfl⟩
 gi_wp2_with fail
 obtain ⟨W0, hW0⟩ : ∃ W0, (((w.alloc (.cells #[.bool m.S.s, .slice m.S.A m.S.n m.S.c, .int .i64 m.S.e, .bool m.W.s, .slice m.W.A m.W.n m.W.c, .int .i64 m.W.e, .bool m.C.s, .slice m.C.A m.C.n m.C.c, .int .i64 m.C.e, .bool m.A.s, .slice m.A.A m.A.n m.A.c, .int .i64 m.A.e] 27)).alloc (.cells #[.bool false, .slice none 0 0, .int .i64 0, .bool false, .slice none 0 0, .int .i64 0, .bool false, .slice none 0 0, .int .i64 0, .bool false, .slice none 0 0, .int .i64 0] 27)).alloc (.cells #[.pointer (some ⟨w.heap.size, 0, none⟩)] 134)).alloc (.cells #[.pointer (some ⟨w.heap.size, 0, none⟩)] 134) = W0 := ⟨_, rfl⟩
 obtain ⟨⟨hM0, hE0, hS1, hS2⟩, hB0, hlo, hhi⟩ := boxes4 w _ _ _ _ hW0
 rw [hW0]
 clear hW0
 refine wpIn_rangeFunc_sep2 (F := Fence.wide) rfl (by decide) (gf := 125) (lb := #[.pointer (some ⟨w.heap.size + 1 + 1, 0, none⟩), .pointer (some ⟨w.heap.size + 1 + 1 + 1, 0, none⟩)]) rfl trivial (enters_of Try.func125 (by kernel_rfl) rfl)
  (parts_seq _ _ _ w.heap.size w.heap.size W0 ⟨hS1, hS2⟩) (by omega) (fun _ => rfl)
  (fun pre O W => W0.heap.size ≤ W.heap.size ∧ ∃ m', TwIQ w W0.heap.size m pre O W m')
  (fun _ _ _ _ => False)
  (fun O s A B row hs hg hr => by
   obtain ⟨hsz, m', h⟩ := hs
   exact ⟨Nat.le_trans hsz hg.size, m', h.own, heap_own h.box hg (fun r e => (hr r e).2), heap_own h.res hg (fun r e => (hr r e).2), fun j h1 h2 => ⟨(h.done j h1 h2).1, (ints_ownQ (h.done j h1 h2).2 hg (fun r e => .inl (hr r e).2)).more (Nat.le_refl _) hg.size⟩, h.rest, h.bel.grown hg h.bel.size (fun k e => by have := (hr k e).1; omega)⟩)
  (fun j O s A B row hs hg hr => hs)
  (fun s O A B row hs hg hr => by
   obtain ⟨hsz, m', h⟩ := hs
   exact ⟨Nat.le_trans hsz hg.size, m', h.own, heap_loose h.box hg hr (by omega), heap_loose h.res hg hr (by omega), fun j h1 h2 => ⟨(h.done j h1 h2).1, (ints_ownQ (h.done j h1 h2).2 hg (fun r e => .inr (by have := hr r e; omega))).more (Nat.le_refl _) hg.size⟩, h.rest, below_loose h.bel (Nat.le_refl _) hg hr (by omega)⟩)
  (fun j s O A B row hs hg hr => hs)
  (fun k => k = w.heap.size) (fun k hk e => by omega) (fun k e => by omega) ⟨Nat.le_refl _, m, rfl, hM0, hE0, (fun x hx => absurd hx (List.not_mem_nil)), fun _ _ _ => rfl, hB0⟩
  (fun x a' W => a' = { tmps := #[.agg #[.bool m.S.s, .slice m.S.A m.S.n m.S.c, .int .i64 m.S.e, .bool m.W.s, .slice m.W.A m.W.n m.W.c, .int .i64 m.W.e, .bool m.C.s, .slice m.C.A m.C.n m.C.c, .int .i64 m.C.e, .bool m.A.s, .slice m.A.A m.A.n m.A.c, .int .i64 m.A.e], .pointer (some ⟨w.heap.size, 0, none⟩), .pointer (some ⟨w.heap.size + 1, 0, none⟩), .pointer (some ⟨w.heap.size, 3 * x, none⟩),
   .func (.func 125) #[] #[.pointer (some ⟨w.heap.size + 1 + 1, 0, none⟩), .pointer (some ⟨w.heap.size + 1 + 1 + 1, 0, none⟩)], .pointer (some ⟨w.heap.size, 3 * x, none⟩), .pointer (some ⟨w.heap.size, 3 * x, none⟩), undef, undef, undef, undef, undef, undef, undef], defers := [] })
  (fun x a' _ _ _ _ h _ _ => h) ?assign ?body ?done ?stop
 case assign =>
  intro l pre x O W K hgx hsW hi hK
  unfold encM
  gi_wp2
  exact hK _ _ (KeepsFrom.refl _ _) (Gain.refl _ _) hi rfl
 case body =>
  rintro l pre x O a' W ⟨hx4, hpre⟩ hsW ⟨hsz, m', h⟩ rfl _
  have hnin : x ∉ pre := fun hin => by
   rw [hpre] at hin
   exact Nat.lt_irrefl x (List.mem_range.1 hin)
  have hmx := h.rest x hnin hx4
  have hrow : Ints W 0 W.heap.size .u32 (m.get x).A (m.get x).n (m.get x).xs := ((hR.get x).below h.bel (Nat.le_refl _)).more (Nat.le_refl _) h.bel.size
  have hn' := hn x hx4
  have hcm := MBox.at_ h.box hx4
  rw [hmx] at hcm
  generalize hd : m.get x = d at hcm hrow hn' hmx
  have HD := Lib.hid hd
  have HMX := Lib.hid hmx
  clear hd hmx
  obtain ⟨⟨k1, k2, k3⟩, k4, k5, k6⟩ := hcm
  gi_wp2_with fail
  refine ⟨trivial, (CallsIn.inRound l (callsIn_wide.2 (Pa.dyadTwin_anyQ W d.s d.A d.n d.c d.xs d.e hrow hn'))).mono ?_⟩
  rintro e W2 ⟨A', c', rfl, hc', hB, hlt, hI⟩
  have hM2 := box_on h.box hB (by omega)
  have hcm2 := MBox.at_ (m := m') hM2 hx4
  rw [HMX.out] at hcm2
  obtain ⟨⟨j1, j2, j3⟩, j4, j5, j6⟩ := hcm2
  clear k1 k2 k3 k4 k5 k6
  gi_wp2
  have hb2 := h.bel.trans (hB.mono h.bel.size)
  have hs2 := h.bel.size
  have hs3 := hB.size
  refine ⟨(keeps_below hB).trans (((KeepsOthers.setCell _ _ _).trans (KeepsOthers.setCell _ _ _)).trans (KeepsOthers.setCell _ _ _) |>.from _), O, (gain_below hB).trans (((gain_set h.own _).trans (gain_set h.own _)).trans (gain_set h.own _)), by simp [World.setCell]; omega, m'.put x ⟨d.s, A', d.n, c', d.e, d.xs⟩, h.own, MBox.put hM2 hx4 ⟨d.s, A', d.n, c', d.e, d.xs⟩, ?_, fun j hj hj4 => ?_, fun j hj hj4 => ?_, ((hb2.setCell (Nat.le_refl _) _).setCell (Nat.le_refl _) _).setCell (Nat.le_refl _) _⟩
  · exact (Below.heap_setCell _ _ _ _ (by simp)).trans ((Below.heap_setCell _ _ _ _ (by simp)).trans ((Below.heap_setCell _ _ _ _ (by simp)).trans (box_on h.res hB (by omega))))
  · rw [put_getQ hx4 hj4]
    have hsz3 : (((W2.setCell ⟨w.heap.size, 3 * x, none⟩ (.bool d.s)).setCell ⟨w.heap.size, 3 * x + 1, none⟩ (.slice A' d.n c')).setCell ⟨w.heap.size, 3 * x + 2, none⟩ (.int .i64 d.e)).heap.size = W2.heap.size := by simp [World.setCell]
    by_cases e : j = x
    · rw [if_pos e, e, HD.out]
      refine ⟨⟨rfl, rfl, rfl, rfl, hc'⟩, ?_⟩
      exact (ints_far (ints_far (ints_far (hI.more (by omega) (Nat.le_refl _)) (.inl (by show w.heap.size < W0.heap.size; omega)) _) (.inl (by show w.heap.size < W0.heap.size; omega)) _) (.inl (by show w.heap.size < W0.heap.size; omega)) _).more (Nat.le_refl _) (by rw [hsz3]; exact Nat.le_refl _)
    · rw [if_neg e]
      have hjp : j ∈ pre := by
       rcases List.mem_append.1 hj with h1 | h1
       · exact h1
       · exact absurd (List.mem_singleton.1 h1) e
      refine ⟨(h.done j hjp hj4).1, ?_⟩
      exact (ints_far (ints_far (ints_far ((h.done j hjp hj4).2.below hB (Nat.le_refl _)) (.inl (by show w.heap.size < W0.heap.size; omega)) _) (.inl (by show w.heap.size < W0.heap.size; omega)) _) (.inl (by show w.heap.size < W0.heap.size; omega)) _).more (Nat.le_refl _) (by rw [hsz3]; omega)
  · have h1 : j ∉ pre := fun h1 => hj (List.mem_append_left _ h1)
    have e : j ≠ x := fun e => hj (by rw [e]; exact List.mem_append_right _ (List.mem_singleton.2 rfl))
    rw [put_getQ hx4 hj4, if_neg e]
    exact h.rest j h1 hj4
 case done =>
  rintro D ys O W hD hS ⟨hsz, m', h⟩ hK
  obtain ⟨⟨k0, k1, k2, k3, k4, k5, k6, k7, k8, k9, k10, k11⟩, kf⟩ := MBox.cells h.box
  obtain ⟨⟨z0, z1, z2, z3, z4, z5, z6, z7, z8, z9, z10, z11⟩, zf⟩ := MBox.cells h.res
  have hall : ∀ x, x < 4 → TwinV (m.get x) (m'.get x) ∧ Ints W W0.heap.size W.heap.size .u32 (m'.get x).A (m'.get x).n (m'.get x).xs := fun x hx => h.done x (by rw [hS]; simp; omega) hx
  have hbel := h.bel
  have hres := h.res
  clear h hS
  gi_wp2
  have hK' := (keeps_allQ (w := W) (g := w.heap.size + 1) m').same D _ hK rfl
  have hR' : MRows W W0.heap.size W.heap.size m' := ⟨(hall 0 (by decide)).2, (hall 1 (by decide)).2, (hall 2 (by decide)).2, (hall 3 (by decide)).2⟩
  have hX := MBox.all hres m'
  have hY := below_all hbel (show w.heap.size ≤ w.heap.size + 1 by omega) m'
  have hZ := rows_allQ hR' (g := w.heap.size + 1) (.inl (by omega)) m'
  have hs := size_all (w := W) (g := w.heap.size + 1) m'
  clear k0 k1 k2 k3 k4 k5 k6 k7 k8 k9 k10 k11 kf z0 z1 z2 z3 z4 z5 z6 z7 z8 z9 z10 z11 zf
  generalize ((((((((((((W.setCell ⟨w.heap.size + 1, 0, none⟩ (.bool m'.S.s)).setCell ⟨w.heap.size + 1, 1, none⟩ (.slice m'.S.A m'.S.n m'.S.c)).setCell ⟨w.heap.size + 1, 2, none⟩ (.int .i64 m'.S.e)).setCell ⟨w.heap.size + 1, 3, none⟩ (.bool m'.W.s)).setCell ⟨w.heap.size + 1, 4, none⟩ (.slice m'.W.A m'.W.n m'.W.c)).setCell ⟨w.heap.size + 1, 5, none⟩ (.int .i64 m'.W.e)).setCell ⟨w.heap.size + 1, 6, none⟩ (.bool m'.C.s)).setCell ⟨w.heap.size + 1, 7, none⟩ (.slice m'.C.A m'.C.n m'.C.c)).setCell ⟨w.heap.size + 1, 8, none⟩ (.int .i64 m'.C.e)).setCell ⟨w.heap.size + 1, 9, none⟩ (.bool m'.A.s)).setCell ⟨w.heap.size + 1, 10, none⟩ (.slice m'.A.A m'.A.n m'.A.c)).setCell ⟨w.heap.size + 1, 11, none⟩ (.int .i64 m'.A.e)) = V at *
  have hX2 : MBox (V.putObj D (.deferred none)) (w.heap.size + 1) m' := (World.putObj_heap_other (o := .deferred none) (by omega : w.heap.size + 1 ≠ D)).trans hX
  obtain ⟨⟨k0, k1, k2, k3, k4, k5, k6, k7, k8, k9, k10, k11⟩, kf⟩ := MBox.cells hX2
  refine ⟨by simp, .inl ⟨_, _, rfl, run_takeDeferred hK', ?_⟩⟩
  refine ⟨.agg #[.bool m'.S.s, .slice m'.S.A m'.S.n m'.S.c, .int .i64 m'.S.e, .bool m'.W.s, .slice m'.W.A m'.W.n m'.W.c, .int .i64 m'.W.e, .bool m'.C.s, .slice m'.C.A m'.C.n m'.C.c, .int .i64 m'.C.e, .bool m'.A.s, .slice m'.A.A m'.A.n m'.A.c, .int .i64 m'.A.e], ?_, m', rfl, ?_⟩
  · simp [results, Try.f56, go_sem, k0, k1, k2, k3, k4, k5, k6, k7, k8, k9, k10, k11]
  · refine ⟨fun x hx => (hall x hx).1, hY.trans (belowK_b (w := w) (Nat.le_refl _) _ D _ _ (by omega) hK' rfl rfl), ?_⟩
    have hp : ∀ k, k ≠ D → (V.putObj D (.deferred none)).heap[k]? = V.heap[k]? := fun k hk => World.putObj_heap_other hk
    have hdD : D < V.heap.size := lt_of_heap hK'
    have rr : ∀ x, x < 4 → Ints (V.putObj D (.deferred none)) W0.heap.size W.heap.size .u32 (m'.get x).A (m'.get x).n (m'.get x).xs := fun x _ => ints_ownQ (hZ.get x) (grown_putDQ V D) (fun r e => by
     injection e with e
     exact .inl ⟨_, e ▸ hK', rfl⟩)
    have hsz2 : (V.putObj D (.deferred none)).heap.size = V.heap.size := by simp
    have hs' : V.heap.size = W.heap.size := hs
    exact MRows.more ⟨rr 0 (by decide), rr 1 (by decide), rr 2 (by decide), rr 3 (by decide)⟩ (by omega) (by omega)
 case stop =>
  rintro D j pre O W hD hSp hf hK
  exact hf.elim
end Ma
end Go.Proofs.Ytbbnbgllgomolaa