/- Edges and parts that may be: walks (printed by a program of mine). -/
import Derived.Test.YtmbppgjhdcmckaaGreatDoorPsP
import Derived.Test.YtmbppgjhdcmckaaGreatDoorPsLe
import Derived.Test.YtmbppgjhdcmckaaGreatDoorPsW1
import Derived.Test.YtmbppgjhdcmckaaGreatDoorBg18
namespace Go.Proofs.YtmbppgjhdcmckaaGreatDoor
open Go.RowKit
namespace Ma
open Dp Dy
theorem mayE_true (mn mx : Int) : mayE true mn mx = decide (-2147483647 ≤ mn ∧ mn ≤ 2147483647 ∧ -2147483647 ≤ mx ∧ mx ≤ 2147483647 ∧ mn ≤ mx) := rfl
theorem mayE_false (mn mx : Int) : mayE false mn mx = decide (mn = 0 ∧ mx = 0) := rfl
set_option maxHeartbeats 1600000 in
/-- edge.value. -/
theorem value_any (w : World) (x : Int) (b : Bool) (hb : decide (-2147483647 ≤ x ∧ x ≤ 2147483647) = b) :
    Calls Tryz.prog 131 #[.int .i64 x] w fun e w' => e = .returned (.bool b) ∧ Below w.heap.size w w' := by
  by_cases h1 : (-2147483647 : Int) ≤ x
  · by_cases h2 : x ≤ 2147483647
    · have hb' : b = true := by rw [← hb]; exact decide_eq_true ⟨h1, h2⟩
      subst hb'
      clear hb
      go_enter Tryz.func131, Tryz.ntmps131
      go_wp2
      go_ret
      exact ⟨rfl, Below.refl _ _⟩
    · have hb' : b = false := by rw [← hb]; exact decide_eq_false fun h => h2 h.2
      subst hb'
      have d2 : decide (x ≤ 2147483647) = false := decide_eq_false h2
      clear hb
      go_enter Tryz.func131, Tryz.ntmps131
      go_wp2
      go_ret
      exact ⟨rfl, Below.refl _ _⟩
  · have hb' : b = false := by rw [← hb]; exact decide_eq_false fun h => h1 h.1
    subst hb'
    have d1 : decide ((-2147483647 : Int) ≤ x) = false := decide_eq_false h1
    clear hb
    go_enter Tryz.func131, Tryz.ntmps131
    go_wp2
    go_ret
    exact ⟨rfl, Below.refl _ _⟩
set_option maxHeartbeats 1600000 in
/-- headcountref17.Value. -/
theorem rvalue_any (w : World) (x : Int) (b : Bool) (hb : decide (-2147483647 ≤ x ∧ x ≤ 2147483647) = b) :
    Calls Tryz.prog 98 #[.int .i64 x] w fun e w' => e = .returned (.bool b) ∧ Below w.heap.size w w' := by
  by_cases h1 : (-2147483647 : Int) ≤ x
  · by_cases h2 : x ≤ 2147483647
    · have hb' : b = true := by rw [← hb]; exact decide_eq_true ⟨h1, h2⟩
      subst hb'
      clear hb
      go_enter Tryz.func98, Tryz.ntmps98
      go_wp2
      go_ret
      exact ⟨rfl, Below.refl _ _⟩
    · have hb' : b = false := by rw [← hb]; exact decide_eq_false fun h => h2 h.2
      subst hb'
      have d2 : decide (x ≤ 2147483647) = false := decide_eq_false h2
      clear hb
      go_enter Tryz.func98, Tryz.ntmps98
      go_wp2
      go_ret
      exact ⟨rfl, Below.refl _ _⟩
  · have hb' : b = false := by rw [← hb]; exact decide_eq_false fun h => h1 h.1
    subst hb'
    have d1 : decide ((-2147483647 : Int) ≤ x) = false := decide_eq_false h1
    clear hb
    go_enter Tryz.func98, Tryz.ntmps98
    go_wp2
    go_ret
    exact ⟨rfl, Below.refl _ _⟩
set_option maxHeartbeats 3200000 in
set_option maxRecDepth 100000 in
/-- edge.Check. -/
theorem edgeCheck_any (w : World) (h : Bool) (mn mx : Int) (k : Bool) (hk : mayE h mn mx = k) :
    Calls Tryz.prog 68 #[.agg #[.bool h, .int .i64 mn, .int .i64 mx]] w fun e w' => e = .returned (.int .i64 (if k then 0 else 8)) ∧ Below w.heap.size w w' := by
  have fin := (Below.refl w.heap.size w).alloc (Nat.le_refl _) (.cells #[.bool h, .int .i64 mn, .int .i64 mx] 28)
  have B1 := heap_alloc_last w (.cells #[.bool h, .int .i64 mn, .int .i64 mx] 28)
  have S1 : w.heap.size < (w.alloc (.cells #[.bool h, .int .i64 mn, .int .i64 mx] 28)).heap.size := by simp
  generalize hw : w.alloc (.cells #[.bool h, .int .i64 mn, .int .i64 mx] 28) = w1 at *
  obtain ⟨⟨p1, p2, p3⟩, p4, p5, p6⟩ := boxD B1
  have HK := Lib.hid hk
  clear hk
  cases h
  · by_cases e1 : mn = 0
    · subst e1
      by_cases e2 : mx = 0
      · subst e2
        have hk' : k = true := by rw [← HK.out, mayE_false]; rfl
        subst hk'
        clear HK
        go_enter Tryz.func68, Tryz.ntmps68
        go_wp2
        go_ret
        exact ⟨rfl, fin⟩
      · have hk' : k = false := by rw [← HK.out, mayE_false]; exact decide_eq_false fun h => e2 h.2
        subst hk'
        have n2 : (mx == 0) = false := by simpa using e2
        have n3 : (0 == mx) = false := by simpa using Ne.symm e2
        clear HK
        go_enter Tryz.func68, Tryz.ntmps68
        go_wp2
        go_ret
        exact ⟨rfl, fin⟩
    · have hk' : k = false := by rw [← HK.out, mayE_false]; exact decide_eq_false fun h => e1 h.1
      subst hk'
      have n2 : (mn == 0) = false := by simpa using e1
      have n3 : (0 == mn) = false := by simpa using Ne.symm e1
      clear HK
      go_enter Tryz.func68, Tryz.ntmps68
      go_wp2
      go_ret
      exact ⟨rfl, fin⟩
  · obtain ⟨b1, hb1⟩ : ∃ b, decide (-2147483647 ≤ mn ∧ mn ≤ 2147483647) = b := ⟨_, rfl⟩
    obtain ⟨b2, hb2⟩ : ∃ b, decide (-2147483647 ≤ mx ∧ mx ≤ 2147483647) = b := ⟨_, rfl⟩
    have HB1 := Lib.hid hb1
    have HB2 := Lib.hid hb2
    clear hb1 hb2
    go_enter Tryz.func68, Tryz.ntmps68
    go_wp2_with fail
    refine (value_any w1 mn b1 HB1.out).mono ?_
    rintro e v1 ⟨rfl, j1⟩
    clear p1 p2 p3 p4 p5 p6
    have B2 := (j1.block _ S1).trans B1
    have fin1 := fin.trans (j1.mono (by omega))
    have S2 := j1.size
    obtain ⟨⟨p1, p2, p3⟩, p4, p5, p6⟩ := boxD B2
    cases b1
    · have hk' : k = false := by rw [← HK.out, mayE_true]; exact decide_eq_false fun h => of_decide_eq_false HB1.out ⟨h.1, h.2.1⟩
      subst hk'
      clear HK HB1 HB2
      go_wp2
      go_ret
      exact ⟨rfl, fin1⟩
    · go_wp2_with fail
      refine (value_any v1 mx b2 HB2.out).mono ?_
      rintro e v2 ⟨rfl, j2⟩
      clear p1 p2 p3 p4 p5 p6
      have B3 := (j2.block _ (by omega)).trans B2
      have fin2 := fin1.trans (j2.mono (by omega))
      obtain ⟨⟨p1, p2, p3⟩, p4, p5, p6⟩ := boxD B3
      cases b2
      · have hk' : k = false := by rw [← HK.out, mayE_true]; exact decide_eq_false fun h => of_decide_eq_false HB2.out ⟨h.2.2.1, h.2.2.2.1⟩
        subst hk'
        clear HK HB1 HB2
        go_wp2
        go_ret
        exact ⟨rfl, fin2⟩
      · by_cases hlt : mn ≤ mx
        · have hk' : k = true := by
            rw [← HK.out, mayE_true]
            have a1 := of_decide_eq_true HB1.out
            have a2 := of_decide_eq_true HB2.out
            exact decide_eq_true ⟨a1.1, a1.2, a2.1, a2.2, hlt⟩
          subst hk'
          have d1 : decide (mx < mn) = false := decide_eq_false (by omega)
          have d2 : decide (mn ≤ mx) = true := decide_eq_true hlt
          clear HK HB1 HB2
          go_wp2
          go_ret
          exact ⟨rfl, fin2⟩
        · have hk' : k = false := by rw [← HK.out, mayE_true]; exact decide_eq_false fun h => hlt h.2.2.2.2
          subst hk'
          have d1 : decide (mx < mn) = true := decide_eq_true (by omega)
          have d2 : decide (mn ≤ mx) = false := decide_eq_false hlt
          clear HK HB1 HB2
          go_wp2
          go_ret
          exact ⟨rfl, fin2⟩
set_option maxHeartbeats 3200000 in
set_option maxRecDepth 100000 in
/-- headcountref17.May. -/
theorem edgeMay_any (w : World) (h : Bool) (mn mx : Int) (k : Bool) (hk : mayE h mn mx = k) :
    Calls Tryz.prog 84 #[.agg #[.bool h, .int .i64 mn, .int .i64 mx]] w fun e w' => e = .returned (.bool k) ∧ Below w.heap.size w w' := by
  have fin := (Below.refl w.heap.size w).alloc (Nat.le_refl _) (.cells #[.bool h, .int .i64 mn, .int .i64 mx] 28)
  have B1 := heap_alloc_last w (.cells #[.bool h, .int .i64 mn, .int .i64 mx] 28)
  have S1 : w.heap.size < (w.alloc (.cells #[.bool h, .int .i64 mn, .int .i64 mx] 28)).heap.size := by simp
  generalize hw : w.alloc (.cells #[.bool h, .int .i64 mn, .int .i64 mx] 28) = w1 at *
  obtain ⟨⟨p1, p2, p3⟩, p4, p5, p6⟩ := boxD B1
  have HK := Lib.hid hk
  clear hk
  cases h
  · by_cases e1 : mn = 0
    · subst e1
      by_cases e2 : mx = 0
      · subst e2
        have hk' : k = true := by rw [← HK.out, mayE_false]; rfl
        subst hk'
        clear HK
        go_enter Tryz.func84, Tryz.ntmps84
        go_wp2
        go_ret
        exact ⟨rfl, fin⟩
      · have hk' : k = false := by rw [← HK.out, mayE_false]; exact decide_eq_false fun h => e2 h.2
        subst hk'
        have n2 : (mx == 0) = false := by simpa using e2
        have n3 : (0 == mx) = false := by simpa using Ne.symm e2
        clear HK
        go_enter Tryz.func84, Tryz.ntmps84
        go_wp2
        go_ret
        exact ⟨rfl, fin⟩
    · have hk' : k = false := by rw [← HK.out, mayE_false]; exact decide_eq_false fun h => e1 h.1
      subst hk'
      have n2 : (mn == 0) = false := by simpa using e1
      have n3 : (0 == mn) = false := by simpa using Ne.symm e1
      clear HK
      go_enter Tryz.func84, Tryz.ntmps84
      go_wp2
      go_ret
      exact ⟨rfl, fin⟩
  · obtain ⟨b1, hb1⟩ : ∃ b, decide (-2147483647 ≤ mn ∧ mn ≤ 2147483647) = b := ⟨_, rfl⟩
    obtain ⟨b2, hb2⟩ : ∃ b, decide (-2147483647 ≤ mx ∧ mx ≤ 2147483647) = b := ⟨_, rfl⟩
    have HB1 := Lib.hid hb1
    have HB2 := Lib.hid hb2
    clear hb1 hb2
    go_enter Tryz.func84, Tryz.ntmps84
    go_wp2_with fail
    refine (rvalue_any w1 mn b1 HB1.out).mono ?_
    rintro e v1 ⟨rfl, j1⟩
    clear p1 p2 p3 p4 p5 p6
    have B2 := (j1.block _ S1).trans B1
    have fin1 := fin.trans (j1.mono (by omega))
    have S2 := j1.size
    obtain ⟨⟨p1, p2, p3⟩, p4, p5, p6⟩ := boxD B2
    cases b1
    · have hk' : k = false := by rw [← HK.out, mayE_true]; exact decide_eq_false fun h => of_decide_eq_false HB1.out ⟨h.1, h.2.1⟩
      subst hk'
      clear HK HB1 HB2
      go_wp2
      go_ret
      exact ⟨rfl, fin1⟩
    · go_wp2_with fail
      refine (rvalue_any v1 mx b2 HB2.out).mono ?_
      rintro e v2 ⟨rfl, j2⟩
      clear p1 p2 p3 p4 p5 p6
      have B3 := (j2.block _ (by omega)).trans B2
      have fin2 := fin1.trans (j2.mono (by omega))
      obtain ⟨⟨p1, p2, p3⟩, p4, p5, p6⟩ := boxD B3
      cases b2
      · have hk' : k = false := by rw [← HK.out, mayE_true]; exact decide_eq_false fun h => of_decide_eq_false HB2.out ⟨h.2.2.1, h.2.2.2.1⟩
        subst hk'
        clear HK HB1 HB2
        go_wp2
        go_ret
        exact ⟨rfl, fin2⟩
      · by_cases hlt : mn ≤ mx
        · have hk' : k = true := by
            rw [← HK.out, mayE_true]
            have a1 := of_decide_eq_true HB1.out
            have a2 := of_decide_eq_true HB2.out
            exact decide_eq_true ⟨a1.1, a1.2, a2.1, a2.2, hlt⟩
          subst hk'
          have d1 : decide (mx < mn) = false := decide_eq_false (by omega)
          have d2 : decide (mn ≤ mx) = true := decide_eq_true hlt
          clear HK HB1 HB2
          go_wp2
          go_ret
          exact ⟨rfl, fin2⟩
        · have hk' : k = false := by rw [← HK.out, mayE_true]; exact decide_eq_false fun h => hlt h.2.2.2.2
          subst hk'
          have d1 : decide (mx < mn) = true := decide_eq_true (by omega)
          have d2 : decide (mn ≤ mx) = false := decide_eq_false hlt
          clear HK HB1 HB2
          go_wp2
          go_ret
          exact ⟨rfl, fin2⟩
set_option maxHeartbeats 6400000 in
set_option maxRecDepth 100000 in
/-- past.CheckPart. -/
theorem CheckPart_any (w : World) (p : Pv) (hR : PRows w 0 w.heap.size p) (k : Bool) (hk : mayP p = k) :
    Calls Tryz.prog 35 #[.agg #[.bool p.M.S.s, .slice p.M.S.A p.M.S.n p.M.S.c, .int .i64 p.M.S.e, .bool p.M.W.s, .slice p.M.W.A p.M.W.n p.M.W.c, .int .i64 p.M.W.e, .bool p.M.C.s, .slice p.M.C.A p.M.C.n p.M.C.c, .int .i64 p.M.C.e, .bool p.M.A.s, .slice p.M.A.A p.M.A.n p.M.A.c, .int .i64 p.M.A.e, .bool p.h, .int .i64 p.mn, .int .i64 p.mx, .slice p.A p.n p.c]] w fun e w' => e = .returned (.int .i64 (if k then 0 else 8)) ∧ Below w.heap.size w w' := by
  obtain ⟨w1, hw, bP, j1, S1⟩ := alloc_p w p
  obtain ⟨q, hq⟩ : ∃ q, badS [p.M] = q := ⟨_, rfl⟩
  obtain ⟨r, hr⟩ : ∃ q, mayE p.h p.mn p.mx = q := ⟨_, rfl⟩
  have HQ := Lib.hid hq
  have HR := Lib.hid hr
  have HK := Lib.hid hk
  clear hq hr hk
  go_enter Tryz.func35, Tryz.ntmps35
  obtain ⟨⟨q1_0, q1_1, q1_2, q1_3, q1_4, q1_5, q1_6, q1_7, q1_8, q1_9, q1_10, q1_11, q1_12, q1_13, q1_14, q1_15⟩, q1f⟩ := PBox.cell bP
  go_wp2_with fail
  refine (PCheck_any w1 p.M (PRows.on hR j1).M q HQ.out).mono ?_
  rintro e' v2 ⟨rfl, j3⟩
  clear q1_0 q1_1 q1_2 q1_3 q1_4 q1_5 q1_6 q1_7 q1_8 q1_9 q1_10 q1_11 q1_12 q1_13 q1_14 q1_15 q1f
  try clear hw
  obtain ⟨⟨q4_0, q4_1, q4_2, q4_3, q4_4, q4_5, q4_6, q4_7, q4_8, q4_9, q4_10, q4_11, q4_12, q4_13, q4_14, q4_15⟩, q4f⟩ := PBox.cell (box_later bP j3 S1)
  cases q
  rotate_left
  · skip
    have hk' : k = false := by rw [← HK.out, mayP, HQ.out]; rfl
    subst hk'
    clear HK HQ HR
    go_wp2
    go_ret
    exact ⟨rfl, (later j1 j3)⟩
  · skip
    go_wp2_with fail
    refine (edgeCheck_any v2 p.h p.mn p.mx r HR.out).mono ?_
    rintro e' v5 ⟨rfl, j6⟩
    clear q4_0 q4_1 q4_2 q4_3 q4_4 q4_5 q4_6 q4_7 q4_8 q4_9 q4_10 q4_11 q4_12 q4_13 q4_14 q4_15 q4f
    try clear hw
    obtain ⟨⟨q7_0, q7_1, q7_2, q7_3, q7_4, q7_5, q7_6, q7_7, q7_8, q7_9, q7_10, q7_11, q7_12, q7_13, q7_14, q7_15⟩, q7f⟩ := PBox.cell (box_later bP (later j3 j6) S1)
    cases r
    · skip
      have hk' : k = false := by rw [← HK.out, mayP, HQ.out, HR.out]; rfl
      subst hk'
      clear HK HQ HR
      go_wp2
      go_ret
      exact ⟨rfl, (later j1 (later j3 j6))⟩
    · skip
      obtain ⟨cd, hcd⟩ : ∃ c, Least.checkCode p.xs = c := ⟨_, rfl⟩
      have HC := Lib.hid hcd
      clear hcd
      go_wp2_with fail
      refine (Least.Check_any v5 0 v5.heap.size p.A p.n p.c p.xs (PRows.on hR (later j1 (later j3 j6))).L cd HC.out).mono ?_
      rintro e' v_ ⟨rfl, m_, rfl⟩
      have jd : Below w.heap.size w (v5.drewN m_) := below_drewN (later j1 (later j3 j6)) m_
      by_cases h0 : cd = 0
      · subst h0
        have hk' : k = true := by rw [← HK.out, mayP, HQ.out, HR.out, HC.out]; rfl
        subst hk'
        clear HK HQ HR HC
        go_wp2
        go_ret
        exact ⟨rfl, jd⟩
      · have hk' : k = false := by rw [← HK.out, mayP, HQ.out, HR.out, HC.out, decide_eq_false h0]; rfl
        subst hk'
        have n0 : (cd != 0) = true := by simpa using h0
        clear HK HQ HR HC
        go_wp2
        go_ret
        exact ⟨rfl, jd⟩
set_option maxHeartbeats 6400000 in
set_option maxRecDepth 100000 in
/-- headcountref20.MayPart. -/
theorem MayPart_any (w : World) (p : Pv) (hR : PRows w 0 w.heap.size p) (k : Bool) (hk : mayP p = k) :
    Calls Tryz.prog 41 #[.agg #[.bool p.M.S.s, .slice p.M.S.A p.M.S.n p.M.S.c, .int .i64 p.M.S.e, .bool p.M.W.s, .slice p.M.W.A p.M.W.n p.M.W.c, .int .i64 p.M.W.e, .bool p.M.C.s, .slice p.M.C.A p.M.C.n p.M.C.c, .int .i64 p.M.C.e, .bool p.M.A.s, .slice p.M.A.A p.M.A.n p.M.A.c, .int .i64 p.M.A.e, .bool p.h, .int .i64 p.mn, .int .i64 p.mx, .slice p.A p.n p.c]] w fun e w' => e = .returned (.bool k) ∧ Below w.heap.size w w' := by
  obtain ⟨w1, hw, bP, j1, S1⟩ := alloc_p w p
  obtain ⟨q, hq⟩ : ∃ q, badS [p.M] = q := ⟨_, rfl⟩
  obtain ⟨r, hr⟩ : ∃ q, mayE p.h p.mn p.mx = q := ⟨_, rfl⟩
  have HQ := Lib.hid hq
  have HR := Lib.hid hr
  have HK := Lib.hid hk
  clear hq hr hk
  go_enter Tryz.func41, Tryz.ntmps41
  obtain ⟨⟨q8_0, q8_1, q8_2, q8_3, q8_4, q8_5, q8_6, q8_7, q8_8, q8_9, q8_10, q8_11, q8_12, q8_13, q8_14, q8_15⟩, q8f⟩ := PBox.cell bP
  go_wp2_with fail
  refine (RMayS_any w1 p.M (PRows.on hR j1).M q HQ.out).mono ?_
  rintro e' v9 ⟨rfl, j10⟩
  clear q8_0 q8_1 q8_2 q8_3 q8_4 q8_5 q8_6 q8_7 q8_8 q8_9 q8_10 q8_11 q8_12 q8_13 q8_14 q8_15 q8f
  try clear hw
  obtain ⟨⟨q11_0, q11_1, q11_2, q11_3, q11_4, q11_5, q11_6, q11_7, q11_8, q11_9, q11_10, q11_11, q11_12, q11_13, q11_14, q11_15⟩, q11f⟩ := PBox.cell (box_later bP j10 S1)
  cases q
  rotate_left
  · skip
    have hk' : k = false := by rw [← HK.out, mayP, HQ.out]; rfl
    subst hk'
    clear HK HQ HR
    go_wp2
    go_ret
    exact ⟨rfl, (later j1 j10)⟩
  · skip
    go_wp2_with fail
    refine (edgeMay_any v9 p.h p.mn p.mx r HR.out).mono ?_
    rintro e' v12 ⟨rfl, j13⟩
    clear q11_0 q11_1 q11_2 q11_3 q11_4 q11_5 q11_6 q11_7 q11_8 q11_9 q11_10 q11_11 q11_12 q11_13 q11_14 q11_15 q11f
    try clear hw
    obtain ⟨⟨q14_0, q14_1, q14_2, q14_3, q14_4, q14_5, q14_6, q14_7, q14_8, q14_9, q14_10, q14_11, q14_12, q14_13, q14_14, q14_15⟩, q14f⟩ := PBox.cell (box_later bP (later j10 j13) S1)
    cases r
    · skip
      have hk' : k = false := by rw [← HK.out, mayP, HQ.out, HR.out]; rfl
      subst hk'
      clear HK HQ HR
      go_wp2
      go_ret
      exact ⟨rfl, (later j1 (later j10 j13))⟩
    · skip
      have hk2 : decide (Least.checkCode p.xs = 0) = k := by rw [← HK.out, mayP, HQ.out, HR.out]; simp
      have HC := Lib.hid hk2
      clear hk2 HK HQ HR
      go_wp2_with fail
      refine (Least.MayLeast_any v12 0 v12.heap.size p.A p.n p.c p.xs (PRows.on hR (later j1 (later j10 j13))).L k HC.out).mono ?_
      rintro e' v_ ⟨rfl, m_, rfl⟩
      have jd : Below w.heap.size w (v12.drewN m_) := below_drewN (later j1 (later j10 j13)) m_
      cases k
      · skip
        go_wp2
        go_ret
        exact ⟨rfl, jd⟩
      · skip
        go_wp2
        go_ret
        exact ⟨rfl, jd⟩
end Ma
end Go.Proofs.YtmbppgjhdcmckaaGreatDoor
