/- headcountref15: zero, May, Check, Give, Take: walks (printed by a program of mine). -/
/- headcountlaw15.spoil: a walk; rows that are spoilt one behind the other. -/
import Derived.Test.YtbbnbgllgomolaaDoorBh15
import Derived.Test.YtbbnbgllgomolaaDoorBh16
namespace Go.Proofs.YtbbnbgllgomolaaDoor
open Go.RowKit
namespace Ma
open Dp Dy
set_option maxHeartbeats 3200000 in
/-- headcountref15.zero. -/
theorem rzero_any (w : World) (s : Bool) (A : Option Addr) (n c : Nat) (e : Int) (b : Bool) (hb : decide (n = 0) = b) :
    Calls Tryd.prog 39 #[.agg #[.bool s, .slice A n c, .int .i64 e]] w fun e w' => e = .returned (.bool b) ∧ Below w.heap.size w w' := by
  have fin := (Below.refl w.heap.size w).alloc (Nat.le_refl _) (.cells #[.bool s, .slice A n c, .int .i64 e] 24)
  have B1 := heap_alloc_last w (.cells #[.bool s, .slice A n c, .int .i64 e] 24)
  generalize hw : w.alloc (.cells #[.bool s, .slice A n c, .int .i64 e] 24) = w1 at *
  obtain ⟨⟨p1, p2, p3⟩, p4, p5, p6⟩ := boxD B1
  by_cases h : n = 0
  · have hb' : b = true := by rw [← hb]; exact decide_eq_true h
    subst hb'
    subst h
    go_enter Tryd.func39, Tryd.ntmps39
    go_wp2
    go_ret
    exact ⟨rfl, fin⟩
  · have hb' : b = false := by rw [← hb]; exact decide_eq_false h
    subst hb'
    have hxb : ((n : Int) == 0) = false := by
      have : (n : Int) ≠ 0 := by omega
      simpa using this
    go_enter Tryd.func39, Tryd.ntmps39
    go_wp2
    go_ret
    exact ⟨rfl, fin⟩
set_option maxHeartbeats 12800000 in
set_option maxRecDepth 100000 in
/-- headcountref15.May. -/
theorem RMayS_any (w : World) (m : Mv) (hR : MRows w 0 w.heap.size m) (b : Bool) (hb : badS [m] = b) :
    Calls Tryd.prog 38 #[.agg #[.bool m.S.s, .slice m.S.A m.S.n m.S.c, .int .i64 m.S.e, .bool m.W.s, .slice m.W.A m.W.n m.W.c, .int .i64 m.W.e, .bool m.C.s, .slice m.C.A m.C.n m.C.c, .int .i64 m.C.e, .bool m.A.s, .slice m.A.A m.A.n m.A.c, .int .i64 m.A.e]] w fun e w' => e = .returned (.bool (!b)) ∧ Below w.heap.size w w' := by
  have HB := Lib.hid hb
  clear hb
  have hM := heap_alloc_last w (.cells #[.bool m.S.s, .slice m.S.A m.S.n m.S.c, .int .i64 m.S.e, .bool m.W.s, .slice m.W.A m.W.n m.W.c, .int .i64 m.W.e, .bool m.C.s, .slice m.C.A m.C.n m.C.c, .int .i64 m.C.e, .bool m.A.s, .slice m.A.A m.A.n m.A.c, .int .i64 m.A.e] 26)
  have j1 := (Below.refl w.heap.size w).alloc (Nat.le_refl _) (.cells #[.bool m.S.s, .slice m.S.A m.S.n m.S.c, .int .i64 m.S.e, .bool m.W.s, .slice m.W.A m.W.n m.W.c, .int .i64 m.W.e, .bool m.C.s, .slice m.C.A m.C.n m.C.c, .int .i64 m.C.e, .bool m.A.s, .slice m.A.A m.A.n m.A.c, .int .i64 m.A.e] 26)
  have S1 : w.heap.size < (w.alloc (.cells #[.bool m.S.s, .slice m.S.A m.S.n m.S.c, .int .i64 m.S.e, .bool m.W.s, .slice m.W.A m.W.n m.W.c, .int .i64 m.W.e, .bool m.C.s, .slice m.C.A m.C.n m.C.c, .int .i64 m.C.e, .bool m.A.s, .slice m.A.A m.A.n m.A.c, .int .i64 m.A.e] 26)).heap.size := by simp
  generalize hw : w.alloc (.cells #[.bool m.S.s, .slice m.S.A m.S.n m.S.c, .int .i64 m.S.e, .bool m.W.s, .slice m.W.A m.W.n m.W.c, .int .i64 m.W.e, .bool m.C.s, .slice m.C.A m.C.n m.C.c, .int .i64 m.C.e, .bool m.A.s, .slice m.A.A m.A.n m.A.c, .int .i64 m.A.e] 26) = w1 at *
  replace hM : MBox w1 w.heap.size m := hM
  have Rm : MRows w1 0 w1.heap.size m := hR.on j1
  have no : ¬ m.share → b = true := fun h => by rw [← HB.out]; exact badS_yes (List.mem_singleton.2 rfl) h
  have yes : m.share → b = false := fun h => by rw [← HB.out]; exact badS_one.2 h
  go_enter Tryd.func38, Tryd.ntmps38
  obtain ⟨⟨q1_0, q1_1, q1_2, q1_3, q1_4, q1_5, q1_6, q1_7, q1_8, q1_9, q1_10, q1_11⟩, q1f⟩ := MBox.cells hM
  by_cases hm : m.may
  rotate_left
  · skip
    have hb' : b = true := no (fun h => hm h.1)
    subst hb'
    have HM : Hid (mayMB m = false) := Lib.hid (by cases h : mayMB m; rfl; exact absurd ((mayMB_iff m).1 h) hm)
    clear hm no yes
    go_wp2_with fail
    refine (RMay_any w1 m Rm false HM.out).mono ?_
    rintro e' v2 ⟨rfl, j3⟩
    clear q1_0 q1_1 q1_2 q1_3 q1_4 q1_5 q1_6 q1_7 q1_8 q1_9 q1_10 q1_11 q1f
    try clear hw
    go_wp2
    go_ret
    exact ⟨rfl, (later j1 j3)⟩
  · skip
    have HM := Lib.hid ((mayMB_iff m).2 hm)
    go_wp2_with fail
    refine (RMay_any w1 m Rm true HM.out).mono ?_
    rintro e' v4 ⟨rfl, j5⟩
    clear q1_0 q1_1 q1_2 q1_3 q1_4 q1_5 q1_6 q1_7 q1_8 q1_9 q1_10 q1_11 q1f
    try clear hw
    cases hs : m.W.s
    rotate_left
    · skip
      obtain ⟨⟨q6_0, q6_1, q6_2, q6_3, q6_4, q6_5, q6_6, q6_7, q6_8, q6_9, q6_10, q6_11⟩, q6f⟩ := MBox.cells (box_later hM j5 S1)
      rw [hs] at q6_3
      have hb' : b = true := no (fun h => by have := h.2.1; rw [hs] at this; cases this)
      subst hb'
      clear hs no yes hm
      go_wp2
      go_ret
      exact ⟨rfl, (later j1 j5)⟩
    · skip
      have HS := Lib.hid hs
      obtain ⟨⟨q7_0, q7_1, q7_2, q7_3, q7_4, q7_5, q7_6, q7_7, q7_8, q7_9, q7_10, q7_11⟩, q7f⟩ := MBox.cells (box_later hM j5 S1)
      rw [hs] at q7_3
      clear hs
      by_cases hn : m.W.n = 0
      rotate_left
      · skip
        have hb' : b = false := yes ⟨hm, HS.out, fun h => absurd h hn⟩
        subst hb'
        have HN := Lib.hid hn
        clear hn no yes hm
        go_wp2_with fail
        refine (rzero_any v4 false m.W.A m.W.n m.W.c m.W.e false (decide_eq_false HN.out)).mono ?_
        rintro e' v8 ⟨rfl, j9⟩
        clear q7_0 q7_1 q7_2 q7_3 q7_4 q7_5 q7_6 q7_7 q7_8 q7_9 q7_10 q7_11 q7f
        try clear hw
        go_wp2
        go_ret
        exact ⟨rfl, (later j1 (later j5 j9))⟩
      · skip
        have HN := Lib.hid hn
        clear hn
        go_wp2_with fail
        refine (rzero_any v4 false m.W.A m.W.n m.W.c m.W.e true (decide_eq_true HN.out)).mono ?_
        rintro e' v10 ⟨rfl, j11⟩
        clear q7_0 q7_1 q7_2 q7_3 q7_4 q7_5 q7_6 q7_7 q7_8 q7_9 q7_10 q7_11 q7f
        try clear hw
        obtain ⟨⟨q12_0, q12_1, q12_2, q12_3, q12_4, q12_5, q12_6, q12_7, q12_8, q12_9, q12_10, q12_11⟩, q12f⟩ := MBox.cells (box_later hM (later j5 j11) S1)
        by_cases hn : m.S.n = 0
        rotate_left
        · skip
          have hb' : b = true := no (fun h => hn (h.2.2 HN.out))
          subst hb'
          have HN1 := Lib.hid hn
          clear hn no yes hm
          go_wp2_with fail
          refine (rzero_any v10 m.S.s m.S.A m.S.n m.S.c m.S.e false (decide_eq_false HN1.out)).mono ?_
          rintro e' v13 ⟨rfl, j14⟩
          clear q12_0 q12_1 q12_2 q12_3 q12_4 q12_5 q12_6 q12_7 q12_8 q12_9 q12_10 q12_11 q12f
          try clear hw
          go_wp2
          go_ret
          exact ⟨rfl, (later j1 (later j5 (later j11 j14)))⟩
        · skip
          have hb' : b = false := yes ⟨hm, HS.out, fun _ => hn⟩
          subst hb'
          have HN1 := Lib.hid hn
          clear hn no yes hm
          go_wp2_with fail
          refine (rzero_any v10 m.S.s m.S.A m.S.n m.S.c m.S.e true (decide_eq_true HN1.out)).mono ?_
          rintro e' v15 ⟨rfl, j16⟩
          clear q12_0 q12_1 q12_2 q12_3 q12_4 q12_5 q12_6 q12_7 q12_8 q12_9 q12_10 q12_11 q12f
          try clear hw
          go_wp2
          go_ret
          exact ⟨rfl, (later j1 (later j5 (later j11 j16)))⟩
set_option maxHeartbeats 12800000 in
set_option maxRecDepth 100000 in
/-- headcountref15.Check. -/
theorem RCheckS_any (w : World) (m : Mv) (hR : MRows w 0 w.heap.size m) (b : Bool) (hb : badS [m] = b) :
    Calls Tryd.prog 17 #[.agg #[.bool m.S.s, .slice m.S.A m.S.n m.S.c, .int .i64 m.S.e, .bool m.W.s, .slice m.W.A m.W.n m.W.c, .int .i64 m.W.e, .bool m.C.s, .slice m.C.A m.C.n m.C.c, .int .i64 m.C.e, .bool m.A.s, .slice m.A.A m.A.n m.A.c, .int .i64 m.A.e]] w fun e w' => e = .returned (.int .i64 (if b then 8 else 0)) ∧ Below w.heap.size w w' := by
  have HB := Lib.hid hb
  clear hb
  have hM := heap_alloc_last w (.cells #[.bool m.S.s, .slice m.S.A m.S.n m.S.c, .int .i64 m.S.e, .bool m.W.s, .slice m.W.A m.W.n m.W.c, .int .i64 m.W.e, .bool m.C.s, .slice m.C.A m.C.n m.C.c, .int .i64 m.C.e, .bool m.A.s, .slice m.A.A m.A.n m.A.c, .int .i64 m.A.e] 26)
  have j1 := (Below.refl w.heap.size w).alloc (Nat.le_refl _) (.cells #[.bool m.S.s, .slice m.S.A m.S.n m.S.c, .int .i64 m.S.e, .bool m.W.s, .slice m.W.A m.W.n m.W.c, .int .i64 m.W.e, .bool m.C.s, .slice m.C.A m.C.n m.C.c, .int .i64 m.C.e, .bool m.A.s, .slice m.A.A m.A.n m.A.c, .int .i64 m.A.e] 26)
  have S1 : w.heap.size < (w.alloc (.cells #[.bool m.S.s, .slice m.S.A m.S.n m.S.c, .int .i64 m.S.e, .bool m.W.s, .slice m.W.A m.W.n m.W.c, .int .i64 m.W.e, .bool m.C.s, .slice m.C.A m.C.n m.C.c, .int .i64 m.C.e, .bool m.A.s, .slice m.A.A m.A.n m.A.c, .int .i64 m.A.e] 26)).heap.size := by simp
  generalize hw : w.alloc (.cells #[.bool m.S.s, .slice m.S.A m.S.n m.S.c, .int .i64 m.S.e, .bool m.W.s, .slice m.W.A m.W.n m.W.c, .int .i64 m.W.e, .bool m.C.s, .slice m.C.A m.C.n m.C.c, .int .i64 m.C.e, .bool m.A.s, .slice m.A.A m.A.n m.A.c, .int .i64 m.A.e] 26) = w1 at *
  replace hM : MBox w1 w.heap.size m := hM
  have Rm : MRows w1 0 w1.heap.size m := hR.on j1
  go_enter Tryd.func17, Tryd.ntmps17
  obtain ⟨⟨q17_0, q17_1, q17_2, q17_3, q17_4, q17_5, q17_6, q17_7, q17_8, q17_9, q17_10, q17_11⟩, q17f⟩ := MBox.cells hM
  go_wp2_with fail
  refine (RMayS_any w1 m Rm b HB.out).mono ?_
  rintro e' v18 ⟨rfl, j19⟩
  clear q17_0 q17_1 q17_2 q17_3 q17_4 q17_5 q17_6 q17_7 q17_8 q17_9 q17_10 q17_11 q17f
  try clear hw
  cases b
  · skip
    go_wp2
    go_ret
    exact ⟨rfl, (later j1 j19)⟩
  · skip
    go_wp2
    go_ret
    exact ⟨rfl, (later j1 j19)⟩
set_option maxHeartbeats 51200000 in
set_option maxRecDepth 100000 in
/-- headcountref15.Take. -/
theorem RTake_num (w : World) (m s : Mv) (hR : MRows w 0 w.heap.size m) (hS : MRows w 0 w.heap.size s) (T : Nat → Dn) (code : Int) (hg : takeM m s = (T, code)) :
    Calls Tryd.prog 14 #[.agg #[.bool m.S.s, .slice m.S.A m.S.n m.S.c, .int .i64 m.S.e, .bool m.W.s, .slice m.W.A m.W.n m.W.c, .int .i64 m.W.e, .bool m.C.s, .slice m.C.A m.C.n m.C.c, .int .i64 m.C.e, .bool m.A.s, .slice m.A.A m.A.n m.A.c, .int .i64 m.A.e], .agg #[.bool s.S.s, .slice s.S.A s.S.n s.S.c, .int .i64 s.S.e, .bool s.W.s, .slice s.W.A s.W.n s.W.c, .int .i64 s.W.e, .bool s.C.s, .slice s.C.A s.C.n s.C.c, .int .i64 s.C.e, .bool s.A.s, .slice s.A.A s.A.n s.A.c, .int .i64 s.A.e]] w fun e w' => ∃ a : Mv, e = .returned (.tuple #[.agg #[.bool a.S.s, .slice a.S.A a.S.n a.S.c, .int .i64 a.S.e, .bool a.W.s, .slice a.W.A a.W.n a.W.c, .int .i64 a.W.e, .bool a.C.s, .slice a.C.A a.C.n a.C.c, .int .i64 a.C.e, .bool a.A.s, .slice a.A.A a.A.n a.A.c, .int .i64 a.A.e], .int .i64 code]) ∧ Below w.heap.size w w' ∧ IsM T a ∧ MRows w' w.heap.size w'.heap.size a := by
  generalize hw1 : ((w.alloc (.cells #[.bool m.S.s, .slice m.S.A m.S.n m.S.c, .int .i64 m.S.e, .bool m.W.s, .slice m.W.A m.W.n m.W.c, .int .i64 m.W.e, .bool m.C.s, .slice m.C.A m.C.n m.C.c, .int .i64 m.C.e, .bool m.A.s, .slice m.A.A m.A.n m.A.c, .int .i64 m.A.e] 26)).alloc (.cells #[.bool s.S.s, .slice s.S.A s.S.n s.S.c, .int .i64 s.S.e, .bool s.W.s, .slice s.W.A s.W.n s.W.c, .int .i64 s.W.e, .bool s.C.s, .slice s.C.A s.C.n s.C.c, .int .i64 s.C.e, .bool s.A.s, .slice s.A.A s.A.n s.A.c, .int .i64 s.A.e] 26)).alloc (.cells #[.bool false, .slice none 0 0, .int .i64 0, .bool false, .slice none 0 0, .int .i64 0, .bool false, .slice none 0 0, .int .i64 0, .bool false, .slice none 0 0, .int .i64 0] 26) = w1
  obtain ⟨hM, hN, hZ, hBL, lo1, hi1⟩ := boxes3 w _ _ _ hw1
  replace hM : MBox w1 w.heap.size m := hM
  replace hN : MBox w1 (w.heap.size + 1) s := hN
  replace hZ : MBox w1 (w.heap.size + 1 + 1) ZM := hZ
  replace hBL : Below w.heap.size w w1 := hBL
  have Rm : MRows w1 0 w1.heap.size m := hR.on hBL
  have Rs : MRows w1 0 w1.heap.size s := hS.on hBL
  have HR := Lib.hid hg
  obtain ⟨b1, hb1⟩ : ∃ b, badS [m] = b := ⟨_, rfl⟩
  obtain ⟨b2, hb2⟩ : ∃ b, badS [s] = b := ⟨_, rfl⟩
  have HB1 := Lib.hid hb1
  have HB2 := Lib.hid hb2
  have TA : Hid (b1 = false → b2 = false → ∃ T', addM m (cutM s) = (T', code) ∧ ∀ x, x < 4 → T x = T' x) := Lib.hid fun h1 h2 => take_add hR (badS_two.2 ⟨badS_one.1 (hb1.trans h1), badS_one.1 (hb2.trans h2)⟩) hg
  have TB : Hid (b1 = true ∨ b2 = true → T = zR ∧ code = 8) := Lib.hid fun h => by
    have hh : badS [m, s] = true := by
      cases hc : badS [m, s]
      · obtain ⟨k1, k2⟩ := badS_two.1 hc
        rcases h with h | h
        · rw [← hb1, badS_one.2 k1] at h
          cases h
        · rw [← hb2, badS_one.2 k2] at h
          cases h
      · rfl
    unfold takeM at hg
    rw [if_pos hh] at hg
    injection hg with h1 h2
    exact ⟨h1.symm, h2.symm⟩
  clear hg hb1 hb2
  have M1 : w.heap.size < w1.heap.size := by omega
  have N1 : w.heap.size + 1 < w1.heap.size := by omega
  have Z1 : w.heap.size + 1 + 1 < w1.heap.size := by omega
  go_enter Tryd.func14, Tryd.ntmps14
  obtain ⟨⟨q20_0, q20_1, q20_2, q20_3, q20_4, q20_5, q20_6, q20_7, q20_8, q20_9, q20_10, q20_11⟩, q20f⟩ := MBox.cells hM
  go_wp2_with fail
  refine (RMayS_any w1 m Rm b1 HB1.out).mono ?_
  rintro e' v21 ⟨rfl, j22⟩
  clear q20_0 q20_1 q20_2 q20_3 q20_4 q20_5 q20_6 q20_7 q20_8 q20_9 q20_10 q20_11 q20f
  try clear hw
  try clear hw1
  cases b1
  rotate_left
  · skip
    obtain ⟨e1, e2⟩ := TB.out (.inl rfl)
    subst e1 e2
    clear TA TB HR
    obtain ⟨⟨q23_0, q23_1, q23_2, q23_3, q23_4, q23_5, q23_6, q23_7, q23_8, q23_9, q23_10, q23_11⟩, q23f⟩ := MBox.cells (box_later hZ j22 Z1)
    go_wp2
    obtain ⟨U, M, hc_, hMe, hX, hb_, _, _, _⟩ := zero_to (box_later hZ j22 Z1)
    rw [hc_]
    have hY := hb_ _ _ (later hBL j22) (by omega)
    clear q23_0 q23_1 q23_2 q23_3 q23_4 q23_5 q23_6 q23_7 q23_8 q23_9 q23_10 q23_11 q23f
    clear hc_
    obtain ⟨⟨k0, k1, k2, k3, k4, k5, k6, k7, k8, k9, k10, k11⟩, kf⟩ := MBox.cells hX
    refine bodyPost_ret (v := .tuple #[.agg #[.bool M.S.s, .slice M.S.A M.S.n M.S.c, .int .i64 M.S.e, .bool M.W.s, .slice M.W.A M.W.n M.W.c, .int .i64 M.W.e, .bool M.C.s, .slice M.C.A M.C.n M.C.c, .int .i64 M.C.e, .bool M.A.s, .slice M.A.A M.A.n M.A.c, .int .i64 M.A.e], .int .i64 8]) (by simp [results, Tryd.results14, go_sem, k0, k1, k2, k3, k4, k5, k6, k7, k8, k9, k10, k11]) rfl ⟨M, rfl, hY, ?_, ?_⟩
    · rw [hMe]
      exact IsM.zero
    · rw [hMe]
      exact ZM_rows ..
  · skip
    replace TA := Lib.hid (TA.out rfl)
    replace TB : Hid (b2 = true → T = zR ∧ code = 8) := Lib.hid fun h => TB.out (.inr h)
    obtain ⟨⟨q24_0, q24_1, q24_2, q24_3, q24_4, q24_5, q24_6, q24_7, q24_8, q24_9, q24_10, q24_11⟩, q24f⟩ := MBox.cells (box_later hN j22 N1)
    go_wp2_with fail
    refine (RMayS_any v21 s (MRows.on Rs j22) b2 HB2.out).mono ?_
    rintro e' v25 ⟨rfl, j26⟩
    clear q24_0 q24_1 q24_2 q24_3 q24_4 q24_5 q24_6 q24_7 q24_8 q24_9 q24_10 q24_11 q24f
    try clear hw
    cases b2
    rotate_left
    · skip
      obtain ⟨e1, e2⟩ := TB.out rfl
      subst e1 e2
      clear TA TB HR
      obtain ⟨⟨q27_0, q27_1, q27_2, q27_3, q27_4, q27_5, q27_6, q27_7, q27_8, q27_9, q27_10, q27_11⟩, q27f⟩ := MBox.cells (box_later hZ (later j22 j26) Z1)
      go_wp2
      obtain ⟨U, M, hc_, hMe, hX, hb_, _, _, _⟩ := zero_to (box_later hZ (later j22 j26) Z1)
      rw [hc_]
      have hY := hb_ _ _ (later hBL (later j22 j26)) (by omega)
      clear q27_0 q27_1 q27_2 q27_3 q27_4 q27_5 q27_6 q27_7 q27_8 q27_9 q27_10 q27_11 q27f
      clear hc_
      obtain ⟨⟨k0, k1, k2, k3, k4, k5, k6, k7, k8, k9, k10, k11⟩, kf⟩ := MBox.cells hX
      refine bodyPost_ret (v := .tuple #[.agg #[.bool M.S.s, .slice M.S.A M.S.n M.S.c, .int .i64 M.S.e, .bool M.W.s, .slice M.W.A M.W.n M.W.c, .int .i64 M.W.e, .bool M.C.s, .slice M.C.A M.C.n M.C.c, .int .i64 M.C.e, .bool M.A.s, .slice M.A.A M.A.n M.A.c, .int .i64 M.A.e], .int .i64 8]) (by simp [results, Tryd.results14, go_sem, k0, k1, k2, k3, k4, k5, k6, k7, k8, k9, k10, k11]) rfl ⟨M, rfl, hY, ?_, ?_⟩
      · rw [hMe]
        exact IsM.zero
      · rw [hMe]
        exact ZM_rows ..
    · skip
      obtain ⟨T', h1, h2⟩ := TA.out rfl
      have H1 := Lib.hid h1
      have H2 := Lib.hid h2
      clear h1 h2 TA TB HR
      obtain ⟨⟨q28_0, q28_1, q28_2, q28_3, q28_4, q28_5, q28_6, q28_7, q28_8, q28_9, q28_10, q28_11⟩, q28f⟩ := MBox.cells (box_later hM (later j22 j26) M1)
      obtain ⟨⟨q29_0, q29_1, q29_2, q29_3, q29_4, q29_5, q29_6, q29_7, q29_8, q29_9, q29_10, q29_11⟩, q29f⟩ := MBox.cells (box_later hN (later j22 j26) N1)
      go_wp2_with fail
      refine (RAdd_num v25 m (cutM s) (MRows.on Rm (later j22 j26)) (cutM_rows (MRows.on Rs (later j22 j26))) T' code H1.out).mono ?_
      rintro e' v30 ⟨x, rfl, j31, ix, Rx⟩
      clear q28_0 q28_1 q28_2 q28_3 q28_4 q28_5 q28_6 q28_7 q28_8 q28_9 q28_10 q28_11 q28f q29_0 q29_1 q29_2 q29_3 q29_4 q29_5 q29_6 q29_7 q29_8 q29_9 q29_10 q29_11 q29f
      try clear hw
      replace ix := Lib.hid ix
      obtain ⟨W9, hw9, hX, j9, S9⟩ := alloc_m v30 x
      replace Rx := Rx.below j9 (Nat.le_refl _)
      obtain ⟨⟨q32_0, q32_1, q32_2, q32_3, q32_4, q32_5, q32_6, q32_7, q32_8, q32_9, q32_10, q32_11⟩, q32f⟩ := MBox.cells (box_later hZ (later j22 (later j26 j31)) Z1)
      clear q32_0 q32_1 q32_2 q32_3 q32_4 q32_5 q32_6 q32_7 q32_8 q32_9 q32_10 q32_11 q32f
      obtain ⟨⟨q33_0, q33_1, q33_2, q33_3, q33_4, q33_5, q33_6, q33_7, q33_8, q33_9, q33_10, q33_11⟩, q33f⟩ := MBox.cells hX
      obtain ⟨⟨q34_0, q34_1, q34_2, q34_3, q34_4, q34_5, q34_6, q34_7, q34_8, q34_9, q34_10, q34_11⟩, q34f⟩ := MBox.cells (box_later hZ (later j22 (later j26 (later j31 j9))) Z1)
      go_wp2
      have zz1 : w.heap.size ≤ w1.heap.size := Below.size hBL
      have zz2 : w1.heap.size ≤ v21.heap.size := Below.size j22
      have zz3 : v21.heap.size ≤ v25.heap.size := Below.size j26
      have zz4 : v25.heap.size ≤ v30.heap.size := Below.size j31
      have zz5 : v30.heap.size ≤ W9.heap.size := Below.size j9
      obtain ⟨U, hc_, hY, hb_, hf_, l5, l5'⟩ := all_to (box_later hZ (later j22 (later j26 (later j31 j9))) Z1) x
      rw [hc_]
      clear hc_
      have bF := hb_ _ _ (later hBL (later j22 (later j26 (later j31 j9)))) (by omega)
      clear q33_0 q33_1 q33_2 q33_3 q33_4 q33_5 q33_6 q33_7 q33_8 q33_9 q33_10 q33_11 q33f q34_0 q34_1 q34_2 q34_3 q34_4 q34_5 q34_6 q34_7 q34_8 q34_9 q34_10 q34_11 q34f
      replace Rx := rows_rng Rx (w' := U) (fun b h1 h2 => hf_ b (by omega))
      obtain ⟨⟨k0, k1, k2, k3, k4, k5, k6, k7, k8, k9, k10, k11⟩, kf⟩ := MBox.cells hY
      exact bodyPost_ret (v := .tuple #[.agg #[.bool x.S.s, .slice x.S.A x.S.n x.S.c, .int .i64 x.S.e, .bool x.W.s, .slice x.W.A x.W.n x.W.c, .int .i64 x.W.e, .bool x.C.s, .slice x.C.A x.C.n x.C.c, .int .i64 x.C.e, .bool x.A.s, .slice x.A.A x.A.n x.A.c, .int .i64 x.A.e], .int .i64 code]) (by simp [results, Tryd.results14, go_sem, k0, k1, k2, k3, k4, k5, k6, k7, k8, k9, k10, k11]) rfl ⟨x, rfl, bF, ix.out.of_eq H2.out, Rx.more (by omega) (by omega)⟩
set_option maxHeartbeats 51200000 in
set_option maxRecDepth 100000 in
theorem RGive_num (w : World) (m : Mv) (hR : MRows w 0 w.heap.size m) (kR sR : Nat → Dn) (code : Int) (hg : giveM m = ((kR, sR), code)) :
    Calls Tryd.prog 12 #[.agg #[.bool m.S.s, .slice m.S.A m.S.n m.S.c, .int .i64 m.S.e, .bool m.W.s, .slice m.W.A m.W.n m.W.c, .int .i64 m.W.e, .bool m.C.s, .slice m.C.A m.C.n m.C.c, .int .i64 m.C.e, .bool m.A.s, .slice m.A.A m.A.n m.A.c, .int .i64 m.A.e]] w fun e w' => ∃ k s : Mv, e = .returned (.tuple #[.agg #[.bool k.S.s, .slice k.S.A k.S.n k.S.c, .int .i64 k.S.e, .bool k.W.s, .slice k.W.A k.W.n k.W.c, .int .i64 k.W.e, .bool k.C.s, .slice k.C.A k.C.n k.C.c, .int .i64 k.C.e, .bool k.A.s, .slice k.A.A k.A.n k.A.c, .int .i64 k.A.e], .agg #[.bool s.S.s, .slice s.S.A s.S.n s.S.c, .int .i64 s.S.e, .bool s.W.s, .slice s.W.A s.W.n s.W.c, .int .i64 s.W.e, .bool s.C.s, .slice s.C.A s.C.n s.C.c, .int .i64 s.C.e, .bool s.A.s, .slice s.A.A s.A.n s.A.c, .int .i64 s.A.e], .int .i64 code]) ∧ Below w.heap.size w w' ∧ IsM kR k ∧ IsM sR s ∧ ∃ B, w.heap.size ≤ B ∧ B ≤ w'.heap.size ∧ MRows w' w.heap.size B k ∧ MRows w' B w'.heap.size s := by
  generalize hw1 : ((w.alloc (.cells #[.bool m.S.s, .slice m.S.A m.S.n m.S.c, .int .i64 m.S.e, .bool m.W.s, .slice m.W.A m.W.n m.W.c, .int .i64 m.W.e, .bool m.C.s, .slice m.C.A m.C.n m.C.c, .int .i64 m.C.e, .bool m.A.s, .slice m.A.A m.A.n m.A.c, .int .i64 m.A.e] 26)).alloc (.cells #[.bool false, .slice none 0 0, .int .i64 0, .bool false, .slice none 0 0, .int .i64 0, .bool false, .slice none 0 0, .int .i64 0, .bool false, .slice none 0 0, .int .i64 0] 26)).alloc (.cells #[.bool false, .slice none 0 0, .int .i64 0, .bool false, .slice none 0 0, .int .i64 0, .bool false, .slice none 0 0, .int .i64 0, .bool false, .slice none 0 0, .int .i64 0] 26) = w1
  obtain ⟨hM, hZ, hY, hBL, lo1, hi1⟩ := boxes3 w _ _ _ hw1
  replace hM : MBox w1 w.heap.size m := hM
  replace hZ : MBox w1 (w.heap.size + 1) ZM := hZ
  replace hY : MBox w1 (w.heap.size + 1 + 1) ZM := hY
  replace hBL : Below w.heap.size w w1 := hBL
  have Rm : MRows w1 0 w1.heap.size m := hR.on hBL
  have HR := Lib.hid hg
  have mK := Lib.hid (give_may hR hg)
  clear hg
  obtain ⟨b, hb⟩ : ∃ b, badS [m] = b := ⟨_, rfl⟩
  have HB := Lib.hid hb
  clear hb
  have M1 : w.heap.size < w1.heap.size := by omega
  have Z1 : w.heap.size + 1 < w1.heap.size := by omega
  have Y1 : w.heap.size + 1 + 1 < w1.heap.size := by omega
  go_enter Tryd.func12, Tryd.ntmps12
  obtain ⟨⟨q35_0, q35_1, q35_2, q35_3, q35_4, q35_5, q35_6, q35_7, q35_8, q35_9, q35_10, q35_11⟩, q35f⟩ := MBox.cells hM
  go_wp2_with fail
  refine (RMayS_any w1 m Rm b HB.out).mono ?_
  rintro e' v36 ⟨rfl, j37⟩
  clear q35_0 q35_1 q35_2 q35_3 q35_4 q35_5 q35_6 q35_7 q35_8 q35_9 q35_10 q35_11 q35f
  try clear hw
  try clear hw1
  cases b
  rotate_left
  · skip
    have hcode : ((zR, zR), (8 : Int)) = ((kR, sR), code) := by
      rw [← HR.out]
      unfold giveM
      rw [if_pos HB.out]
    injection hcode with h1 h2
    injection h1 with h1 h3
    subst h1 h2 h3
    obtain ⟨⟨q38_0, q38_1, q38_2, q38_3, q38_4, q38_5, q38_6, q38_7, q38_8, q38_9, q38_10, q38_11⟩, q38f⟩ := MBox.cells (box_later hZ j37 Z1)
    obtain ⟨⟨q39_0, q39_1, q39_2, q39_3, q39_4, q39_5, q39_6, q39_7, q39_8, q39_9, q39_10, q39_11⟩, q39f⟩ := MBox.cells (box_later hY j37 Y1)
    go_wp2
    obtain ⟨U1, M1, hc1, hM1, hX1, hb1, hf1, _, _⟩ := zero_to (box_later hZ j37 Z1)
    rw [hc1]
    obtain ⟨U, M, hc2, hMe, hX2, hb2, hf2, _, _⟩ := zero_to (show MBox U1 (w.heap.size + 1 + 1) _ from (hf1 _ (by omega)).trans (box_later hY j37 Y1))
    rw [hc2]
    replace hX1 : MBox U (w.heap.size + 1) M := by rw [hMe, ← hM1]; exact (hf2 _ (by omega)).trans hX1
    have hQ := hb2 _ _ (hb1 _ _ (later hBL j37) (by omega)) (by omega)
    clear q38_0 q38_1 q38_2 q38_3 q38_4 q38_5 q38_6 q38_7 q38_8 q38_9 q38_10 q38_11 q38f q39_0 q39_1 q39_2 q39_3 q39_4 q39_5 q39_6 q39_7 q39_8 q39_9 q39_10 q39_11 q39f
    clear hc1 hc2
    obtain ⟨⟨k0, k1, k2, k3, k4, k5, k6, k7, k8, k9, k10, k11⟩, kf⟩ := MBox.cells hX1
    obtain ⟨⟨y0, y1, y2, y3, y4, y5, y6, y7, y8, y9, y10, y11⟩, yf⟩ := MBox.cells hX2
    refine bodyPost_ret (v := .tuple #[.agg #[.bool M.S.s, .slice M.S.A M.S.n M.S.c, .int .i64 M.S.e, .bool M.W.s, .slice M.W.A M.W.n M.W.c, .int .i64 M.W.e, .bool M.C.s, .slice M.C.A M.C.n M.C.c, .int .i64 M.C.e, .bool M.A.s, .slice M.A.A M.A.n M.A.c, .int .i64 M.A.e], .agg #[.bool M.S.s, .slice M.S.A M.S.n M.S.c, .int .i64 M.S.e, .bool M.W.s, .slice M.W.A M.W.n M.W.c, .int .i64 M.W.e, .bool M.C.s, .slice M.C.A M.C.n M.C.c, .int .i64 M.C.e, .bool M.A.s, .slice M.A.A M.A.n M.A.c, .int .i64 M.A.e], .int .i64 8]) (by simp [results, Tryd.results12, go_sem, k0, k1, k2, k3, k4, k5, k6, k7, k8, k9, k10, k11, y0, y1, y2, y3, y4, y5, y6, y7, y8, y9, y10, y11]) rfl ⟨M, M, rfl, hQ, ?_⟩
    rw [hMe]
    exact ⟨IsM.zero, IsM.zero, w.heap.size, Nat.le_refl _, hQ.size, ZM_rows .., ZM_rows ..⟩
  · skip
    by_cases hn : m.W.n = 0
    · skip
      have hcode : ((zR, zR), (6 : Int)) = ((kR, sR), code) := by
        rw [← HR.out]
        unfold giveM
        rw [if_neg (by rw [HB.out]; simp), if_pos hn]
      injection hcode with h1 h2
      injection h1 with h1 h3
      subst h1 h2 h3
      have HN := Lib.hid hn
      clear hn HR
      obtain ⟨⟨q40_0, q40_1, q40_2, q40_3, q40_4, q40_5, q40_6, q40_7, q40_8, q40_9, q40_10, q40_11⟩, q40f⟩ := MBox.cells (box_later hM j37 M1)
      go_wp2_with fail
      refine (rzero_any v36 m.W.s m.W.A m.W.n m.W.c m.W.e true (decide_eq_true HN.out)).mono ?_
      rintro e' v41 ⟨rfl, j42⟩
      clear q40_0 q40_1 q40_2 q40_3 q40_4 q40_5 q40_6 q40_7 q40_8 q40_9 q40_10 q40_11 q40f
      try clear hw
      obtain ⟨⟨q43_0, q43_1, q43_2, q43_3, q43_4, q43_5, q43_6, q43_7, q43_8, q43_9, q43_10, q43_11⟩, q43f⟩ := MBox.cells (box_later hZ (later j37 j42) Z1)
      obtain ⟨⟨q44_0, q44_1, q44_2, q44_3, q44_4, q44_5, q44_6, q44_7, q44_8, q44_9, q44_10, q44_11⟩, q44f⟩ := MBox.cells (box_later hY (later j37 j42) Y1)
      go_wp2
      obtain ⟨U1, M1, hc1, hM1, hX1, hb1, hf1, _, _⟩ := zero_to (box_later hZ (later j37 j42) Z1)
      rw [hc1]
      obtain ⟨U, M, hc2, hMe, hX2, hb2, hf2, _, _⟩ := zero_to (show MBox U1 (w.heap.size + 1 + 1) _ from (hf1 _ (by omega)).trans (box_later hY (later j37 j42) Y1))
      rw [hc2]
      replace hX1 : MBox U (w.heap.size + 1) M := by rw [hMe, ← hM1]; exact (hf2 _ (by omega)).trans hX1
      have hQ := hb2 _ _ (hb1 _ _ (later hBL (later j37 j42)) (by omega)) (by omega)
      clear q43_0 q43_1 q43_2 q43_3 q43_4 q43_5 q43_6 q43_7 q43_8 q43_9 q43_10 q43_11 q43f q44_0 q44_1 q44_2 q44_3 q44_4 q44_5 q44_6 q44_7 q44_8 q44_9 q44_10 q44_11 q44f
      clear hc1 hc2
      obtain ⟨⟨k0, k1, k2, k3, k4, k5, k6, k7, k8, k9, k10, k11⟩, kf⟩ := MBox.cells hX1
      obtain ⟨⟨y0, y1, y2, y3, y4, y5, y6, y7, y8, y9, y10, y11⟩, yf⟩ := MBox.cells hX2
      refine bodyPost_ret (v := .tuple #[.agg #[.bool M.S.s, .slice M.S.A M.S.n M.S.c, .int .i64 M.S.e, .bool M.W.s, .slice M.W.A M.W.n M.W.c, .int .i64 M.W.e, .bool M.C.s, .slice M.C.A M.C.n M.C.c, .int .i64 M.C.e, .bool M.A.s, .slice M.A.A M.A.n M.A.c, .int .i64 M.A.e], .agg #[.bool M.S.s, .slice M.S.A M.S.n M.S.c, .int .i64 M.S.e, .bool M.W.s, .slice M.W.A M.W.n M.W.c, .int .i64 M.W.e, .bool M.C.s, .slice M.C.A M.C.n M.C.c, .int .i64 M.C.e, .bool M.A.s, .slice M.A.A M.A.n M.A.c, .int .i64 M.A.e], .int .i64 6]) (by simp [results, Tryd.results12, go_sem, k0, k1, k2, k3, k4, k5, k6, k7, k8, k9, k10, k11, y0, y1, y2, y3, y4, y5, y6, y7, y8, y9, y10, y11]) rfl ⟨M, M, rfl, hQ, ?_⟩
      rw [hMe]
      exact ⟨IsM.zero, IsM.zero, w.heap.size, Nat.le_refl _, hQ.size, ZM_rows .., ZM_rows ..⟩
    · skip
      have hS : splitM m = ((kR, sR), code) := by
        rw [← HR.out]
        unfold giveM
        rw [if_neg (by rw [HB.out]; simp), if_neg hn]
      have HN := Lib.hid hn
      have HS := Lib.hid hS
      clear hn hS HR
      obtain ⟨⟨q45_0, q45_1, q45_2, q45_3, q45_4, q45_5, q45_6, q45_7, q45_8, q45_9, q45_10, q45_11⟩, q45f⟩ := MBox.cells (box_later hM j37 M1)
      go_wp2_with fail
      refine (rzero_any v36 m.W.s m.W.A m.W.n m.W.c m.W.e false (decide_eq_false HN.out)).mono ?_
      rintro e' v46 ⟨rfl, j47⟩
      clear q45_0 q45_1 q45_2 q45_3 q45_4 q45_5 q45_6 q45_7 q45_8 q45_9 q45_10 q45_11 q45f
      try clear hw
      obtain ⟨⟨q48_0, q48_1, q48_2, q48_3, q48_4, q48_5, q48_6, q48_7, q48_8, q48_9, q48_10, q48_11⟩, q48f⟩ := MBox.cells (box_later hM (later j37 j47) M1)
      go_wp2_with fail
      refine (RSplit_num v46 m (MRows.on Rm (later j37 j47)) (Nat.le_refl _) kR sR code HS.out).mono ?_
      rintro e' v49 ⟨k0, s0, rfl, j50, ik, is, Rk, Rs⟩
      clear q48_0 q48_1 q48_2 q48_3 q48_4 q48_5 q48_6 q48_7 q48_8 q48_9 q48_10 q48_11 q48f
      try clear hw
      have Rk0 := Rk.rows j50.size (Nat.le_refl _)
      clear Rk
      have Rk := Rk0
      clear Rk0
      replace Rs := Rs.more (Nat.zero_le _) (Nat.le_refl _)
      have nk := isM_n Rk ik mK.out.1
      have ns := isM_n Rs is mK.out.2
      replace is := Lib.hid is
      replace ik := Lib.hid ik
      obtain ⟨W9, hw9, hX1, hX2, j9, S9⟩ := alloc_mm v49 k0 s0
      replace Rk := MRows.on Rk j9
      replace Rs := MRows.on Rs j9
      have T1 : v49.heap.size < W9.heap.size := by omega
      have T2 : v49.heap.size + 1 < W9.heap.size := by omega
      have X1 := hX1
      have X2 := hX2
      clear hX1 hX2
      go_wp2_with fail
      have zz1 : w.heap.size ≤ w1.heap.size := Below.size hBL
      have zz2 : w1.heap.size ≤ v36.heap.size := Below.size j37
      have zz3 : v36.heap.size ≤ v46.heap.size := Below.size j47
      have zz4 : v46.heap.size ≤ v49.heap.size := Below.size j50
      have zz5 : v49.heap.size ≤ W9.heap.size := Below.size j9
      try clear hw9
      refine region_E (fun v => ∀ p, v49.heap.size ≤ p → p < W9.heap.size → v.heap[p]? = W9.heap[p]?) [] (m := 8) (L := #[false, false, false, false, false, false, false, false]) (by kernel_rfl) (by rfl) (by rfl) ?_
      have j52 : Below W9.heap.size W9 W9.drew := (Below.refl _ _).drew
      generalize W9.drew = v51 at *
      have kp_ : (fun v => ∀ p, v49.heap.size ≤ p → p < W9.heap.size → v.heap[p]? = W9.heap[p]?) v51 := fun p _ hp => Below.block j52 p hp
      refine readE (i := 0) (L := #[true, false, false, false, false, false, false, false]) (v := .agg #[.bool k0.S.s, .slice k0.S.A k0.S.n k0.S.c, .int .i64 k0.S.e, .bool k0.W.s, .slice k0.W.A k0.W.n k0.W.c, .int .i64 k0.W.e, .bool k0.C.s, .slice k0.C.A k0.C.n k0.C.c, .int .i64 k0.C.e, .bool k0.A.s, .slice k0.A.A k0.A.n k0.A.c, .int .i64 k0.A.e]) rfl (by rfl) (by kernel_rfl) (by kernel_rfl) (by kernel_rfl) (fun _ _ _ h => h) (by assumption) (by rfl) ?yx0_ ?zx0_
      case yx0_ =>
        intro w' h1
        obtain ⟨⟨k0, k1, k2, k3, k4, k5, k6, k7, k8, k9, k10, k11⟩, kf⟩ := MBox.cells ((h1 _ (by omega) T1).trans X1)
        go_simp
      try simp only [Act.put, List.setIfInBounds_toArray, List.set_cons_zero, List.set_cons_succ]
      refine readE (i := 2) (L := #[true, false, true, false, false, false, false, false]) (v := .agg #[.bool s0.S.s, .slice s0.S.A s0.S.n s0.S.c, .int .i64 s0.S.e, .bool s0.W.s, .slice s0.W.A s0.W.n s0.W.c, .int .i64 s0.W.e, .bool s0.C.s, .slice s0.C.A s0.C.n s0.C.c, .int .i64 s0.C.e, .bool s0.A.s, .slice s0.A.A s0.A.n s0.A.c, .int .i64 s0.A.e]) rfl (by rfl) (by kernel_rfl) (by kernel_rfl) (by kernel_rfl) (fun _ _ _ h => h) (by assumption) (by rfl) ?yx2_ ?zx2_
      case yx2_ =>
        intro w' h1
        obtain ⟨⟨k0, k1, k2, k3, k4, k5, k6, k7, k8, k9, k10, k11⟩, kf⟩ := MBox.cells ((h1 _ (by omega) T2).trans X2)
        go_simp
      try simp only [Act.put, List.setIfInBounds_toArray, List.set_cons_zero, List.set_cons_succ]
      refine pureE (i := 4) (L := #[true, false, true, false, true, false, false, false]) (v := ?_) rfl (by rfl) (by kernel_rfl) (by kernel_rfl) (by kernel_rfl) (fun _ _ _ h => h) (by rfl) ?hy3 ?rest3
      case hy3 => intro w; go_simp; (try with_reducible rfl)
      try simp only [Act.put, List.setIfInBounds_toArray, List.set_cons_zero, List.set_cons_succ]
      replace Rk := MRows.on Rk j52
      replace Rs := MRows.on Rs j52
      refine stepK (i := 1) (L := #[true, true, true, false, true, false, false, false]) rfl (by rfl) (by kernel_rfl) (by rfl) (fun K hK => ?_)
      go_simp
      go_at_call 10
      refine (RTwinM_any v51 k0 Rk nk).mono ?_
      rintro e' v53 ⟨o, rfl, hto, j54, Ro⟩
      replace hto := Lib.hid hto
      refine hK _ _ ⟨fun _ _ => fun p _ hp => Below.block (later j52 j54) p hp, ?_⟩
      clear hK K
      try simp only [Act.put, List.setIfInBounds_toArray, List.set_cons_zero, List.set_cons_succ]
      replace Rs := MRows.on Rs j54
      clear Rk nk
      refine stepK (i := 3) (L := #[true, true, true, true, true, false, false, false]) rfl (by rfl) (by kernel_rfl) (by rfl) (fun K hK => ?_)
      go_simp
      go_at_call 10
      refine (RTwinM_any v53 s0 Rs ns).mono ?_
      rintro e' v55 ⟨k, rfl, htk, j56, Rk⟩
      replace htk := Lib.hid htk
      refine hK _ _ ⟨fun _ _ => fun p _ hp => Below.block (later j52 (later j54 j56)) p hp, ?_⟩
      clear hK K
      try simp only [Act.put, List.setIfInBounds_toArray, List.set_cons_zero, List.set_cons_succ]
      replace Ro := Ro.below j56 (Nat.le_refl _)
      clear Rs ns
      have zy6 : W9.heap.size ≤ v51.heap.size := Below.size j52
      have zy7 : v51.heap.size ≤ v53.heap.size := Below.size j54
      have zy8 : v53.heap.size ≤ v55.heap.size := Below.size j56
      have hO3 : MBox v55 (w.heap.size + 1) ZM := (box_later hZ (later j37 (later j47 (later j50 (later j9 (later j52 (later j54 j56)))))) Z1)
      have hY3 : MBox v55 (w.heap.size + 1 + 1) ZM := (box_later hY (later j37 (later j47 (later j50 (later j9 (later j52 (later j54 j56)))))) Y1)
      have b_ : Below w.heap.size w v55 := (later hBL (later j37 (later j47 (later j50 (later j9 (later j52 (later j54 j56)))))))
      obtain ⟨⟨k0, k1, k2, k3, k4, k5, k6, k7, k8, k9, k10, k11⟩, kf⟩ := MBox.cells hO3
      refine stepK (i := 5) (L := #[true, true, true, true, true, true, false, false]) rfl (by rfl) (by kernel_rfl) (by rfl) (fun K hK => ?_)
      go_simp
      obtain ⟨w5, hc_, hX, hb_, hf_, l5, l5'⟩ := all_to hO3 o
      rw [hc_]
      clear hc_ k0 k1 k2 k3 k4 k5 k6 k7 k8 k9 k10 k11 kf
      refine hK _ _ ⟨fun _ hs p h1 h2 => (hf_ p (by omega)).trans (hs p h1 h2), ?_⟩
      clear hK K
      try simp only [Act.put, List.setIfInBounds_toArray, List.set_cons_zero, List.set_cons_succ]
      replace b_ := hb_ _ _ b_ (by omega)
      replace hY3 : MBox w5 (w.heap.size + 1 + 1) ZM := (hf_ _ (by omega)).trans hY3
      replace Ro := rows_rng Ro (w' := w5) (fun b h1 h2 => hf_ b (by omega))
      replace Rk := rows_rng Rk (w' := w5) (fun b h1 h2 => hf_ b (by omega))
      clear hb_ hf_ hO3
      obtain ⟨⟨k0, k1, k2, k3, k4, k5, k6, k7, k8, k9, k10, k11⟩, kf⟩ := MBox.cells hY3
      refine stepK (i := 6) (L := #[true, true, true, true, true, true, true, false]) rfl (by rfl) (by kernel_rfl) (by rfl) (fun K hK => ?_)
      go_simp
      obtain ⟨w6, hc_, hX2, hb_, hf_, l6, l6'⟩ := all_to hY3 k
      rw [hc_]
      clear hc_ k0 k1 k2 k3 k4 k5 k6 k7 k8 k9 k10 k11 kf
      refine hK _ _ ⟨fun _ hs p h1 h2 => (hf_ p (by omega)).trans (hs p h1 h2), ?_⟩
      clear hK K
      try simp only [Act.put, List.setIfInBounds_toArray, List.set_cons_zero, List.set_cons_succ]
      replace b_ := hb_ _ _ b_ (by omega)
      replace hX : MBox w6 (w.heap.size + 1) o := (hf_ _ (by omega)).trans hX
      replace Ro := rows_rng Ro (w' := w6) (fun b h1 h2 => hf_ b (by omega))
      replace Rk := rows_rng Rk (w' := w6) (fun b h1 h2 => hf_ b (by omega))
      clear hb_ hf_ hY3
      refine pureE (i := 7) (L := #[true, true, true, true, true, true, true, true]) (v := ?_) rfl (by rfl) (by kernel_rfl) (by kernel_rfl) (by kernel_rfl) (fun _ _ _ h => h) (by rfl) ?hy8 ?rest8
      case hy8 => intro w; go_simp; (try with_reducible rfl)
      try simp only [Act.put, List.setIfInBounds_toArray, List.set_cons_zero, List.set_cons_succ]
      refine doneE (by kernel_rfl) ?_ _
      go_wp2
      obtain ⟨⟨k0, k1, k2, k3, k4, k5, k6, k7, k8, k9, k10, k11⟩, kf⟩ := MBox.cells hX
      obtain ⟨⟨y0, y1, y2, y3, y4, y5, y6, y7, y8, y9, y10, y11⟩, yf⟩ := MBox.cells hX2
      exact bodyPost_ret (v := .tuple #[.agg #[.bool o.S.s, .slice o.S.A o.S.n o.S.c, .int .i64 o.S.e, .bool o.W.s, .slice o.W.A o.W.n o.W.c, .int .i64 o.W.e, .bool o.C.s, .slice o.C.A o.C.n o.C.c, .int .i64 o.C.e, .bool o.A.s, .slice o.A.A o.A.n o.A.c, .int .i64 o.A.e], .agg #[.bool k.S.s, .slice k.S.A k.S.n k.S.c, .int .i64 k.S.e, .bool k.W.s, .slice k.W.A k.W.n k.W.c, .int .i64 k.W.e, .bool k.C.s, .slice k.C.A k.C.n k.C.c, .int .i64 k.C.e, .bool k.A.s, .slice k.A.A k.A.n k.A.c, .int .i64 k.A.e], .int .i64 code]) (by simp [results, Tryd.results12, go_sem, k0, k1, k2, k3, k4, k5, k6, k7, k8, k9, k10, k11, y0, y1, y2, y3, y4, y5, y6, y7, y8, y9, y10, y11]) rfl ⟨o, k, rfl, b_, ik.out.twin hto.out, is.out.twin htk.out, v53.heap.size, by omega, by omega, Ro.more (by omega) (Nat.le_refl _), Rk.more (Nat.le_refl _) (by omega)⟩
end Ma
end Go.Proofs.YtbbnbgllgomolaaDoor
namespace Go.Proofs.YtbbnbgllgomolaaDoor
open Go.RowKit
namespace Dy
open Dp
/-- Cells that may be written. -/
def WrS (w : World) (b off n : Nat) : Prop := ∀ j, j < n → (∃ u, w.cell? ⟨b, off + j, none⟩ = some u) ∧ w.frozen? ⟨b, off + j, none⟩ = false
theorem WrS.set_ {w : World} {b off n : Nat} (h : WrS w b off n) (p : Addr) (v : Value) : WrS (w.setCell p v) b off n := fun j hj => by
  obtain ⟨⟨u, h1⟩, h2⟩ := h j hj
  refine ⟨?_, by rw [World.frozen?_setCell]; exact h2⟩
  by_cases e : p = ⟨b, off + j, none⟩
  · subst e
    exact ⟨v, World.cell?_setCell_same' _ _ _ (by rw [h1]; rfl)⟩
  · exact ⟨u, (World.cell?_setCell_other _ _ _ _ e).trans h1⟩
theorem WrS.blk {w w' : World} {b off n : Nat} (h : WrS w b off n) (hk : w'.heap[b]? = w.heap[b]?) : WrS w' b off n := fun j hj => by
  obtain ⟨⟨u, h1⟩, h2⟩ := h j hj
  exact ⟨⟨u, by rw [World.cell?_of_block hk]; exact h1⟩, by rw [World.frozen?_of_block hk]; exact h2⟩
/-- A row that may be written. -/
def WrR (w : World) (lo hi : Nat) (A : Option Addr) (n : Nat) : Prop := 0 < n → ∃ b off, A = some ⟨b, off, none⟩ ∧ lo ≤ b ∧ b < hi ∧ WrS w b off n
theorem WrR.of {w : World} {lo hi n : Nat} {A : Option Addr} {xs : List Int} (h : Ints w lo hi .u32 A n xs) : WrR w lo hi A n := fun h0 => by
  obtain ⟨b, off, e, h1, h2, hc⟩ := h.row h0
  exact ⟨b, off, e, h1, h2, fun j hj => ⟨⟨_, (hc j hj).1⟩, (hc j hj).2⟩⟩
theorem WrR.below {w w' : World} {lo hi B n : Nat} {A : Option Addr} (h : WrR w lo hi A n) (hb : Below B w w') (hB : hi ≤ B) : WrR w' lo hi A n := fun h0 => by
  obtain ⟨b, off, e, h1, h2, hW⟩ := h h0
  exact ⟨b, off, e, h1, h2, hW.blk (hb.block b (by omega))⟩
theorem WrR.keep {w w' : World} {lo hi n : Nat} {A : Option Addr} (h : WrR w lo hi A n) (hk : ∀ b off k, WrS w b off k → WrS w' b off k) : WrR w' lo hi A n := fun h0 => by
  obtain ⟨b, off, e, h1, h2, hW⟩ := h h0
  exact ⟨b, off, e, h1, h2, hk _ _ _ hW⟩
set_option maxHeartbeats 1600000 in
set_option maxRecDepth 100000 in
/-- headcountlaw15.spoil: just the row's own range is written. -/
theorem spoil15_any (w : World) (s : Bool) (A : Option Addr) (n c : Nat) (ex : Int) (lo hi : Nat) (h : WrR w lo hi A n) (hn : n ≤ 1000000) (hhi : hi ≤ w.heap.size) (hlo : lo ≤ w.heap.size) :
    Calls Tryd.prog 18 #[.agg #[.bool s, .slice A n c, .int .i64 ex]] w fun e w' => e = .returned (.tuple #[]) ∧ Below lo w w' ∧ From hi w w' ∧ ∀ b off k, WrS w b off k → WrS w' b off k := by
  generalize hw : w.alloc (.cells #[.bool s, .slice A n c, .int .i64 ex] 24) = w1 at *
  have X1 : w1.heap[w.heap.size]? = some (.cells #[.bool s, .slice A n c, .int .i64 ex] 24 (0, 0)) := by rw [← hw]; exact heap_alloc_last _ _
  have b1 : Below lo w w1 := by rw [← hw]; exact (Below.refl _ w).alloc hlo _
  have f1 : From hi w w1 := by rw [← hw]; exact fun k _ h2 => Below.heap_alloc _ _ _ h2
  have k1 : ∀ b off k, WrS w b off k → WrS w1 b off k := fun b off k hW => by
    by_cases hk : k = 0
    · subst hk
      exact fun j hj => absurd hj (Nat.not_lt_zero _)
    · refine hW.blk ?_
      rw [← hw]
      obtain ⟨⟨u, h1⟩, _⟩ := hW 0 (by omega)
      exact Below.heap_alloc _ _ _ (World.block_lt_of_cell? w _ h1)
  have hc := h.keep k1
  clear h
  go_enter Tryd.func18, Tryd.ntmps18
  go_wp2
  try clear hw
  go_loopw [2] (fun iv wr => ∃ i : Nat, iv = .int .i64 i ∧ i ≤ n ∧ wr.heap[w.heap.size]? = some (.cells #[.bool s, .slice A n c, .int .i64 ex] 24 (0, 0)) ∧ Below lo w wr ∧ From hi w wr ∧ Hid (WrR wr lo hi A n) ∧ Hid (∀ b off k, WrS w b off k → WrS wr b off k)) (fun iv _ => n - (intOf iv).toNat)
  case atStart => exact ⟨0, rfl, Nat.zero_le _, X1, b1, f1, Lib.hid hc, Lib.hid k1⟩
  case round =>
    clear X1 b1 f1 hc k1
    obtain ⟨i, rfl, hi1, X1, b1, f1, hc, k1⟩ := hrel
    obtain ⟨⟨y1, y2, y3⟩, y4, y5, y6⟩ := boxD X1
    by_cases hlt : i < n
    · obtain ⟨b, off, rfl, hb1, hb2, hW⟩ := hc.out (by omega)
      clear hc
      obtain ⟨⟨u, q1⟩, q2⟩ := hW i hlt
      have hwr : IntKind.i64.wrap ((i : Int) + 1) = ((i + 1 : Nat) : Int) := by rw [IntKind.wrap_i64]; omega
      go_wp2
      go_roundw
      case rel => exact ⟨i + 1, by first | rfl | (congr 1; omega) | go_num, by omega, (Below.heap_setCell _ _ _ _ (by simp; omega)).trans X1, b1.setCell hb1 _, f1.setCell hb2 _, Lib.hid fun _ => ⟨b, off, rfl, hb1, hb2, hW.set_ _ _⟩, Lib.hid fun b' off' k' h' => (k1.out b' off' k' h').set_ _ _⟩
      case measure => first | (simp [intOf]; done) | (simp [intOf]; omega)
    · obtain rfl : i = n := by omega
      clear hc
      go_wp2
      go_end0
      exact ⟨rfl, b1, f1, k1.out⟩
end Dy
end Go.Proofs.YtbbnbgllgomolaaDoor
