/- The law PushTells: walks (printed by a program of mine). -/
import Derived.Test.YtbbnbgllgomolaaDoorBh15
import Derived.Test.YtbbnbgllgomolaaDoorBh17
import Derived.Test.YtbbnbgllgomolaaDoorBh18
namespace Go.Proofs.YtbbnbgllgomolaaDoor
open Go.RowKit
namespace Ma
open Dp Dy
theorem PCheck_k (w : World) (m : Mv) (hR : MRows w 0 w.heap.size m) (k : Int) (hk : (if badS [m] = true then (8 : Int) else 0) = k) :
    Calls Tryd.prog 16 #[.agg #[.bool m.S.s, .slice m.S.A m.S.n m.S.c, .int .i64 m.S.e, .bool m.W.s, .slice m.W.A m.W.n m.W.c, .int .i64 m.W.e, .bool m.C.s, .slice m.C.A m.C.n m.C.c, .int .i64 m.C.e, .bool m.A.s, .slice m.A.A m.A.n m.A.c, .int .i64 m.A.e]] w fun e w' => e = .returned (.int .i64 k) ∧ Below w.heap.size w w' := by
  subst hk
  exact PCheck_any w m hR _ rfl
theorem RCheck_k (w : World) (m : Mv) (hR : MRows w 0 w.heap.size m) (k : Int) (hk : (if badS [m] = true then (8 : Int) else 0) = k) :
    Calls Tryd.prog 17 #[.agg #[.bool m.S.s, .slice m.S.A m.S.n m.S.c, .int .i64 m.S.e, .bool m.W.s, .slice m.W.A m.W.n m.W.c, .int .i64 m.W.e, .bool m.C.s, .slice m.C.A m.C.n m.C.c, .int .i64 m.C.e, .bool m.A.s, .slice m.A.A m.A.n m.A.c, .int .i64 m.A.e]] w fun e w' => e = .returned (.int .i64 k) ∧ Below w.heap.size w w' := by
  subst hk
  exact RCheckS_any w m hR _ rfl
theorem RB.spoiltS {w w' : World} {lo hi l k : Nat} {m : Mv} (h : RB w l k m) (hb : Below lo w w') (hf : From hi w w') (hd : k ≤ lo ∨ hi ≤ l) : RB w' l k m := ⟨rows_spoilt h.rows hb hf h.le hd, Nat.le_trans h.le hb.size⟩
theorem wrM {w : World} {lo hi : Nat} {m : Mv} (h : MRows w lo hi m) (x : Nat) : WrR w lo hi (m.get x).A (m.get x).n := WrR.of (h.get x)
set_option maxHeartbeats 102400000 in
set_option maxRecDepth 100000 in
theorem putells_walk (w : World) (a : Mv) (hA : MRows w 0 w.heap.size a) (b : Mv) (hBb : MRows w 0 w.heap.size b) (hT : Tab w) :
    Calls Tryd.prog 3 #[.agg #[.bool a.S.s, .slice a.S.A a.S.n a.S.c, .int .i64 a.S.e, .bool a.W.s, .slice a.W.A a.W.n a.W.c, .int .i64 a.W.e, .bool a.C.s, .slice a.C.A a.C.n a.C.c, .int .i64 a.C.e, .bool a.A.s, .slice a.A.A a.A.n a.A.c, .int .i64 a.A.e], .agg #[.bool b.S.s, .slice b.S.A b.S.n b.S.c, .int .i64 b.S.e, .bool b.W.s, .slice b.W.A b.W.n b.W.c, .int .i64 b.W.e, .bool b.C.s, .slice b.C.A b.C.n b.C.c, .int .i64 b.C.e, .bool b.A.s, .slice b.A.A b.A.n b.A.c, .int .i64 b.A.e]] w (fun e w' => e = .returned (.bool true) ∧ Below w.heap.size w w') := by
  generalize hw1 : (w.alloc (.cells #[.bool a.S.s, .slice a.S.A a.S.n a.S.c, .int .i64 a.S.e, .bool a.W.s, .slice a.W.A a.W.n a.W.c, .int .i64 a.W.e, .bool a.C.s, .slice a.C.A a.C.n a.C.c, .int .i64 a.C.e, .bool a.A.s, .slice a.A.A a.A.n a.A.c, .int .i64 a.A.e] 26)).alloc (.cells #[.bool b.S.s, .slice b.S.A b.S.n b.S.c, .int .i64 b.S.e, .bool b.W.s, .slice b.W.A b.W.n b.W.c, .int .i64 b.W.e, .bool b.C.s, .slice b.C.A b.C.n b.C.c, .int .i64 b.C.e, .bool b.A.s, .slice b.A.A b.A.n b.A.c, .int .i64 b.A.e] 26) = w1
  obtain ⟨hMa, hMb, hBL, lo1, hi1⟩ := boxes2 w _ _ hw1
  replace hMa : MBox w1 w.heap.size a := hMa
  replace hMb : MBox w1 (w.heap.size + 1) b := hMb
  have a_ : Amid w w1 := Amid.on ⟨Below.refl _ _, hT⟩ hBL
  have Ra : RB w1 0 w.heap.size a := ⟨hA.below hBL (Nat.le_refl _), hBL.size⟩
  have Rb : RB w1 0 w.heap.size b := ⟨hBb.below hBL (Nat.le_refl _), hBL.size⟩
  have g0 := hT.lt
  obtain ⟨ga, hga⟩ : ∃ g, greatM a = g := ⟨_, rfl⟩
  obtain ⟨gb, hgb⟩ : ∃ g, greatM b = g := ⟨_, rfl⟩
  obtain ⟨kR, sR, ck, hrk⟩ : ∃ k s c, giveM a = ((k, s), c) := ⟨_, _, _, rfl⟩
  obtain ⟨RX, cx, hrx⟩ : ∃ R c, takeM a b = (R, c) := ⟨_, _, rfl⟩
  obtain ⟨kc, hkc⟩ : ∃ k, (if badS [a] = true then (8 : Int) else 0) = k := ⟨_, rfl⟩
  have MX := Lib.hid (take_may hA hrx)
  have MK := Lib.hid (give_may hA hrk)
  have HGA := Lib.hid hga
  have HGB := Lib.hid hgb
  have HX := Lib.hid hrx
  have HK := Lib.hid hrk
  have HC := Lib.hid hkc
  clear hga hgb hrx hrk hkc hBL
  go_enter Tryd.func3, Tryd.ntmps3
  have q_1 := MBox.cells hMa
  go_wp2_with fail
  refine (RGreat_any w1 a Ra.rows ga HGA.out).mono ?_
  rintro e' w_2 ⟨rfl, hB⟩
  clear q_1
  have lw_2 : w1.heap.size ≤ w_2.heap.size := hB.size
  replace hMa := box_on hMa hB (lt_of_heap hMa)
  replace hMb := box_on hMb hB (lt_of_heap hMb)
  replace Ra := RB.on Ra hB
  replace Rb := RB.on Rb hB
  replace a_ := Amid.on a_ hB
  try clear hw1
  clear hB
  cases ga
  rotate_left
  · go_wp2
    go_ret
    exact ⟨rfl, a_.below⟩
  · skip
    have q_3 := MBox.cells hMb
    go_wp2_with fail
    refine (RGreat_any w_2 b Rb.rows gb HGB.out).mono ?_
    rintro e' w_4 ⟨rfl, hB⟩
    clear q_3
    have lw_4 : w_2.heap.size ≤ w_4.heap.size := hB.size
    replace hMa := box_on hMa hB (lt_of_heap hMa)
    replace hMb := box_on hMb hB (lt_of_heap hMb)
    replace Ra := RB.on Ra hB
    replace Rb := RB.on Rb hB
    replace a_ := Amid.on a_ hB
    clear hB
    cases gb
    rotate_left
    · go_wp2
      go_ret
      exact ⟨rfl, a_.below⟩
    · skip
      have na : ∀ x, x < 4 → (a.get x).n ≤ 42 := fun x hx => by
        have h1 := (great_not HGA.out x hx).1
        have h2 := (hA.get x).len
        omega
      have nb : ∀ x, x < 4 → (b.get x).n ≤ 42 := fun x hx => by
        have h1 := (great_not HGB.out x hx).1
        have h2 := (hBb.get x).len
        omega
      replace na := Lib.hid na
      replace nb := Lib.hid nb
      go_upto_region 3 with fail
      go_cut [5, 6] from 24 to 28 (fun s9 s10 wx => ∃ (g9 g10 : Nat) (u v : Mv), s9 = .pointer (some ⟨g9, 0, none⟩) ∧ s10 = .pointer (some ⟨g10, 0, none⟩) ∧ w_4.heap.size ≤ g9 ∧ w_4.heap.size ≤ g10 ∧ MBox wx g9 u ∧ MBox wx g10 v ∧ Below w_4.heap.size w_4 wx ∧ Hid (∀ x, x < 4 → TwinV (a.get x) (u.get x)) ∧ Hid (∀ x, x < 4 → TwinV (b.get x) (v.get x)) ∧ MRows wx w_4.heap.size wx.heap.size u ∧ MRows wx w_4.heap.size wx.heap.size v)
      case first =>
        clear a_
        have b_ : Below w_4.heap.size w_4 w_4 := Below.refl _ _
        refine region_E (Keeps w_4) [] (m := 8) (L := #[false, false, false, false, false, false, false, false]) (by kernel_rfl) (by rfl) (by rfl) ?_
        have kp_ : Keeps w_4 w_4.drew := fun _ _ => rfl
        have hB : Below w_4.heap.size w_4 w_4.drew := (Below.refl _ _).drew
        have sMa := hMa
        have sMb := hMb
        replace Ra : RB w_4.drew 0 w.heap.size _ := RB.on Ra hB
        replace Rb : RB w_4.drew 0 w.heap.size _ := RB.on Rb hB
        clear hMa hMb
        replace b_ := b_.trans hB
        have lw_5 : w_4.heap.size ≤ w_4.drew.heap.size := hB.size
        clear hB
        generalize w_4.drew = w_5 at *
        refine readE (i := 0) (L := #[true, false, false, false, false, false, false, false]) (v := .agg #[.bool a.S.s, .slice a.S.A a.S.n a.S.c, .int .i64 a.S.e, .bool a.W.s, .slice a.W.A a.W.n a.W.c, .int .i64 a.W.e, .bool a.C.s, .slice a.C.A a.C.n a.C.c, .int .i64 a.C.e, .bool a.A.s, .slice a.A.A a.A.n a.A.c, .int .i64 a.A.e]) rfl (by rfl) (by kernel_rfl) (by kernel_rfl) (by kernel_rfl) (fun _ _ _ h => h) (by assumption) (by rfl) ?yr_6 ?zr_6
        case yr_6 =>
          intro w' h1
          have c_ := MBox.cells ((h1 _ (lt_of_heap sMa)).trans sMa)
          go_simp
        try simp only [Act.put, List.setIfInBounds_toArray, List.set_cons_zero, List.set_cons_succ]
        refine readE (i := 2) (L := #[true, false, true, false, false, false, false, false]) (v := .agg #[.bool b.S.s, .slice b.S.A b.S.n b.S.c, .int .i64 b.S.e, .bool b.W.s, .slice b.W.A b.W.n b.W.c, .int .i64 b.W.e, .bool b.C.s, .slice b.C.A b.C.n b.C.c, .int .i64 b.C.e, .bool b.A.s, .slice b.A.A b.A.n b.A.c, .int .i64 b.A.e]) rfl (by rfl) (by kernel_rfl) (by kernel_rfl) (by kernel_rfl) (fun _ _ _ h => h) (by assumption) (by rfl) ?yr_7 ?zr_7
        case yr_7 =>
          intro w' h1
          have c_ := MBox.cells ((h1 _ (lt_of_heap sMb)).trans sMb)
          go_simp
        try simp only [Act.put, List.setIfInBounds_toArray, List.set_cons_zero, List.set_cons_succ]
        refine E_of_G 4 2 (fun (A : Act) L' a' w' => L' = #[true, true, true, true, true, true, false, false] ∧ ∃ (g9 g10 : Nat) (u v : Mv), a' = (((A.put (some 25) (.agg #[.bool u.S.s, .slice u.S.A u.S.n u.S.c, .int .i64 u.S.e, .bool u.W.s, .slice u.W.A u.W.n u.W.c, .int .i64 u.W.e, .bool u.C.s, .slice u.C.A u.C.n u.C.c, .int .i64 u.C.e, .bool u.A.s, .slice u.A.A u.A.n u.A.c, .int .i64 u.A.e])).put (some 27) (.agg #[.bool v.S.s, .slice v.S.A v.S.n v.S.c, .int .i64 v.S.e, .bool v.W.s, .slice v.W.A v.W.n v.W.c, .int .i64 v.W.e, .bool v.C.s, .slice v.C.A v.C.n v.C.c, .int .i64 v.C.e, .bool v.A.s, .slice v.A.A v.A.n v.A.c, .int .i64 v.A.e])).put (some 5) (.pointer (some ⟨g9, 0, none⟩))).put (some 6) (.pointer (some ⟨g10, 0, none⟩)) ∧ w_4.heap.size ≤ g9 ∧ w_4.heap.size ≤ g10 ∧ g9 ≠ g10 ∧ Keeps w_4 w' ∧ MBox w' g9 ZM ∧ MBox w' g10 ZM ∧ Below w_4.heap.size w_4 w' ∧ Hid (∀ x, x < 4 → TwinV (a.get x) (u.get x)) ∧ Hid (∀ x, x < 4 → TwinV (b.get x) (v.get x)) ∧ MRows w' w_4.heap.size w'.heap.size u ∧ MRows w' w_4.heap.size w'.heap.size v ∧ RowsOff w' g9 g10 u ∧ RowsOff w' g9 g10 v) rfl ?_ ?_
        · skip
          refine stepG3 (i := 1) (j := 4) (k := 5) (Li := #[true, true, true, false, false, false, false, false]) (Lj := #[true, false, true, false, true, false, false, false]) (Lk := #[true, false, true, false, false, true, false, false]) rfl rfl rfl (by rfl) (by rfl) (by rfl) (by kernel_rfl) (by rfl) (by rfl) (by rfl) (fun K hK => ?o_8) (fun K hK => ?o_9) (fun K hK => ?o_10)
          case o_8 =>
            
            go_simp
            go_at_call 10
            refine (RTwinM_any w_5 a Ra.all fun x hx => Nat.le_trans (na.out x hx) (by decide)).mono ?_
            rintro e' w_11 ⟨u, rfl, tu, hB, Ru⟩
            replace tu := Lib.hid tu
            replace kp_ := Keeps.on kp_ (by omega) hB
            have lw_11 : w_5.heap.size ≤ w_11.heap.size := hB.size
            replace Ra := RB.on Ra hB
            replace Rb := RB.on Rb hB
            replace b_ := b_.trans (hB.mono (by omega))
            clear hB
            refine hK _ _ ⟨fun _ _ => kp_, ?_⟩
            clear hK K
            try simp only [Act.put, List.setIfInBounds_toArray, List.set_cons_zero, List.set_cons_succ]
            replace Ru := RB.mk Ru (Nat.le_refl _)
            refine stepG3 (i := 3) (j := 4) (k := 5) (Li := #[true, true, true, true, false, false, false, false]) (Lj := #[true, true, true, false, true, false, false, false]) (Lk := #[true, true, true, false, false, true, false, false]) rfl rfl rfl (by rfl) (by rfl) (by rfl) (by kernel_rfl) (by rfl) (by rfl) (by rfl) (fun K hK => ?o_12) (fun K hK => ?o_13) (fun K hK => ?o_14)
            case o_12 =>
              
              go_simp
              go_at_call 10
              refine (RTwinM_any w_11 b Rb.all fun x hx => Nat.le_trans (nb.out x hx) (by decide)).mono ?_
              rintro e' w_15 ⟨v, rfl, tv, hB, Rv⟩
              replace tv := Lib.hid tv
              replace kp_ := Keeps.on kp_ (by omega) hB
              have lw_15 : w_11.heap.size ≤ w_15.heap.size := hB.size
              replace Ra := RB.on Ra hB
              replace Rb := RB.on Rb hB
              replace Ru := RB.on Ru hB
              replace b_ := b_.trans (hB.mono (by omega))
              clear hB
              refine hK _ _ ⟨fun _ _ => kp_, ?_⟩
              clear hK K
              try simp only [Act.put, List.setIfInBounds_toArray, List.set_cons_zero, List.set_cons_succ]
              replace Rv := RB.mk Rv (Nat.le_refl _)
              refine stepG2 (i := 4) (j := 5) (Li := #[true, true, true, true, true, false, false, false]) (Lj := #[true, true, true, true, false, true, false, false]) rfl rfl (by rfl) (by rfl) (by kernel_rfl) (by rfl) (by rfl) (fun K hK => ?o_16) (fun K hK => ?o_17)
              case o_16 =>
                
                go_simp
                obtain ⟨w_18, hc_, hV4_, hB, mw_18⟩ := alloc_z w_15
                rw [hc_]
                clear hc_
                replace kp_ := Keeps.on kp_ (by omega) hB
                have lw_18 : w_15.heap.size ≤ w_18.heap.size := hB.size
                replace Ra := RB.on Ra hB
                replace Rb := RB.on Rb hB
                replace Ru := RB.on Ru hB
                replace Rv := RB.on Rv hB
                replace b_ := b_.trans (hB.mono (by omega))
                clear hB
                refine hK _ _ ⟨fun _ _ => kp_, ?_⟩
                clear hK K
                try simp only [Act.put, List.setIfInBounds_toArray, List.set_cons_zero, List.set_cons_succ]
                have hV4 := hV4_
                clear hV4_
                refine stepG (i := 5) (L := #[true, true, true, true, true, true, false, false]) rfl (by rfl) (by kernel_rfl) (by rfl) (fun K hK => ?_)
                go_simp
                obtain ⟨w_19, hc_, hV5_, hB, mw_19⟩ := alloc_z w_18
                rw [hc_]
                clear hc_
                replace kp_ := Keeps.on kp_ (by omega) hB
                have lw_19 : w_18.heap.size ≤ w_19.heap.size := hB.size
                replace hV4 := box_on hV4 hB (lt_of_heap hV4)
                replace Ra := RB.on Ra hB
                replace Rb := RB.on Rb hB
                replace Ru := RB.on Ru hB
                replace Rv := RB.on Rv hB
                replace b_ := b_.trans (hB.mono (by omega))
                clear hB
                refine hK _ _ ⟨fun _ _ => kp_, ?_⟩
                clear hK K
                try simp only [Act.put, List.setIfInBounds_toArray, List.set_cons_zero, List.set_cons_succ]
                have hV5 := hV5_
                clear hV5_
                exact ⟨rfl, w_15.heap.size, w_18.heap.size, u, v, rfl, by omega, by omega, by omega, kp_, hV4, hV5, b_, tu, tv, Ru.rows.more (by omega) (by omega), Rv.rows.more (by omega) (by omega), rows_or Ru.rows (by omega) (by omega), rows_or Rv.rows (by omega) (by omega)⟩
              case o_17 =>
                
                go_simp
                obtain ⟨w_20, hc_, hV5_, hB, mw_20⟩ := alloc_z w_15
                rw [hc_]
                clear hc_
                replace kp_ := Keeps.on kp_ (by omega) hB
                have lw_20 : w_15.heap.size ≤ w_20.heap.size := hB.size
                replace Ra := RB.on Ra hB
                replace Rb := RB.on Rb hB
                replace Ru := RB.on Ru hB
                replace Rv := RB.on Rv hB
                replace b_ := b_.trans (hB.mono (by omega))
                clear hB
                refine hK _ _ ⟨fun _ _ => kp_, ?_⟩
                clear hK K
                try simp only [Act.put, List.setIfInBounds_toArray, List.set_cons_zero, List.set_cons_succ]
                have hV5 := hV5_
                clear hV5_
                refine stepG (i := 4) (L := #[true, true, true, true, true, true, false, false]) rfl (by rfl) (by kernel_rfl) (by rfl) (fun K hK => ?_)
                go_simp
                obtain ⟨w_21, hc_, hV4_, hB, mw_21⟩ := alloc_z w_20
                rw [hc_]
                clear hc_
                replace kp_ := Keeps.on kp_ (by omega) hB
                have lw_21 : w_20.heap.size ≤ w_21.heap.size := hB.size
                replace hV5 := box_on hV5 hB (lt_of_heap hV5)
                replace Ra := RB.on Ra hB
                replace Rb := RB.on Rb hB
                replace Ru := RB.on Ru hB
                replace Rv := RB.on Rv hB
                replace b_ := b_.trans (hB.mono (by omega))
                clear hB
                refine hK _ _ ⟨fun _ _ => kp_, ?_⟩
                clear hK K
                try simp only [Act.put, List.setIfInBounds_toArray, List.set_cons_zero, List.set_cons_succ]
                have hV4 := hV4_
                clear hV4_
                exact ⟨rfl, w_20.heap.size, w_15.heap.size, u, v, rfl, by omega, by omega, by omega, kp_, hV4, hV5, b_, tu, tv, Ru.rows.more (by omega) (by omega), Rv.rows.more (by omega) (by omega), rows_or Ru.rows (by omega) (by omega), rows_or Rv.rows (by omega) (by omega)⟩
            case o_13 =>
              
              go_simp
              obtain ⟨w_22, hc_, hV4_, hB, mw_22⟩ := alloc_z w_11
              rw [hc_]
              clear hc_
              replace kp_ := Keeps.on kp_ (by omega) hB
              have lw_22 : w_11.heap.size ≤ w_22.heap.size := hB.size
              replace Ra := RB.on Ra hB
              replace Rb := RB.on Rb hB
              replace Ru := RB.on Ru hB
              replace b_ := b_.trans (hB.mono (by omega))
              clear hB
              refine hK _ _ ⟨fun _ _ => kp_, ?_⟩
              clear hK K
              try simp only [Act.put, List.setIfInBounds_toArray, List.set_cons_zero, List.set_cons_succ]
              have hV4 := hV4_
              clear hV4_
              refine stepG2 (i := 3) (j := 5) (Li := #[true, true, true, true, true, false, false, false]) (Lj := #[true, true, true, false, true, true, false, false]) rfl rfl (by rfl) (by rfl) (by kernel_rfl) (by rfl) (by rfl) (fun K hK => ?o_23) (fun K hK => ?o_24)
              case o_23 =>
                
                go_simp
                go_at_call 10
                refine (RTwinM_any w_22 b Rb.all fun x hx => Nat.le_trans (nb.out x hx) (by decide)).mono ?_
                rintro e' w_25 ⟨v, rfl, tv, hB, Rv⟩
                replace tv := Lib.hid tv
                replace kp_ := Keeps.on kp_ (by omega) hB
                have lw_25 : w_22.heap.size ≤ w_25.heap.size := hB.size
                replace hV4 := box_on hV4 hB (lt_of_heap hV4)
                replace Ra := RB.on Ra hB
                replace Rb := RB.on Rb hB
                replace Ru := RB.on Ru hB
                replace b_ := b_.trans (hB.mono (by omega))
                clear hB
                refine hK _ _ ⟨fun _ _ => kp_, ?_⟩
                clear hK K
                try simp only [Act.put, List.setIfInBounds_toArray, List.set_cons_zero, List.set_cons_succ]
                replace Rv := RB.mk Rv (Nat.le_refl _)
                refine stepG (i := 5) (L := #[true, true, true, true, true, true, false, false]) rfl (by rfl) (by kernel_rfl) (by rfl) (fun K hK => ?_)
                go_simp
                obtain ⟨w_26, hc_, hV5_, hB, mw_26⟩ := alloc_z w_25
                rw [hc_]
                clear hc_
                replace kp_ := Keeps.on kp_ (by omega) hB
                have lw_26 : w_25.heap.size ≤ w_26.heap.size := hB.size
                replace hV4 := box_on hV4 hB (lt_of_heap hV4)
                replace Ra := RB.on Ra hB
                replace Rb := RB.on Rb hB
                replace Ru := RB.on Ru hB
                replace Rv := RB.on Rv hB
                replace b_ := b_.trans (hB.mono (by omega))
                clear hB
                refine hK _ _ ⟨fun _ _ => kp_, ?_⟩
                clear hK K
                try simp only [Act.put, List.setIfInBounds_toArray, List.set_cons_zero, List.set_cons_succ]
                have hV5 := hV5_
                clear hV5_
                exact ⟨rfl, w_11.heap.size, w_25.heap.size, u, v, rfl, by omega, by omega, by omega, kp_, hV4, hV5, b_, tu, tv, Ru.rows.more (by omega) (by omega), Rv.rows.more (by omega) (by omega), rows_or Ru.rows (by omega) (by omega), rows_or Rv.rows (by omega) (by omega)⟩
              case o_24 =>
                
                go_simp
                obtain ⟨w_27, hc_, hV5_, hB, mw_27⟩ := alloc_z w_22
                rw [hc_]
                clear hc_
                replace kp_ := Keeps.on kp_ (by omega) hB
                have lw_27 : w_22.heap.size ≤ w_27.heap.size := hB.size
                replace hV4 := box_on hV4 hB (lt_of_heap hV4)
                replace Ra := RB.on Ra hB
                replace Rb := RB.on Rb hB
                replace Ru := RB.on Ru hB
                replace b_ := b_.trans (hB.mono (by omega))
                clear hB
                refine hK _ _ ⟨fun _ _ => kp_, ?_⟩
                clear hK K
                try simp only [Act.put, List.setIfInBounds_toArray, List.set_cons_zero, List.set_cons_succ]
                have hV5 := hV5_
                clear hV5_
                refine stepG (i := 3) (L := #[true, true, true, true, true, true, false, false]) rfl (by rfl) (by kernel_rfl) (by rfl) (fun K hK => ?_)
                go_simp
                go_at_call 10
                refine (RTwinM_any w_27 b Rb.all fun x hx => Nat.le_trans (nb.out x hx) (by decide)).mono ?_
                rintro e' w_28 ⟨v, rfl, tv, hB, Rv⟩
                replace tv := Lib.hid tv
                replace kp_ := Keeps.on kp_ (by omega) hB
                have lw_28 : w_27.heap.size ≤ w_28.heap.size := hB.size
                replace hV4 := box_on hV4 hB (lt_of_heap hV4)
                replace hV5 := box_on hV5 hB (lt_of_heap hV5)
                replace Ra := RB.on Ra hB
                replace Rb := RB.on Rb hB
                replace Ru := RB.on Ru hB
                replace b_ := b_.trans (hB.mono (by omega))
                clear hB
                refine hK _ _ ⟨fun _ _ => kp_, ?_⟩
                clear hK K
                try simp only [Act.put, List.setIfInBounds_toArray, List.set_cons_zero, List.set_cons_succ]
                replace Rv := RB.mk Rv (Nat.le_refl _)
                exact ⟨rfl, w_11.heap.size, w_22.heap.size, u, v, rfl, by omega, by omega, by omega, kp_, hV4, hV5, b_, tu, tv, Ru.rows.more (by omega) (by omega), Rv.rows.more (by omega) (by omega), rows_or Ru.rows (by omega) (by omega), rows_or Rv.rows (by omega) (by omega)⟩
            case o_14 =>
              
              go_simp
              obtain ⟨w_29, hc_, hV5_, hB, mw_29⟩ := alloc_z w_11
              rw [hc_]
              clear hc_
              replace kp_ := Keeps.on kp_ (by omega) hB
              have lw_29 : w_11.heap.size ≤ w_29.heap.size := hB.size
              replace Ra := RB.on Ra hB
              replace Rb := RB.on Rb hB
              replace Ru := RB.on Ru hB
              replace b_ := b_.trans (hB.mono (by omega))
              clear hB
              refine hK _ _ ⟨fun _ _ => kp_, ?_⟩
              clear hK K
              try simp only [Act.put, List.setIfInBounds_toArray, List.set_cons_zero, List.set_cons_succ]
              have hV5 := hV5_
              clear hV5_
              refine stepG2 (i := 3) (j := 4) (Li := #[true, true, true, true, false, true, false, false]) (Lj := #[true, true, true, false, true, true, false, false]) rfl rfl (by rfl) (by rfl) (by kernel_rfl) (by rfl) (by rfl) (fun K hK => ?o_30) (fun K hK => ?o_31)
              case o_30 =>
                
                go_simp
                go_at_call 10
                refine (RTwinM_any w_29 b Rb.all fun x hx => Nat.le_trans (nb.out x hx) (by decide)).mono ?_
                rintro e' w_32 ⟨v, rfl, tv, hB, Rv⟩
                replace tv := Lib.hid tv
                replace kp_ := Keeps.on kp_ (by omega) hB
                have lw_32 : w_29.heap.size ≤ w_32.heap.size := hB.size
                replace hV5 := box_on hV5 hB (lt_of_heap hV5)
                replace Ra := RB.on Ra hB
                replace Rb := RB.on Rb hB
                replace Ru := RB.on Ru hB
                replace b_ := b_.trans (hB.mono (by omega))
                clear hB
                refine hK _ _ ⟨fun _ _ => kp_, ?_⟩
                clear hK K
                try simp only [Act.put, List.setIfInBounds_toArray, List.set_cons_zero, List.set_cons_succ]
                replace Rv := RB.mk Rv (Nat.le_refl _)
                refine stepG (i := 4) (L := #[true, true, true, true, true, true, false, false]) rfl (by rfl) (by kernel_rfl) (by rfl) (fun K hK => ?_)
                go_simp
                obtain ⟨w_33, hc_, hV4_, hB, mw_33⟩ := alloc_z w_32
                rw [hc_]
                clear hc_
                replace kp_ := Keeps.on kp_ (by omega) hB
                have lw_33 : w_32.heap.size ≤ w_33.heap.size := hB.size
                replace hV5 := box_on hV5 hB (lt_of_heap hV5)
                replace Ra := RB.on Ra hB
                replace Rb := RB.on Rb hB
                replace Ru := RB.on Ru hB
                replace Rv := RB.on Rv hB
                replace b_ := b_.trans (hB.mono (by omega))
                clear hB
                refine hK _ _ ⟨fun _ _ => kp_, ?_⟩
                clear hK K
                try simp only [Act.put, List.setIfInBounds_toArray, List.set_cons_zero, List.set_cons_succ]
                have hV4 := hV4_
                clear hV4_
                exact ⟨rfl, w_32.heap.size, w_11.heap.size, u, v, rfl, by omega, by omega, by omega, kp_, hV4, hV5, b_, tu, tv, Ru.rows.more (by omega) (by omega), Rv.rows.more (by omega) (by omega), rows_or Ru.rows (by omega) (by omega), rows_or Rv.rows (by omega) (by omega)⟩
              case o_31 =>
                
                go_simp
                obtain ⟨w_34, hc_, hV4_, hB, mw_34⟩ := alloc_z w_29
                rw [hc_]
                clear hc_
                replace kp_ := Keeps.on kp_ (by omega) hB
                have lw_34 : w_29.heap.size ≤ w_34.heap.size := hB.size
                replace hV5 := box_on hV5 hB (lt_of_heap hV5)
                replace Ra := RB.on Ra hB
                replace Rb := RB.on Rb hB
                replace Ru := RB.on Ru hB
                replace b_ := b_.trans (hB.mono (by omega))
                clear hB
                refine hK _ _ ⟨fun _ _ => kp_, ?_⟩
                clear hK K
                try simp only [Act.put, List.setIfInBounds_toArray, List.set_cons_zero, List.set_cons_succ]
                have hV4 := hV4_
                clear hV4_
                refine stepG (i := 3) (L := #[true, true, true, true, true, true, false, false]) rfl (by rfl) (by kernel_rfl) (by rfl) (fun K hK => ?_)
                go_simp
                go_at_call 10
                refine (RTwinM_any w_34 b Rb.all fun x hx => Nat.le_trans (nb.out x hx) (by decide)).mono ?_
                rintro e' w_35 ⟨v, rfl, tv, hB, Rv⟩
                replace tv := Lib.hid tv
                replace kp_ := Keeps.on kp_ (by omega) hB
                have lw_35 : w_34.heap.size ≤ w_35.heap.size := hB.size
                replace hV5 := box_on hV5 hB (lt_of_heap hV5)
                replace hV4 := box_on hV4 hB (lt_of_heap hV4)
                replace Ra := RB.on Ra hB
                replace Rb := RB.on Rb hB
                replace Ru := RB.on Ru hB
                replace b_ := b_.trans (hB.mono (by omega))
                clear hB
                refine hK _ _ ⟨fun _ _ => kp_, ?_⟩
                clear hK K
                try simp only [Act.put, List.setIfInBounds_toArray, List.set_cons_zero, List.set_cons_succ]
                replace Rv := RB.mk Rv (Nat.le_refl _)
                exact ⟨rfl, w_29.heap.size, w_11.heap.size, u, v, rfl, by omega, by omega, by omega, kp_, hV4, hV5, b_, tu, tv, Ru.rows.more (by omega) (by omega), Rv.rows.more (by omega) (by omega), rows_or Ru.rows (by omega) (by omega), rows_or Rv.rows (by omega) (by omega)⟩
          case o_9 =>
            
            go_simp
            obtain ⟨w_36, hc_, hV4_, hB, mw_36⟩ := alloc_z w_5
            rw [hc_]
            clear hc_
            replace kp_ := Keeps.on kp_ (by omega) hB
            have lw_36 : w_5.heap.size ≤ w_36.heap.size := hB.size
            replace Ra := RB.on Ra hB
            replace Rb := RB.on Rb hB
            replace b_ := b_.trans (hB.mono (by omega))
            clear hB
            refine hK _ _ ⟨fun _ _ => kp_, ?_⟩
            clear hK K
            try simp only [Act.put, List.setIfInBounds_toArray, List.set_cons_zero, List.set_cons_succ]
            have hV4 := hV4_
            clear hV4_
            refine stepG2 (i := 1) (j := 5) (Li := #[true, true, true, false, true, false, false, false]) (Lj := #[true, false, true, false, true, true, false, false]) rfl rfl (by rfl) (by rfl) (by kernel_rfl) (by rfl) (by rfl) (fun K hK => ?o_37) (fun K hK => ?o_38)
            case o_37 =>
              
              go_simp
              go_at_call 10
              refine (RTwinM_any w_36 a Ra.all fun x hx => Nat.le_trans (na.out x hx) (by decide)).mono ?_
              rintro e' w_39 ⟨u, rfl, tu, hB, Ru⟩
              replace tu := Lib.hid tu
              replace kp_ := Keeps.on kp_ (by omega) hB
              have lw_39 : w_36.heap.size ≤ w_39.heap.size := hB.size
              replace hV4 := box_on hV4 hB (lt_of_heap hV4)
              replace Ra := RB.on Ra hB
              replace Rb := RB.on Rb hB
              replace b_ := b_.trans (hB.mono (by omega))
              clear hB
              refine hK _ _ ⟨fun _ _ => kp_, ?_⟩
              clear hK K
              try simp only [Act.put, List.setIfInBounds_toArray, List.set_cons_zero, List.set_cons_succ]
              replace Ru := RB.mk Ru (Nat.le_refl _)
              refine stepG2 (i := 3) (j := 5) (Li := #[true, true, true, true, true, false, false, false]) (Lj := #[true, true, true, false, true, true, false, false]) rfl rfl (by rfl) (by rfl) (by kernel_rfl) (by rfl) (by rfl) (fun K hK => ?o_40) (fun K hK => ?o_41)
              case o_40 =>
                
                go_simp
                go_at_call 10
                refine (RTwinM_any w_39 b Rb.all fun x hx => Nat.le_trans (nb.out x hx) (by decide)).mono ?_
                rintro e' w_42 ⟨v, rfl, tv, hB, Rv⟩
                replace tv := Lib.hid tv
                replace kp_ := Keeps.on kp_ (by omega) hB
                have lw_42 : w_39.heap.size ≤ w_42.heap.size := hB.size
                replace hV4 := box_on hV4 hB (lt_of_heap hV4)
                replace Ra := RB.on Ra hB
                replace Rb := RB.on Rb hB
                replace Ru := RB.on Ru hB
                replace b_ := b_.trans (hB.mono (by omega))
                clear hB
                refine hK _ _ ⟨fun _ _ => kp_, ?_⟩
                clear hK K
                try simp only [Act.put, List.setIfInBounds_toArray, List.set_cons_zero, List.set_cons_succ]
                replace Rv := RB.mk Rv (Nat.le_refl _)
                refine stepG (i := 5) (L := #[true, true, true, true, true, true, false, false]) rfl (by rfl) (by kernel_rfl) (by rfl) (fun K hK => ?_)
                go_simp
                obtain ⟨w_43, hc_, hV5_, hB, mw_43⟩ := alloc_z w_42
                rw [hc_]
                clear hc_
                replace kp_ := Keeps.on kp_ (by omega) hB
                have lw_43 : w_42.heap.size ≤ w_43.heap.size := hB.size
                replace hV4 := box_on hV4 hB (lt_of_heap hV4)
                replace Ra := RB.on Ra hB
                replace Rb := RB.on Rb hB
                replace Ru := RB.on Ru hB
                replace Rv := RB.on Rv hB
                replace b_ := b_.trans (hB.mono (by omega))
                clear hB
                refine hK _ _ ⟨fun _ _ => kp_, ?_⟩
                clear hK K
                try simp only [Act.put, List.setIfInBounds_toArray, List.set_cons_zero, List.set_cons_succ]
                have hV5 := hV5_
                clear hV5_
                exact ⟨rfl, w_5.heap.size, w_42.heap.size, u, v, rfl, by omega, by omega, by omega, kp_, hV4, hV5, b_, tu, tv, Ru.rows.more (by omega) (by omega), Rv.rows.more (by omega) (by omega), rows_or Ru.rows (by omega) (by omega), rows_or Rv.rows (by omega) (by omega)⟩
              case o_41 =>
                
                go_simp
                obtain ⟨w_44, hc_, hV5_, hB, mw_44⟩ := alloc_z w_39
                rw [hc_]
                clear hc_
                replace kp_ := Keeps.on kp_ (by omega) hB
                have lw_44 : w_39.heap.size ≤ w_44.heap.size := hB.size
                replace hV4 := box_on hV4 hB (lt_of_heap hV4)
                replace Ra := RB.on Ra hB
                replace Rb := RB.on Rb hB
                replace Ru := RB.on Ru hB
                replace b_ := b_.trans (hB.mono (by omega))
                clear hB
                refine hK _ _ ⟨fun _ _ => kp_, ?_⟩
                clear hK K
                try simp only [Act.put, List.setIfInBounds_toArray, List.set_cons_zero, List.set_cons_succ]
                have hV5 := hV5_
                clear hV5_
                refine stepG (i := 3) (L := #[true, true, true, true, true, true, false, false]) rfl (by rfl) (by kernel_rfl) (by rfl) (fun K hK => ?_)
                go_simp
                go_at_call 10
                refine (RTwinM_any w_44 b Rb.all fun x hx => Nat.le_trans (nb.out x hx) (by decide)).mono ?_
                rintro e' w_45 ⟨v, rfl, tv, hB, Rv⟩
                replace tv := Lib.hid tv
                replace kp_ := Keeps.on kp_ (by omega) hB
                have lw_45 : w_44.heap.size ≤ w_45.heap.size := hB.size
                replace hV4 := box_on hV4 hB (lt_of_heap hV4)
                replace hV5 := box_on hV5 hB (lt_of_heap hV5)
                replace Ra := RB.on Ra hB
                replace Rb := RB.on Rb hB
                replace Ru := RB.on Ru hB
                replace b_ := b_.trans (hB.mono (by omega))
                clear hB
                refine hK _ _ ⟨fun _ _ => kp_, ?_⟩
                clear hK K
                try simp only [Act.put, List.setIfInBounds_toArray, List.set_cons_zero, List.set_cons_succ]
                replace Rv := RB.mk Rv (Nat.le_refl _)
                exact ⟨rfl, w_5.heap.size, w_39.heap.size, u, v, rfl, by omega, by omega, by omega, kp_, hV4, hV5, b_, tu, tv, Ru.rows.more (by omega) (by omega), Rv.rows.more (by omega) (by omega), rows_or Ru.rows (by omega) (by omega), rows_or Rv.rows (by omega) (by omega)⟩
            case o_38 =>
              
              go_simp
              obtain ⟨w_46, hc_, hV5_, hB, mw_46⟩ := alloc_z w_36
              rw [hc_]
              clear hc_
              replace kp_ := Keeps.on kp_ (by omega) hB
              have lw_46 : w_36.heap.size ≤ w_46.heap.size := hB.size
              replace hV4 := box_on hV4 hB (lt_of_heap hV4)
              replace Ra := RB.on Ra hB
              replace Rb := RB.on Rb hB
              replace b_ := b_.trans (hB.mono (by omega))
              clear hB
              refine hK _ _ ⟨fun _ _ => kp_, ?_⟩
              clear hK K
              try simp only [Act.put, List.setIfInBounds_toArray, List.set_cons_zero, List.set_cons_succ]
              have hV5 := hV5_
              clear hV5_
              refine stepG (i := 1) (L := #[true, true, true, false, true, true, false, false]) rfl (by rfl) (by kernel_rfl) (by rfl) (fun K hK => ?_)
              go_simp
              go_at_call 10
              refine (RTwinM_any w_46 a Ra.all fun x hx => Nat.le_trans (na.out x hx) (by decide)).mono ?_
              rintro e' w_47 ⟨u, rfl, tu, hB, Ru⟩
              replace tu := Lib.hid tu
              replace kp_ := Keeps.on kp_ (by omega) hB
              have lw_47 : w_46.heap.size ≤ w_47.heap.size := hB.size
              replace hV4 := box_on hV4 hB (lt_of_heap hV4)
              replace hV5 := box_on hV5 hB (lt_of_heap hV5)
              replace Ra := RB.on Ra hB
              replace Rb := RB.on Rb hB
              replace b_ := b_.trans (hB.mono (by omega))
              clear hB
              refine hK _ _ ⟨fun _ _ => kp_, ?_⟩
              clear hK K
              try simp only [Act.put, List.setIfInBounds_toArray, List.set_cons_zero, List.set_cons_succ]
              replace Ru := RB.mk Ru (Nat.le_refl _)
              refine stepG (i := 3) (L := #[true, true, true, true, true, true, false, false]) rfl (by rfl) (by kernel_rfl) (by rfl) (fun K hK => ?_)
              go_simp
              go_at_call 10
              refine (RTwinM_any w_47 b Rb.all fun x hx => Nat.le_trans (nb.out x hx) (by decide)).mono ?_
              rintro e' w_48 ⟨v, rfl, tv, hB, Rv⟩
              replace tv := Lib.hid tv
              replace kp_ := Keeps.on kp_ (by omega) hB
              have lw_48 : w_47.heap.size ≤ w_48.heap.size := hB.size
              replace hV4 := box_on hV4 hB (lt_of_heap hV4)
              replace hV5 := box_on hV5 hB (lt_of_heap hV5)
              replace Ra := RB.on Ra hB
              replace Rb := RB.on Rb hB
              replace Ru := RB.on Ru hB
              replace b_ := b_.trans (hB.mono (by omega))
              clear hB
              refine hK _ _ ⟨fun _ _ => kp_, ?_⟩
              clear hK K
              try simp only [Act.put, List.setIfInBounds_toArray, List.set_cons_zero, List.set_cons_succ]
              replace Rv := RB.mk Rv (Nat.le_refl _)
              exact ⟨rfl, w_5.heap.size, w_36.heap.size, u, v, rfl, by omega, by omega, by omega, kp_, hV4, hV5, b_, tu, tv, Ru.rows.more (by omega) (by omega), Rv.rows.more (by omega) (by omega), rows_or Ru.rows (by omega) (by omega), rows_or Rv.rows (by omega) (by omega)⟩
          case o_10 =>
            
            go_simp
            obtain ⟨w_49, hc_, hV5_, hB, mw_49⟩ := alloc_z w_5
            rw [hc_]
            clear hc_
            replace kp_ := Keeps.on kp_ (by omega) hB
            have lw_49 : w_5.heap.size ≤ w_49.heap.size := hB.size
            replace Ra := RB.on Ra hB
            replace Rb := RB.on Rb hB
            replace b_ := b_.trans (hB.mono (by omega))
            clear hB
            refine hK _ _ ⟨fun _ _ => kp_, ?_⟩
            clear hK K
            try simp only [Act.put, List.setIfInBounds_toArray, List.set_cons_zero, List.set_cons_succ]
            have hV5 := hV5_
            clear hV5_
            refine stepG2 (i := 1) (j := 4) (Li := #[true, true, true, false, false, true, false, false]) (Lj := #[true, false, true, false, true, true, false, false]) rfl rfl (by rfl) (by rfl) (by kernel_rfl) (by rfl) (by rfl) (fun K hK => ?o_50) (fun K hK => ?o_51)
            case o_50 =>
              
              go_simp
              go_at_call 10
              refine (RTwinM_any w_49 a Ra.all fun x hx => Nat.le_trans (na.out x hx) (by decide)).mono ?_
              rintro e' w_52 ⟨u, rfl, tu, hB, Ru⟩
              replace tu := Lib.hid tu
              replace kp_ := Keeps.on kp_ (by omega) hB
              have lw_52 : w_49.heap.size ≤ w_52.heap.size := hB.size
              replace hV5 := box_on hV5 hB (lt_of_heap hV5)
              replace Ra := RB.on Ra hB
              replace Rb := RB.on Rb hB
              replace b_ := b_.trans (hB.mono (by omega))
              clear hB
              refine hK _ _ ⟨fun _ _ => kp_, ?_⟩
              clear hK K
              try simp only [Act.put, List.setIfInBounds_toArray, List.set_cons_zero, List.set_cons_succ]
              replace Ru := RB.mk Ru (Nat.le_refl _)
              refine stepG2 (i := 3) (j := 4) (Li := #[true, true, true, true, false, true, false, false]) (Lj := #[true, true, true, false, true, true, false, false]) rfl rfl (by rfl) (by rfl) (by kernel_rfl) (by rfl) (by rfl) (fun K hK => ?o_53) (fun K hK => ?o_54)
              case o_53 =>
                
                go_simp
                go_at_call 10
                refine (RTwinM_any w_52 b Rb.all fun x hx => Nat.le_trans (nb.out x hx) (by decide)).mono ?_
                rintro e' w_55 ⟨v, rfl, tv, hB, Rv⟩
                replace tv := Lib.hid tv
                replace kp_ := Keeps.on kp_ (by omega) hB
                have lw_55 : w_52.heap.size ≤ w_55.heap.size := hB.size
                replace hV5 := box_on hV5 hB (lt_of_heap hV5)
                replace Ra := RB.on Ra hB
                replace Rb := RB.on Rb hB
                replace Ru := RB.on Ru hB
                replace b_ := b_.trans (hB.mono (by omega))
                clear hB
                refine hK _ _ ⟨fun _ _ => kp_, ?_⟩
                clear hK K
                try simp only [Act.put, List.setIfInBounds_toArray, List.set_cons_zero, List.set_cons_succ]
                replace Rv := RB.mk Rv (Nat.le_refl _)
                refine stepG (i := 4) (L := #[true, true, true, true, true, true, false, false]) rfl (by rfl) (by kernel_rfl) (by rfl) (fun K hK => ?_)
                go_simp
                obtain ⟨w_56, hc_, hV4_, hB, mw_56⟩ := alloc_z w_55
                rw [hc_]
                clear hc_
                replace kp_ := Keeps.on kp_ (by omega) hB
                have lw_56 : w_55.heap.size ≤ w_56.heap.size := hB.size
                replace hV5 := box_on hV5 hB (lt_of_heap hV5)
                replace Ra := RB.on Ra hB
                replace Rb := RB.on Rb hB
                replace Ru := RB.on Ru hB
                replace Rv := RB.on Rv hB
                replace b_ := b_.trans (hB.mono (by omega))
                clear hB
                refine hK _ _ ⟨fun _ _ => kp_, ?_⟩
                clear hK K
                try simp only [Act.put, List.setIfInBounds_toArray, List.set_cons_zero, List.set_cons_succ]
                have hV4 := hV4_
                clear hV4_
                exact ⟨rfl, w_55.heap.size, w_5.heap.size, u, v, rfl, by omega, by omega, by omega, kp_, hV4, hV5, b_, tu, tv, Ru.rows.more (by omega) (by omega), Rv.rows.more (by omega) (by omega), rows_or Ru.rows (by omega) (by omega), rows_or Rv.rows (by omega) (by omega)⟩
              case o_54 =>
                
                go_simp
                obtain ⟨w_57, hc_, hV4_, hB, mw_57⟩ := alloc_z w_52
                rw [hc_]
                clear hc_
                replace kp_ := Keeps.on kp_ (by omega) hB
                have lw_57 : w_52.heap.size ≤ w_57.heap.size := hB.size
                replace hV5 := box_on hV5 hB (lt_of_heap hV5)
                replace Ra := RB.on Ra hB
                replace Rb := RB.on Rb hB
                replace Ru := RB.on Ru hB
                replace b_ := b_.trans (hB.mono (by omega))
                clear hB
                refine hK _ _ ⟨fun _ _ => kp_, ?_⟩
                clear hK K
                try simp only [Act.put, List.setIfInBounds_toArray, List.set_cons_zero, List.set_cons_succ]
                have hV4 := hV4_
                clear hV4_
                refine stepG (i := 3) (L := #[true, true, true, true, true, true, false, false]) rfl (by rfl) (by kernel_rfl) (by rfl) (fun K hK => ?_)
                go_simp
                go_at_call 10
                refine (RTwinM_any w_57 b Rb.all fun x hx => Nat.le_trans (nb.out x hx) (by decide)).mono ?_
                rintro e' w_58 ⟨v, rfl, tv, hB, Rv⟩
                replace tv := Lib.hid tv
                replace kp_ := Keeps.on kp_ (by omega) hB
                have lw_58 : w_57.heap.size ≤ w_58.heap.size := hB.size
                replace hV5 := box_on hV5 hB (lt_of_heap hV5)
                replace hV4 := box_on hV4 hB (lt_of_heap hV4)
                replace Ra := RB.on Ra hB
                replace Rb := RB.on Rb hB
                replace Ru := RB.on Ru hB
                replace b_ := b_.trans (hB.mono (by omega))
                clear hB
                refine hK _ _ ⟨fun _ _ => kp_, ?_⟩
                clear hK K
                try simp only [Act.put, List.setIfInBounds_toArray, List.set_cons_zero, List.set_cons_succ]
                replace Rv := RB.mk Rv (Nat.le_refl _)
                exact ⟨rfl, w_52.heap.size, w_5.heap.size, u, v, rfl, by omega, by omega, by omega, kp_, hV4, hV5, b_, tu, tv, Ru.rows.more (by omega) (by omega), Rv.rows.more (by omega) (by omega), rows_or Ru.rows (by omega) (by omega), rows_or Rv.rows (by omega) (by omega)⟩
            case o_51 =>
              
              go_simp
              obtain ⟨w_59, hc_, hV4_, hB, mw_59⟩ := alloc_z w_49
              rw [hc_]
              clear hc_
              replace kp_ := Keeps.on kp_ (by omega) hB
              have lw_59 : w_49.heap.size ≤ w_59.heap.size := hB.size
              replace hV5 := box_on hV5 hB (lt_of_heap hV5)
              replace Ra := RB.on Ra hB
              replace Rb := RB.on Rb hB
              replace b_ := b_.trans (hB.mono (by omega))
              clear hB
              refine hK _ _ ⟨fun _ _ => kp_, ?_⟩
              clear hK K
              try simp only [Act.put, List.setIfInBounds_toArray, List.set_cons_zero, List.set_cons_succ]
              have hV4 := hV4_
              clear hV4_
              refine stepG (i := 1) (L := #[true, true, true, false, true, true, false, false]) rfl (by rfl) (by kernel_rfl) (by rfl) (fun K hK => ?_)
              go_simp
              go_at_call 10
              refine (RTwinM_any w_59 a Ra.all fun x hx => Nat.le_trans (na.out x hx) (by decide)).mono ?_
              rintro e' w_60 ⟨u, rfl, tu, hB, Ru⟩
              replace tu := Lib.hid tu
              replace kp_ := Keeps.on kp_ (by omega) hB
              have lw_60 : w_59.heap.size ≤ w_60.heap.size := hB.size
              replace hV5 := box_on hV5 hB (lt_of_heap hV5)
              replace hV4 := box_on hV4 hB (lt_of_heap hV4)
              replace Ra := RB.on Ra hB
              replace Rb := RB.on Rb hB
              replace b_ := b_.trans (hB.mono (by omega))
              clear hB
              refine hK _ _ ⟨fun _ _ => kp_, ?_⟩
              clear hK K
              try simp only [Act.put, List.setIfInBounds_toArray, List.set_cons_zero, List.set_cons_succ]
              replace Ru := RB.mk Ru (Nat.le_refl _)
              refine stepG (i := 3) (L := #[true, true, true, true, true, true, false, false]) rfl (by rfl) (by kernel_rfl) (by rfl) (fun K hK => ?_)
              go_simp
              go_at_call 10
              refine (RTwinM_any w_60 b Rb.all fun x hx => Nat.le_trans (nb.out x hx) (by decide)).mono ?_
              rintro e' w_61 ⟨v, rfl, tv, hB, Rv⟩
              replace tv := Lib.hid tv
              replace kp_ := Keeps.on kp_ (by omega) hB
              have lw_61 : w_60.heap.size ≤ w_61.heap.size := hB.size
              replace hV5 := box_on hV5 hB (lt_of_heap hV5)
              replace hV4 := box_on hV4 hB (lt_of_heap hV4)
              replace Ra := RB.on Ra hB
              replace Rb := RB.on Rb hB
              replace Ru := RB.on Ru hB
              replace b_ := b_.trans (hB.mono (by omega))
              clear hB
              refine hK _ _ ⟨fun _ _ => kp_, ?_⟩
              clear hK K
              try simp only [Act.put, List.setIfInBounds_toArray, List.set_cons_zero, List.set_cons_succ]
              replace Rv := RB.mk Rv (Nat.le_refl _)
              exact ⟨rfl, w_49.heap.size, w_5.heap.size, u, v, rfl, by omega, by omega, by omega, kp_, hV4, hV5, b_, tu, tv, Ru.rows.more (by omega) (by omega), Rv.rows.more (by omega) (by omega), rows_or Ru.rows (by omega) (by omega), rows_or Rv.rows (by omega) (by omega)⟩
        · rintro L' a' w' ⟨rfl, g9, g10, u, v, rfl, lg9, lg10, hne, kp_, hV4, hV5, b_, tu, tv, Ru, Rv, Ou, Ov⟩
          try simp only [Act.put, List.setIfInBounds_toArray, List.set_cons_zero, List.set_cons_succ]
          have hlt9 : g9 < w'.heap.size := lt_of_heap hV4
          have hlt10 : g10 < w'.heap.size := lt_of_heap hV5
          
          obtain ⟨⟨z0, z1, z2, z3, z4, z5, z6, z7, z8, z9, z10, z11⟩, zf⟩ := MBox.cells hV4
          refine stepK (i := 6) (L := #[true, true, true, true, true, true, true, false]) rfl (by rfl) (by kernel_rfl) (by rfl) (fun K hK => ?_)
          go_simp
          obtain ⟨W6, hc_, hX_, hb_, hf_, l6, l6'⟩ := all_to hV4 u
          rw [hc_]
          clear hc_ z0 z1 z2 z3 z4 z5 z6 z7 z8 z9 z10 z11 zf
          replace kp_ : Keeps w_4 W6 := fun p hp => (hf_ p (by omega)).trans (kp_ p hp)
          replace b_ := hb_ _ _ b_ (by omega)
          refine hK _ _ ⟨fun _ _ => kp_, ?_⟩
          clear hK K hb_
          try simp only [Act.put, List.setIfInBounds_toArray, List.set_cons_zero, List.set_cons_succ]
          replace hV5 : MBox W6 g10 ZM := (hf_ _ (Ne.symm hne)).trans hV5
          replace Ru := Ou.far Ru hf_ (.inl rfl)
          replace Rv := Ov.far Rv hf_ (.inl rfl)
          replace Ou := Ou.on hf_ (.inl rfl)
          replace Ov := Ov.on hf_ (.inl rfl)
          clear hf_
          obtain ⟨⟨z0, z1, z2, z3, z4, z5, z6, z7, z8, z9, z10, z11⟩, zf⟩ := MBox.cells hV5
          refine stepK (i := 7) (L := #[true, true, true, true, true, true, true, true]) rfl (by rfl) (by kernel_rfl) (by rfl) (fun K hK => ?_)
          go_simp
          obtain ⟨W7, hc_, hY_, hb_, hf_, l7, l7'⟩ := all_to hV5 v
          rw [hc_]
          clear hc_ z0 z1 z2 z3 z4 z5 z6 z7 z8 z9 z10 z11 zf
          replace kp_ : Keeps w_4 W7 := fun p hp => (hf_ p (by omega)).trans (kp_ p hp)
          replace b_ := hb_ _ _ b_ (by omega)
          refine hK _ _ ⟨fun _ _ => kp_, ?_⟩
          clear hK K hb_
          try simp only [Act.put, List.setIfInBounds_toArray, List.set_cons_zero, List.set_cons_succ]
          replace hX_ : MBox W7 g9 u := (hf_ _ hne).trans hX_
          replace Ru := Ou.far Ru hf_ (.inr rfl)
          replace Rv := Ov.far Rv hf_ (.inr rfl)
          refine doneE (by kernel_rfl) ?_ _
          go_wp2_with fail
          go_meet
          exact ⟨g9, g10, u, v, rfl, rfl, lg9, lg10, hX_, hY_, b_, tu, tv, Ru.more (Nat.le_refl _) (by omega), Rv.more (Nat.le_refl _) (by omega)⟩
      case rest =>
        obtain ⟨g9, g10, u, v, rfl, rfl, lg9, lg10, hMu, hMv, hB, tu, tv, Ru, Rv⟩ := hcut
        have lu : g9 < wc.heap.size := lt_of_heap hMu
        have lv : g10 < wc.heap.size := lt_of_heap hMv
        obtain ⟨w_62, hwc⟩ : ∃ W : World, W = wc := ⟨_, rfl⟩
        subst hwc
        have lw_62 : w_4.heap.size ≤ w_62.heap.size := hB.size
        replace hMa := box_on hMa hB (lt_of_heap hMa)
        replace hMb := box_on hMb hB (lt_of_heap hMb)
        replace Ra := RB.on Ra hB
        replace Rb := RB.on Rb hB
        replace a_ := Amid.on a_ hB
        clear hB
        obtain ⟨hi0, hhi0⟩ : ∃ h, h = w_62.heap.size := ⟨_, rfl⟩
        have lh1 : hi0 ≤ w_62.heap.size := by omega
        have lh2 : w_62.heap.size ≤ hi0 := by omega
        rw [← hhi0] at Ru Rv
        clear hhi0
        replace Ru := RB.mk Ru lh1
        replace Rv := RB.mk Rv lh1
        have q_63 := MBox.cells hMu
        go_wp2_with fail
        refine (Give_num w_62 u Ru.all a_.tab kR sR ck ((twin_give tu.out).trans HK.out)).mono ?_
        rintro e' w_64 ⟨k, n, rfl, hB, ik, in_, B, lb1, lb2, Rk, Rn⟩
        clear q_63
        have lw_64 : w_62.heap.size ≤ w_64.heap.size := hB.size
        replace hMa := box_on hMa hB (lt_of_heap hMa)
        replace hMb := box_on hMb hB (lt_of_heap hMb)
        replace hMu := box_on hMu hB (lt_of_heap hMu)
        replace hMv := box_on hMv hB (lt_of_heap hMv)
        replace Ra := RB.on Ra hB
        replace Rb := RB.on Rb hB
        replace Ru := RB.on Ru hB
        replace Rv := RB.on Rv hB
        replace a_ := Amid.on a_ hB
        replace in_ := Lib.hid in_
        replace ik := Lib.hid ik
        clear hB
        replace Rk := RB.mk Rk lb2
        replace Rn := RB.mk Rn (Nat.le_refl _)
        obtain ⟨w_65, hww_65, hMk_, hMn_, hB, mw_65⟩ := alloc_mm w_64 k n
        have lw_65 : w_64.heap.size ≤ w_65.heap.size := hB.size
        replace hMa := box_on hMa hB (lt_of_heap hMa)
        replace hMb := box_on hMb hB (lt_of_heap hMb)
        replace hMu := box_on hMu hB (lt_of_heap hMu)
        replace hMv := box_on hMv hB (lt_of_heap hMv)
        replace Ra := RB.on Ra hB
        replace Rb := RB.on Rb hB
        replace Ru := RB.on Ru hB
        replace Rv := RB.on Rv hB
        replace Rk := RB.on Rk hB
        replace Rn := RB.on Rn hB
        replace a_ := Amid.on a_ hB
        have hMk := hMk_
        have hMn := hMn_
        clear hB hMk_ hMn_
        have q_66 := MBox.cells hMa
        go_wp2_with fail
        refine (RGive_num w_65 a Ra.all kR sR ck HK.out).mono ?_
        rintro e' w_67 ⟨k2, n2, rfl, hB, ik2, in2, B2, lc1, lc2, Rk2, Rn2⟩
        clear q_66
        have lw_67 : w_65.heap.size ≤ w_67.heap.size := hB.size
        replace hMa := box_on hMa hB (lt_of_heap hMa)
        replace hMb := box_on hMb hB (lt_of_heap hMb)
        replace hMu := box_on hMu hB (lt_of_heap hMu)
        replace hMv := box_on hMv hB (lt_of_heap hMv)
        replace hMk := box_on hMk hB (lt_of_heap hMk)
        replace hMn := box_on hMn hB (lt_of_heap hMn)
        replace Ra := RB.on Ra hB
        replace Rb := RB.on Rb hB
        replace Ru := RB.on Ru hB
        replace Rv := RB.on Rv hB
        replace Rk := RB.on Rk hB
        replace Rn := RB.on Rn hB
        replace a_ := Amid.on a_ hB
        replace in2 := Lib.hid in2
        replace ik2 := Lib.hid ik2
        try clear hww_65
        clear hB
        replace Rk2 := RB.mk Rk2 lc2
        replace Rn2 := RB.mk Rn2 (Nat.le_refl _)
        obtain ⟨w_68, hww_68, hMk2_, hMn2_, hB, mw_68⟩ := alloc_mm w_67 k2 n2
        have lw_68 : w_67.heap.size ≤ w_68.heap.size := hB.size
        replace hMa := box_on hMa hB (lt_of_heap hMa)
        replace hMb := box_on hMb hB (lt_of_heap hMb)
        replace hMu := box_on hMu hB (lt_of_heap hMu)
        replace hMv := box_on hMv hB (lt_of_heap hMv)
        replace hMk := box_on hMk hB (lt_of_heap hMk)
        replace hMn := box_on hMn hB (lt_of_heap hMn)
        replace Ra := RB.on Ra hB
        replace Rb := RB.on Rb hB
        replace Ru := RB.on Ru hB
        replace Rv := RB.on Rv hB
        replace Rk := RB.on Rk hB
        replace Rn := RB.on Rn hB
        replace Rk2 := RB.on Rk2 hB
        replace Rn2 := RB.on Rn2 hB
        replace a_ := Amid.on a_ hB
        have hMk2 := hMk2_
        have hMn2 := hMn2_
        clear hB hMk2_ hMn2_
        have q_69 := MBox.cells hMu
        have q_70 := MBox.cells hMv
        go_wp2_with fail
        refine (Take_num w_68 u v Ru.all Rv.all a_.tab RX cx ((twin_take tu.out tv.out).trans HX.out)).mono ?_
        rintro e' w_71 ⟨p, rfl, hB, ip, Rp⟩
        clear q_69 q_70
        have lw_71 : w_68.heap.size ≤ w_71.heap.size := hB.size
        replace hMa := box_on hMa hB (lt_of_heap hMa)
        replace hMb := box_on hMb hB (lt_of_heap hMb)
        replace hMu := box_on hMu hB (lt_of_heap hMu)
        replace hMv := box_on hMv hB (lt_of_heap hMv)
        replace hMk := box_on hMk hB (lt_of_heap hMk)
        replace hMn := box_on hMn hB (lt_of_heap hMn)
        replace hMk2 := box_on hMk2 hB (lt_of_heap hMk2)
        replace hMn2 := box_on hMn2 hB (lt_of_heap hMn2)
        replace Ra := RB.on Ra hB
        replace Rb := RB.on Rb hB
        replace Ru := RB.on Ru hB
        replace Rv := RB.on Rv hB
        replace Rk := RB.on Rk hB
        replace Rn := RB.on Rn hB
        replace Rk2 := RB.on Rk2 hB
        replace Rn2 := RB.on Rn2 hB
        replace a_ := Amid.on a_ hB
        replace ip := Lib.hid ip
        try clear hww_68
        clear hB
        replace Rp := RB.mk Rp (Nat.le_refl _)
        obtain ⟨w_72, hww_72, hMp_, hB, mw_72⟩ := alloc_m w_71 p
        have lw_72 : w_71.heap.size ≤ w_72.heap.size := hB.size
        replace hMa := box_on hMa hB (lt_of_heap hMa)
        replace hMb := box_on hMb hB (lt_of_heap hMb)
        replace hMu := box_on hMu hB (lt_of_heap hMu)
        replace hMv := box_on hMv hB (lt_of_heap hMv)
        replace hMk := box_on hMk hB (lt_of_heap hMk)
        replace hMn := box_on hMn hB (lt_of_heap hMn)
        replace hMk2 := box_on hMk2 hB (lt_of_heap hMk2)
        replace hMn2 := box_on hMn2 hB (lt_of_heap hMn2)
        replace Ra := RB.on Ra hB
        replace Rb := RB.on Rb hB
        replace Ru := RB.on Ru hB
        replace Rv := RB.on Rv hB
        replace Rk := RB.on Rk hB
        replace Rn := RB.on Rn hB
        replace Rk2 := RB.on Rk2 hB
        replace Rn2 := RB.on Rn2 hB
        replace Rp := RB.on Rp hB
        replace a_ := Amid.on a_ hB
        have hMp := hMp_
        clear hB hMp_
        have q_73 := MBox.cells hMa
        have q_74 := MBox.cells hMb
        go_wp2_with fail
        refine (RTake_num w_72 a b Ra.all Rb.all RX cx HX.out).mono ?_
        rintro e' w_75 ⟨q, rfl, hB, iq, Rq⟩
        clear q_73 q_74
        have lw_75 : w_72.heap.size ≤ w_75.heap.size := hB.size
        replace hMa := box_on hMa hB (lt_of_heap hMa)
        replace hMb := box_on hMb hB (lt_of_heap hMb)
        replace hMu := box_on hMu hB (lt_of_heap hMu)
        replace hMv := box_on hMv hB (lt_of_heap hMv)
        replace hMk := box_on hMk hB (lt_of_heap hMk)
        replace hMn := box_on hMn hB (lt_of_heap hMn)
        replace hMk2 := box_on hMk2 hB (lt_of_heap hMk2)
        replace hMn2 := box_on hMn2 hB (lt_of_heap hMn2)
        replace hMp := box_on hMp hB (lt_of_heap hMp)
        replace Ra := RB.on Ra hB
        replace Rb := RB.on Rb hB
        replace Ru := RB.on Ru hB
        replace Rv := RB.on Rv hB
        replace Rk := RB.on Rk hB
        replace Rn := RB.on Rn hB
        replace Rk2 := RB.on Rk2 hB
        replace Rn2 := RB.on Rn2 hB
        replace Rp := RB.on Rp hB
        replace a_ := Amid.on a_ hB
        replace iq := Lib.hid iq
        try clear hww_72
        clear hB
        replace Rq := RB.mk Rq (Nat.le_refl _)
        obtain ⟨w_76, hww_76, hMq_, hB, mw_76⟩ := alloc_m w_75 q
        have lw_76 : w_75.heap.size ≤ w_76.heap.size := hB.size
        replace hMa := box_on hMa hB (lt_of_heap hMa)
        replace hMb := box_on hMb hB (lt_of_heap hMb)
        replace hMu := box_on hMu hB (lt_of_heap hMu)
        replace hMv := box_on hMv hB (lt_of_heap hMv)
        replace hMk := box_on hMk hB (lt_of_heap hMk)
        replace hMn := box_on hMn hB (lt_of_heap hMn)
        replace hMk2 := box_on hMk2 hB (lt_of_heap hMk2)
        replace hMn2 := box_on hMn2 hB (lt_of_heap hMn2)
        replace hMp := box_on hMp hB (lt_of_heap hMp)
        replace Ra := RB.on Ra hB
        replace Rb := RB.on Rb hB
        replace Ru := RB.on Ru hB
        replace Rv := RB.on Rv hB
        replace Rk := RB.on Rk hB
        replace Rn := RB.on Rn hB
        replace Rk2 := RB.on Rk2 hB
        replace Rn2 := RB.on Rn2 hB
        replace Rp := RB.on Rp hB
        replace Rq := RB.on Rq hB
        replace a_ := Amid.on a_ hB
        have hMq := hMq_
        clear hB hMq_
        go_upto_region 8 with fail
        try clear hww_76
        go_cut [17] from 28 to 82 (fun s17 wx => s17 = .bool true ∧ Below w_76.heap.size w_76 wx)
        case first =>
          clear a_
          refine region_E (Keeps w_76) [] (m := 31) (L := #[false, false, false, false, false, false, false, false, false, false, false, false, false, false, false, false, false, false, false, false, false, false, false, false, false, false, false, false, false, false, false]) (by kernel_rfl) (by rfl) (by rfl) ?_
          have kp_ : Keeps w_76 w_76.drew := fun _ _ => rfl
          have hB : Below w_76.heap.size w_76 w_76.drew := (Below.refl _ _).drew
          replace Ra : RB w_76.drew _ _ _ := RB.on Ra hB
          replace Ru : RB w_76.drew _ _ _ := RB.on Ru hB
          replace Rk : RB w_76.drew _ _ _ := RB.on Rk hB
          replace Rn : RB w_76.drew _ _ _ := RB.on Rn hB
          replace Rk2 : RB w_76.drew _ _ _ := RB.on Rk2 hB
          replace Rn2 : RB w_76.drew _ _ _ := RB.on Rn2 hB
          replace Rp : RB w_76.drew _ _ _ := RB.on Rp hB
          replace Rq : RB w_76.drew _ _ _ := RB.on Rq hB
          have b_ := hB
          have lw_77 : w_76.heap.size ≤ w_76.drew.heap.size := hB.size
          clear hB
          generalize w_76.drew = w_77 at *
          refine readE (i := 0) (L := #[true, false, false, false, false, false, false, false, false, false, false, false, false, false, false, false, false, false, false, false, false, false, false, false, false, false, false, false, false, false, false]) (v := .agg #[.bool k.S.s, .slice k.S.A k.S.n k.S.c, .int .i64 k.S.e, .bool k.W.s, .slice k.W.A k.W.n k.W.c, .int .i64 k.W.e, .bool k.C.s, .slice k.C.A k.C.n k.C.c, .int .i64 k.C.e, .bool k.A.s, .slice k.A.A k.A.n k.A.c, .int .i64 k.A.e]) rfl (by rfl) (by kernel_rfl) (by kernel_rfl) (by kernel_rfl) (fun _ _ _ h => h) (by assumption) (by rfl) ?yr_78 ?zr_78
          case yr_78 =>
            intro w' h1
            have c_ := MBox.cells ((h1 _ (lt_of_heap hMk)).trans hMk)
            go_simp
          try simp only [Act.put, List.setIfInBounds_toArray, List.set_cons_zero, List.set_cons_succ]
          refine readE (i := 1) (L := #[true, true, false, false, false, false, false, false, false, false, false, false, false, false, false, false, false, false, false, false, false, false, false, false, false, false, false, false, false, false, false]) (v := .agg #[.bool k2.S.s, .slice k2.S.A k2.S.n k2.S.c, .int .i64 k2.S.e, .bool k2.W.s, .slice k2.W.A k2.W.n k2.W.c, .int .i64 k2.W.e, .bool k2.C.s, .slice k2.C.A k2.C.n k2.C.c, .int .i64 k2.C.e, .bool k2.A.s, .slice k2.A.A k2.A.n k2.A.c, .int .i64 k2.A.e]) rfl (by rfl) (by kernel_rfl) (by kernel_rfl) (by kernel_rfl) (fun _ _ _ h => h) (by assumption) (by rfl) ?yr_79 ?zr_79
          case yr_79 =>
            intro w' h1
            have c_ := MBox.cells ((h1 _ (lt_of_heap hMk2)).trans hMk2)
            go_simp
          try simp only [Act.put, List.setIfInBounds_toArray, List.set_cons_zero, List.set_cons_succ]
          refine stepK (i := 2) (L := #[true, true, true, false, false, false, false, false, false, false, false, false, false, false, false, false, false, false, false, false, false, false, false, false, false, false, false, false, false, false, false]) rfl (by rfl) (by kernel_rfl) (by rfl) (fun K hK => ?_)
          go_simp
          go_at_call 15
          refine (RSame_any w_77 k k2 Rk.all Rk2.all true (ik.out.same ik2.out)).mono ?_
          rintro e' w_80 ⟨rfl, hB⟩
          replace kp_ := Keeps.on kp_ (by omega) hB
          have lw_80 : w_77.heap.size ≤ w_80.heap.size := hB.size
          replace Ra := RB.on Ra hB
          replace Ru := RB.on Ru hB
          replace Rk := RB.on Rk hB
          replace Rn := RB.on Rn hB
          replace Rk2 := RB.on Rk2 hB
          replace Rn2 := RB.on Rn2 hB
          replace Rp := RB.on Rp hB
          replace Rq := RB.on Rq hB
          replace b_ := b_.trans (hB.mono (by omega))
          clear hB
          refine hK _ _ ⟨fun _ _ => kp_, ?_⟩
          clear hK K
          try simp only [Act.put, List.setIfInBounds_toArray, List.set_cons_zero, List.set_cons_succ]
          clear Rk
          clear Rk2
          refine pureE (i := 3) (L := #[true, true, true, true, false, false, false, false, false, false, false, false, false, false, false, false, false, false, false, false, false, false, false, false, false, false, false, false, false, false, false]) (v := ?_) rfl (by rfl) (by kernel_rfl) (by kernel_rfl) (by kernel_rfl) (fun _ _ _ h => h) (by rfl) ?hy22 ?rest22
          case hy22 => intro w; go_simp; (try with_reducible rfl)
          try simp only [Act.put, List.setIfInBounds_toArray, List.set_cons_zero, List.set_cons_succ]
          refine readE (i := 4) (L := #[true, true, true, true, true, false, false, false, false, false, false, false, false, false, false, false, false, false, false, false, false, false, false, false, false, false, false, false, false, false, false]) (v := .agg #[.bool n.S.s, .slice n.S.A n.S.n n.S.c, .int .i64 n.S.e, .bool n.W.s, .slice n.W.A n.W.n n.W.c, .int .i64 n.W.e, .bool n.C.s, .slice n.C.A n.C.n n.C.c, .int .i64 n.C.e, .bool n.A.s, .slice n.A.A n.A.n n.A.c, .int .i64 n.A.e]) rfl (by rfl) (by kernel_rfl) (by kernel_rfl) (by kernel_rfl) (fun _ _ _ h => h) (by assumption) (by rfl) ?yr_81 ?zr_81
          case yr_81 =>
            intro w' h1
            have c_ := MBox.cells ((h1 _ (lt_of_heap hMn)).trans hMn)
            go_simp
          try simp only [Act.put, List.setIfInBounds_toArray, List.set_cons_zero, List.set_cons_succ]
          refine readE (i := 5) (L := #[true, true, true, true, true, true, false, false, false, false, false, false, false, false, false, false, false, false, false, false, false, false, false, false, false, false, false, false, false, false, false]) (v := .agg #[.bool n2.S.s, .slice n2.S.A n2.S.n n2.S.c, .int .i64 n2.S.e, .bool n2.W.s, .slice n2.W.A n2.W.n n2.W.c, .int .i64 n2.W.e, .bool n2.C.s, .slice n2.C.A n2.C.n n2.C.c, .int .i64 n2.C.e, .bool n2.A.s, .slice n2.A.A n2.A.n n2.A.c, .int .i64 n2.A.e]) rfl (by rfl) (by kernel_rfl) (by kernel_rfl) (by kernel_rfl) (fun _ _ _ h => h) (by assumption) (by rfl) ?yr_82 ?zr_82
          case yr_82 =>
            intro w' h1
            have c_ := MBox.cells ((h1 _ (lt_of_heap hMn2)).trans hMn2)
            go_simp
          try simp only [Act.put, List.setIfInBounds_toArray, List.set_cons_zero, List.set_cons_succ]
          refine stepK (i := 6) (L := #[true, true, true, true, true, true, true, false, false, false, false, false, false, false, false, false, false, false, false, false, false, false, false, false, false, false, false, false, false, false, false]) rfl (by rfl) (by kernel_rfl) (by rfl) (fun K hK => ?_)
          go_simp
          go_at_call 15
          refine (RSame_any w_80 n n2 Rn.all Rn2.all true (in_.out.same in2.out)).mono ?_
          rintro e' w_83 ⟨rfl, hB⟩
          replace kp_ := Keeps.on kp_ (by omega) hB
          have lw_83 : w_80.heap.size ≤ w_83.heap.size := hB.size
          replace Ra := RB.on Ra hB
          replace Ru := RB.on Ru hB
          replace Rn := RB.on Rn hB
          replace Rn2 := RB.on Rn2 hB
          replace Rp := RB.on Rp hB
          replace Rq := RB.on Rq hB
          replace b_ := b_.trans (hB.mono (by omega))
          clear hB
          refine hK _ _ ⟨fun _ _ => kp_, ?_⟩
          clear hK K
          try simp only [Act.put, List.setIfInBounds_toArray, List.set_cons_zero, List.set_cons_succ]
          clear Rn
          clear Rn2
          refine pureE (i := 7) (L := #[true, true, true, true, true, true, true, true, false, false, false, false, false, false, false, false, false, false, false, false, false, false, false, false, false, false, false, false, false, false, false]) (v := ?_) rfl (by rfl) (by kernel_rfl) (by kernel_rfl) (by kernel_rfl) (fun _ _ _ h => h) (by rfl) ?hy26 ?rest26
          case hy26 => intro w; go_simp; (try with_reducible rfl)
          try simp only [Act.put, List.setIfInBounds_toArray, List.set_cons_zero, List.set_cons_succ]
          refine pureE (i := 8) (L := #[true, true, true, true, true, true, true, true, true, false, false, false, false, false, false, false, false, false, false, false, false, false, false, false, false, false, false, false, false, false, false]) (v := ?_) rfl (by rfl) (by kernel_rfl) (by kernel_rfl) (by kernel_rfl) (fun _ _ _ h => h) (by rfl) ?hy27 ?rest27
          case hy27 => intro w; go_simp; (try with_reducible rfl)
          try simp only [Act.put, List.setIfInBounds_toArray, List.set_cons_zero, List.set_cons_succ]
          refine pureE (i := 9) (L := #[true, true, true, true, true, true, true, true, true, true, false, false, false, false, false, false, false, false, false, false, false, false, false, false, false, false, false, false, false, false, false]) (v := ?_) rfl (by rfl) (by kernel_rfl) (by kernel_rfl) (by kernel_rfl) (fun _ _ _ h => h) (by rfl) ?hy28 ?rest28
          case hy28 => intro w; go_simp; (try with_reducible rfl)
          try simp only [Act.put, List.setIfInBounds_toArray, List.set_cons_zero, List.set_cons_succ]
          refine pureE (i := 10) (L := #[true, true, true, true, true, true, true, true, true, true, true, false, false, false, false, false, false, false, false, false, false, false, false, false, false, false, false, false, false, false, false]) (v := ?_) rfl (by rfl) (by kernel_rfl) (by kernel_rfl) (by kernel_rfl) (fun _ _ _ h => h) (by rfl) ?hy29 ?rest29
          case hy29 => intro w; go_simp; (try with_reducible rfl)
          try simp only [Act.put, List.setIfInBounds_toArray, List.set_cons_zero, List.set_cons_succ]
          refine pureE (i := 11) (L := #[true, true, true, true, true, true, true, true, true, true, true, true, false, false, false, false, false, false, false, false, false, false, false, false, false, false, false, false, false, false, false]) (v := ?_) rfl (by rfl) (by kernel_rfl) (by kernel_rfl) (by kernel_rfl) (fun _ _ _ h => h) (by rfl) ?hy30 ?rest30
          case hy30 => intro w; go_simp; (try with_reducible rfl)
          try simp only [Act.put, List.setIfInBounds_toArray, List.set_cons_zero, List.set_cons_succ]
          try simp only [beq_self_eq_true]
          refine pureE (i := 12) (L := #[true, true, true, true, true, true, true, true, true, true, true, true, true, false, false, false, false, false, false, false, false, false, false, false, false, false, false, false, false, false, false]) (v := ?_) rfl (by rfl) (by kernel_rfl) (by kernel_rfl) (by kernel_rfl) (fun _ _ _ h => h) (by rfl) ?hy31 ?rest31
          case hy31 => intro w; go_simp; (try with_reducible rfl)
          try simp only [Act.put, List.setIfInBounds_toArray, List.set_cons_zero, List.set_cons_succ]
          refine pureE (i := 13) (L := #[true, true, true, true, true, true, true, true, true, true, true, true, true, true, false, false, false, false, false, false, false, false, false, false, false, false, false, false, false, false, false]) (v := ?_) rfl (by rfl) (by kernel_rfl) (by kernel_rfl) (by kernel_rfl) (fun _ _ _ h => h) (by rfl) ?hy32 ?rest32
          case hy32 => intro w; go_simp; (try with_reducible rfl)
          try simp only [Act.put, List.setIfInBounds_toArray, List.set_cons_zero, List.set_cons_succ]
          refine readE (i := 14) (L := #[true, true, true, true, true, true, true, true, true, true, true, true, true, true, true, false, false, false, false, false, false, false, false, false, false, false, false, false, false, false, false]) (v := .agg #[.bool p.S.s, .slice p.S.A p.S.n p.S.c, .int .i64 p.S.e, .bool p.W.s, .slice p.W.A p.W.n p.W.c, .int .i64 p.W.e, .bool p.C.s, .slice p.C.A p.C.n p.C.c, .int .i64 p.C.e, .bool p.A.s, .slice p.A.A p.A.n p.A.c, .int .i64 p.A.e]) rfl (by rfl) (by kernel_rfl) (by kernel_rfl) (by kernel_rfl) (fun _ _ _ h => h) (by assumption) (by rfl) ?yr_84 ?zr_84
          case yr_84 =>
            intro w' h1
            have c_ := MBox.cells ((h1 _ (lt_of_heap hMp)).trans hMp)
            go_simp
          try simp only [Act.put, List.setIfInBounds_toArray, List.set_cons_zero, List.set_cons_succ]
          refine readE (i := 15) (L := #[true, true, true, true, true, true, true, true, true, true, true, true, true, true, true, true, false, false, false, false, false, false, false, false, false, false, false, false, false, false, false]) (v := .agg #[.bool q.S.s, .slice q.S.A q.S.n q.S.c, .int .i64 q.S.e, .bool q.W.s, .slice q.W.A q.W.n q.W.c, .int .i64 q.W.e, .bool q.C.s, .slice q.C.A q.C.n q.C.c, .int .i64 q.C.e, .bool q.A.s, .slice q.A.A q.A.n q.A.c, .int .i64 q.A.e]) rfl (by rfl) (by kernel_rfl) (by kernel_rfl) (by kernel_rfl) (fun _ _ _ h => h) (by assumption) (by rfl) ?yr_85 ?zr_85
          case yr_85 =>
            intro w' h1
            have c_ := MBox.cells ((h1 _ (lt_of_heap hMq)).trans hMq)
            go_simp
          try simp only [Act.put, List.setIfInBounds_toArray, List.set_cons_zero, List.set_cons_succ]
          refine stepK (i := 16) (L := #[true, true, true, true, true, true, true, true, true, true, true, true, true, true, true, true, true, false, false, false, false, false, false, false, false, false, false, false, false, false, false]) rfl (by rfl) (by kernel_rfl) (by rfl) (fun K hK => ?_)
          go_simp
          go_at_call 15
          refine (RSame_any w_83 p q Rp.all Rq.all true (ip.out.same iq.out)).mono ?_
          rintro e' w_86 ⟨rfl, hB⟩
          replace kp_ := Keeps.on kp_ (by omega) hB
          have lw_86 : w_83.heap.size ≤ w_86.heap.size := hB.size
          replace Ra := RB.on Ra hB
          replace Ru := RB.on Ru hB
          replace Rp := RB.on Rp hB
          replace Rq := RB.on Rq hB
          replace b_ := b_.trans (hB.mono (by omega))
          clear hB
          refine hK _ _ ⟨fun _ _ => kp_, ?_⟩
          clear hK K
          try simp only [Act.put, List.setIfInBounds_toArray, List.set_cons_zero, List.set_cons_succ]
          clear Rp
          clear Rq
          refine pureE (i := 17) (L := #[true, true, true, true, true, true, true, true, true, true, true, true, true, true, true, true, true, true, false, false, false, false, false, false, false, false, false, false, false, false, false]) (v := ?_) rfl (by rfl) (by kernel_rfl) (by kernel_rfl) (by kernel_rfl) (fun _ _ _ h => h) (by rfl) ?hy36 ?rest36
          case hy36 => intro w; go_simp; (try with_reducible rfl)
          try simp only [Act.put, List.setIfInBounds_toArray, List.set_cons_zero, List.set_cons_succ]
          refine pureE (i := 18) (L := #[true, true, true, true, true, true, true, true, true, true, true, true, true, true, true, true, true, true, true, false, false, false, false, false, false, false, false, false, false, false, false]) (v := ?_) rfl (by rfl) (by kernel_rfl) (by kernel_rfl) (by kernel_rfl) (fun _ _ _ h => h) (by rfl) ?hy37 ?rest37
          case hy37 => intro w; go_simp; (try with_reducible rfl)
          try simp only [Act.put, List.setIfInBounds_toArray, List.set_cons_zero, List.set_cons_succ]
          refine pureE (i := 19) (L := #[true, true, true, true, true, true, true, true, true, true, true, true, true, true, true, true, true, true, true, true, false, false, false, false, false, false, false, false, false, false, false]) (v := ?_) rfl (by rfl) (by kernel_rfl) (by kernel_rfl) (by kernel_rfl) (fun _ _ _ h => h) (by rfl) ?hy38 ?rest38
          case hy38 => intro w; go_simp; (try with_reducible rfl)
          try simp only [Act.put, List.setIfInBounds_toArray, List.set_cons_zero, List.set_cons_succ]
          refine pureE (i := 20) (L := #[true, true, true, true, true, true, true, true, true, true, true, true, true, true, true, true, true, true, true, true, true, false, false, false, false, false, false, false, false, false, false]) (v := ?_) rfl (by rfl) (by kernel_rfl) (by kernel_rfl) (by kernel_rfl) (fun _ _ _ h => h) (by rfl) ?hy39 ?rest39
          case hy39 => intro w; go_simp; (try with_reducible rfl)
          try simp only [Act.put, List.setIfInBounds_toArray, List.set_cons_zero, List.set_cons_succ]
          refine pureE (i := 21) (L := #[true, true, true, true, true, true, true, true, true, true, true, true, true, true, true, true, true, true, true, true, true, true, false, false, false, false, false, false, false, false, false]) (v := ?_) rfl (by rfl) (by kernel_rfl) (by kernel_rfl) (by kernel_rfl) (fun _ _ _ h => h) (by rfl) ?hy40 ?rest40
          case hy40 => intro w; go_simp; (try with_reducible rfl)
          try simp only [Act.put, List.setIfInBounds_toArray, List.set_cons_zero, List.set_cons_succ]
          try simp only [beq_self_eq_true]
          refine pureE (i := 22) (L := #[true, true, true, true, true, true, true, true, true, true, true, true, true, true, true, true, true, true, true, true, true, true, true, false, false, false, false, false, false, false, false]) (v := ?_) rfl (by rfl) (by kernel_rfl) (by kernel_rfl) (by kernel_rfl) (fun _ _ _ h => h) (by rfl) ?hy41 ?rest41
          case hy41 => intro w; go_simp; (try with_reducible rfl)
          try simp only [Act.put, List.setIfInBounds_toArray, List.set_cons_zero, List.set_cons_succ]
          refine pureE (i := 23) (L := #[true, true, true, true, true, true, true, true, true, true, true, true, true, true, true, true, true, true, true, true, true, true, true, true, false, false, false, false, false, false, false]) (v := ?_) rfl (by rfl) (by kernel_rfl) (by kernel_rfl) (by kernel_rfl) (fun _ _ _ h => h) (by rfl) ?hy42 ?rest42
          case hy42 => intro w; go_simp; (try with_reducible rfl)
          try simp only [Act.put, List.setIfInBounds_toArray, List.set_cons_zero, List.set_cons_succ]
          refine readE (i := 24) (L := #[true, true, true, true, true, true, true, true, true, true, true, true, true, true, true, true, true, true, true, true, true, true, true, true, true, false, false, false, false, false, false]) (v := .agg #[.bool u.S.s, .slice u.S.A u.S.n u.S.c, .int .i64 u.S.e, .bool u.W.s, .slice u.W.A u.W.n u.W.c, .int .i64 u.W.e, .bool u.C.s, .slice u.C.A u.C.n u.C.c, .int .i64 u.C.e, .bool u.A.s, .slice u.A.A u.A.n u.A.c, .int .i64 u.A.e]) rfl (by rfl) (by kernel_rfl) (by kernel_rfl) (by kernel_rfl) (fun _ _ _ h => h) (by assumption) (by rfl) ?yr_87 ?zr_87
          case yr_87 =>
            intro w' h1
            have c_ := MBox.cells ((h1 _ (lt_of_heap hMu)).trans hMu)
            go_simp
          try simp only [Act.put, List.setIfInBounds_toArray, List.set_cons_zero, List.set_cons_succ]
          refine readE (i := 26) (L := #[true, true, true, true, true, true, true, true, true, true, true, true, true, true, true, true, true, true, true, true, true, true, true, true, true, false, true, false, false, false, false]) (v := .agg #[.bool a.S.s, .slice a.S.A a.S.n a.S.c, .int .i64 a.S.e, .bool a.W.s, .slice a.W.A a.W.n a.W.c, .int .i64 a.W.e, .bool a.C.s, .slice a.C.A a.C.n a.C.c, .int .i64 a.C.e, .bool a.A.s, .slice a.A.A a.A.n a.A.c, .int .i64 a.A.e]) rfl (by rfl) (by kernel_rfl) (by kernel_rfl) (by kernel_rfl) (fun _ _ _ h => h) (by assumption) (by rfl) ?yr_88 ?zr_88
          case yr_88 =>
            intro w' h1
            have c_ := MBox.cells ((h1 _ (lt_of_heap hMa)).trans hMa)
            go_simp
          try simp only [Act.put, List.setIfInBounds_toArray, List.set_cons_zero, List.set_cons_succ]
          refine stepK (i := 25) (L := #[true, true, true, true, true, true, true, true, true, true, true, true, true, true, true, true, true, true, true, true, true, true, true, true, true, true, true, false, false, false, false]) rfl (by rfl) (by kernel_rfl) (by rfl) (fun K hK => ?_)
          go_simp
          go_at_call 16
          refine (PCheck_k w_86 u Ru.all kc (by rw [twin_bad tu.out]; exact HC.out)).mono ?_
          rintro e' w_89 ⟨rfl, hB⟩
          replace kp_ := Keeps.on kp_ (by omega) hB
          have lw_89 : w_86.heap.size ≤ w_89.heap.size := hB.size
          replace Ra := RB.on Ra hB
          replace Ru := RB.on Ru hB
          replace b_ := b_.trans (hB.mono (by omega))
          clear hB
          refine hK _ _ ⟨fun _ _ => kp_, ?_⟩
          clear hK K
          try simp only [Act.put, List.setIfInBounds_toArray, List.set_cons_zero, List.set_cons_succ]
          refine stepK (i := 27) (L := #[true, true, true, true, true, true, true, true, true, true, true, true, true, true, true, true, true, true, true, true, true, true, true, true, true, true, true, true, false, false, false]) rfl (by rfl) (by kernel_rfl) (by rfl) (fun K hK => ?_)
          go_simp
          go_at_call 17
          refine (RCheck_k w_89 a Ra.all kc HC.out).mono ?_
          rintro e' w_90 ⟨rfl, hB⟩
          replace kp_ := Keeps.on kp_ (by omega) hB
          have lw_90 : w_89.heap.size ≤ w_90.heap.size := hB.size
          replace Ra := RB.on Ra hB
          replace Ru := RB.on Ru hB
          replace b_ := b_.trans (hB.mono (by omega))
          clear hB
          refine hK _ _ ⟨fun _ _ => kp_, ?_⟩
          clear hK K
          try simp only [Act.put, List.setIfInBounds_toArray, List.set_cons_zero, List.set_cons_succ]
          refine pureE (i := 28) (L := #[true, true, true, true, true, true, true, true, true, true, true, true, true, true, true, true, true, true, true, true, true, true, true, true, true, true, true, true, true, false, false]) (v := ?_) rfl (by rfl) (by kernel_rfl) (by kernel_rfl) (by kernel_rfl) (fun _ _ _ h => h) (by rfl) ?hy47 ?rest47
          case hy47 => intro w; go_simp; (try with_reducible rfl)
          try simp only [Act.put, List.setIfInBounds_toArray, List.set_cons_zero, List.set_cons_succ]
          try simp only [beq_self_eq_true]
          refine pureE (i := 29) (L := #[true, true, true, true, true, true, true, true, true, true, true, true, true, true, true, true, true, true, true, true, true, true, true, true, true, true, true, true, true, true, false]) (v := ?_) rfl (by rfl) (by kernel_rfl) (by kernel_rfl) (by kernel_rfl) (fun _ _ _ h => h) (by rfl) ?hy48 ?rest48
          case hy48 => intro w; go_simp; (try with_reducible rfl)
          try simp only [Act.put, List.setIfInBounds_toArray, List.set_cons_zero, List.set_cons_succ]
          refine pureE (i := 30) (L := #[true, true, true, true, true, true, true, true, true, true, true, true, true, true, true, true, true, true, true, true, true, true, true, true, true, true, true, true, true, true, true]) (v := ?_) rfl (by rfl) (by kernel_rfl) (by kernel_rfl) (by kernel_rfl) (fun _ _ _ h => h) (by rfl) ?hy49 ?rest49
          case hy49 => intro w; go_simp; (try with_reducible rfl)
          try simp only [Act.put, List.setIfInBounds_toArray, List.set_cons_zero, List.set_cons_succ]
          refine doneE (by kernel_rfl) ?_ _
          go_wp2_with fail
          go_meet
          exact ⟨rfl, b_⟩
        case rest =>
          obtain ⟨rfl, hB⟩ := hcut
          obtain ⟨w_91, hwc⟩ : ∃ W : World, W = wc := ⟨_, rfl⟩
          subst hwc
          clear hMq
          clear Rq
          clear hMn2
          clear Rn2
          have lw_91 : w_76.heap.size ≤ w_91.heap.size := hB.size
          replace hMa := box_on hMa hB (lt_of_heap hMa)
          replace hMb := box_on hMb hB (lt_of_heap hMb)
          replace hMu := box_on hMu hB (lt_of_heap hMu)
          replace hMv := box_on hMv hB (lt_of_heap hMv)
          replace hMk := box_on hMk hB (lt_of_heap hMk)
          replace hMn := box_on hMn hB (lt_of_heap hMn)
          replace hMk2 := box_on hMk2 hB (lt_of_heap hMk2)
          replace hMp := box_on hMp hB (lt_of_heap hMp)
          replace Ra := RB.on Ra hB
          replace Rb := RB.on Rb hB
          replace Ru := RB.on Ru hB
          replace Rv := RB.on Rv hB
          replace Rk := RB.on Rk hB
          replace Rn := RB.on Rn hB
          replace Rk2 := RB.on Rk2 hB
          replace Rp := RB.on Rp hB
          replace a_ := Amid.on a_ hB
          clear hB
          have zz0 : w.heap.size + 1 + 1 ≤ w_4.heap.size := by omega
          have zz1 : w_4.heap.size ≤ g9 := by omega
          have zz2 : w_4.heap.size ≤ g10 := by omega
          have zz3 : g9 + 1 ≤ hi0 := by omega
          have zz4 : g10 + 1 ≤ hi0 := by omega
          have zz5 : hi0 ≤ w_62.heap.size := by omega
          have zz6 : w_62.heap.size ≤ B := by omega
          have zz7 : B ≤ w_64.heap.size := by omega
          have zz8 : w_64.heap.size + 2 ≤ w_65.heap.size := by omega
          have zz9 : w_65.heap.size ≤ w_67.heap.size := by omega
          have zz10 : w_67.heap.size + 2 ≤ w_68.heap.size := by omega
          have zz11 : w_68.heap.size ≤ w_71.heap.size := by omega
          have zz12 : w_71.heap.size + 1 ≤ w_91.heap.size := by omega
          have zz13 : B2 ≤ w_67.heap.size := by omega
          have zz14 : w_65.heap.size ≤ B2 := by omega
          clear lw_2 lw_4 lw_62 lw_64 mw_65 lw_65 lw_67 mw_68 lw_68 lw_71 mw_72 lw_72 lw_75 mw_76 lw_76 lw_91 lo1 hi1 lg9 lg10 lu lv lh1 lh2 lb1 lb2 lc1 lc2
          have nn := Lib.hid (isM_n Rn.rows in_.out MK.out.2)
          have nk := Lib.hid (isM_n Rk.rows ik.out MK.out.1)
          have np := Lib.hid (isM_n Rp.rows ip.out MX.out)
          have WnS : WrR w_91 (B) (w_64.heap.size) n.S.A n.S.n := wrM Rn.rows 0
          have WnW : WrR w_91 (B) (w_64.heap.size) n.W.A n.W.n := wrM Rn.rows 1
          clear Rn
          have q_93 := MBox.cells hMn
          go_wp2_with fail
          refine (spoil15_any w_91 n.S.s n.S.A n.S.n n.S.c n.S.e (B) (w_64.heap.size) WnS (nn.out 0 (by decide)) (by omega) (by omega)).mono ?_
          rintro e' w_92 ⟨rfl, hB, hF, hW⟩
          clear q_93
          have lw_92 : w_91.heap.size ≤ w_92.heap.size := hB.size
          replace hMa := box_spoilt hMa hB hF (by omega)
          replace hMb := box_spoilt hMb hB hF (by omega)
          replace hMu := box_spoilt hMu hB hF (by omega)
          replace hMv := box_spoilt hMv hB hF (by omega)
          replace hMk := box_spoilt hMk hB hF (by omega)
          replace hMn := box_spoilt hMn hB hF (by omega)
          replace hMk2 := box_spoilt hMk2 hB hF (by omega)
          replace hMp := box_spoilt hMp hB hF (by omega)
          replace Ra := RB.spoiltS Ra hB hF (by omega)
          replace Rb := RB.spoiltS Rb hB hF (by omega)
          replace Ru := RB.spoiltS Ru hB hF (by omega)
          replace Rv := RB.spoiltS Rv hB hF (by omega)
          replace Rk := RB.spoiltS Rk hB hF (by omega)
          replace Rk2 := RB.spoiltS Rk2 hB hF (by omega)
          replace Rp := RB.spoiltS Rp hB hF (by omega)
          replace WnW := WrR.keep WnW hW
          replace a_ := amid_spoilt a_ hB (by omega) (by omega)
          clear hB hF hW
          clear WnS
          have q_95 := MBox.cells hMn
          go_wp2_with fail
          refine (spoil15_any w_92 n.W.s n.W.A n.W.n n.W.c n.W.e (B) (w_64.heap.size) WnW (nn.out 1 (by decide)) (by omega) (by omega)).mono ?_
          rintro e' w_94 ⟨rfl, hB, hF, hW⟩
          clear q_95
          have lw_94 : w_92.heap.size ≤ w_94.heap.size := hB.size
          replace hMa := box_spoilt hMa hB hF (by omega)
          replace hMb := box_spoilt hMb hB hF (by omega)
          replace hMu := box_spoilt hMu hB hF (by omega)
          replace hMv := box_spoilt hMv hB hF (by omega)
          replace hMk := box_spoilt hMk hB hF (by omega)
          replace hMn := box_spoilt hMn hB hF (by omega)
          replace hMk2 := box_spoilt hMk2 hB hF (by omega)
          replace hMp := box_spoilt hMp hB hF (by omega)
          replace Ra := RB.spoiltS Ra hB hF (by omega)
          replace Rb := RB.spoiltS Rb hB hF (by omega)
          replace Ru := RB.spoiltS Ru hB hF (by omega)
          replace Rv := RB.spoiltS Rv hB hF (by omega)
          replace Rk := RB.spoiltS Rk hB hF (by omega)
          replace Rk2 := RB.spoiltS Rk2 hB hF (by omega)
          replace Rp := RB.spoiltS Rp hB hF (by omega)
          replace a_ := amid_spoilt a_ hB (by omega) (by omega)
          clear hB hF hW
          clear WnW
          clear hMn
          have q_96 := MBox.cells hMk
          have q_97 := MBox.cells hMk2
          go_wp2_with fail
          refine (RSame_any w_94 k k2 Rk.all Rk2.all true (ik.out.same ik2.out)).mono ?_
          rintro e' w_98 ⟨rfl, hB⟩
          clear q_96 q_97
          have lw_98 : w_94.heap.size ≤ w_98.heap.size := hB.size
          replace hMa := box_on hMa hB (lt_of_heap hMa)
          replace hMb := box_on hMb hB (lt_of_heap hMb)
          replace hMu := box_on hMu hB (lt_of_heap hMu)
          replace hMv := box_on hMv hB (lt_of_heap hMv)
          replace hMk := box_on hMk hB (lt_of_heap hMk)
          replace hMk2 := box_on hMk2 hB (lt_of_heap hMk2)
          replace hMp := box_on hMp hB (lt_of_heap hMp)
          replace Ra := RB.on Ra hB
          replace Rb := RB.on Rb hB
          replace Ru := RB.on Ru hB
          replace Rv := RB.on Rv hB
          replace Rk := RB.on Rk hB
          replace Rk2 := RB.on Rk2 hB
          replace Rp := RB.on Rp hB
          replace a_ := Amid.on a_ hB
          clear hB
          clear hMk2
          clear Rk2
          have WkS : WrR w_98 (w_62.heap.size) (B) k.S.A k.S.n := wrM Rk.rows 0
          have WkA : WrR w_98 (w_62.heap.size) (B) k.A.A k.A.n := wrM Rk.rows 3
          clear Rk
          have q_100 := MBox.cells hMk
          go_wp2_with fail
          refine (spoil15_any w_98 k.S.s k.S.A k.S.n k.S.c k.S.e (w_62.heap.size) (B) WkS (nk.out 0 (by decide)) (by omega) (by omega)).mono ?_
          rintro e' w_99 ⟨rfl, hB, hF, hW⟩
          clear q_100
          have lw_99 : w_98.heap.size ≤ w_99.heap.size := hB.size
          replace hMa := box_spoilt hMa hB hF (by omega)
          replace hMb := box_spoilt hMb hB hF (by omega)
          replace hMu := box_spoilt hMu hB hF (by omega)
          replace hMv := box_spoilt hMv hB hF (by omega)
          replace hMk := box_spoilt hMk hB hF (by omega)
          replace hMp := box_spoilt hMp hB hF (by omega)
          replace Ra := RB.spoiltS Ra hB hF (by omega)
          replace Rb := RB.spoiltS Rb hB hF (by omega)
          replace Ru := RB.spoiltS Ru hB hF (by omega)
          replace Rv := RB.spoiltS Rv hB hF (by omega)
          replace Rp := RB.spoiltS Rp hB hF (by omega)
          replace WkA := WrR.keep WkA hW
          replace a_ := amid_spoilt a_ hB (by omega) (by omega)
          clear hB hF hW
          clear WkS
          have q_102 := MBox.cells hMk
          go_wp2_with fail
          refine (spoil15_any w_99 k.A.s k.A.A k.A.n k.A.c k.A.e (w_62.heap.size) (B) WkA (nk.out 3 (by decide)) (by omega) (by omega)).mono ?_
          rintro e' w_101 ⟨rfl, hB, hF, hW⟩
          clear q_102
          have lw_101 : w_99.heap.size ≤ w_101.heap.size := hB.size
          replace hMa := box_spoilt hMa hB hF (by omega)
          replace hMb := box_spoilt hMb hB hF (by omega)
          replace hMu := box_spoilt hMu hB hF (by omega)
          replace hMv := box_spoilt hMv hB hF (by omega)
          replace hMk := box_spoilt hMk hB hF (by omega)
          replace hMp := box_spoilt hMp hB hF (by omega)
          replace Ra := RB.spoiltS Ra hB hF (by omega)
          replace Rb := RB.spoiltS Rb hB hF (by omega)
          replace Ru := RB.spoiltS Ru hB hF (by omega)
          replace Rv := RB.spoiltS Rv hB hF (by omega)
          replace Rp := RB.spoiltS Rp hB hF (by omega)
          replace a_ := amid_spoilt a_ hB (by omega) (by omega)
          clear hB hF hW
          clear WkA
          clear hMk
          have WpW : WrR w_101 (w_68.heap.size) (w_71.heap.size) p.W.A p.W.n := wrM Rp.rows 1
          have WpC : WrR w_101 (w_68.heap.size) (w_71.heap.size) p.C.A p.C.n := wrM Rp.rows 2
          clear Rp
          have q_104 := MBox.cells hMp
          go_wp2_with fail
          refine (spoil15_any w_101 p.W.s p.W.A p.W.n p.W.c p.W.e (w_68.heap.size) (w_71.heap.size) WpW (np.out 1 (by decide)) (by omega) (by omega)).mono ?_
          rintro e' w_103 ⟨rfl, hB, hF, hW⟩
          clear q_104
          have lw_103 : w_101.heap.size ≤ w_103.heap.size := hB.size
          replace hMa := box_spoilt hMa hB hF (by omega)
          replace hMb := box_spoilt hMb hB hF (by omega)
          replace hMu := box_spoilt hMu hB hF (by omega)
          replace hMv := box_spoilt hMv hB hF (by omega)
          replace hMp := box_spoilt hMp hB hF (by omega)
          replace Ra := RB.spoiltS Ra hB hF (by omega)
          replace Rb := RB.spoiltS Rb hB hF (by omega)
          replace Ru := RB.spoiltS Ru hB hF (by omega)
          replace Rv := RB.spoiltS Rv hB hF (by omega)
          replace WpC := WrR.keep WpC hW
          replace a_ := amid_spoilt a_ hB (by omega) (by omega)
          clear hB hF hW
          clear WpW
          have q_106 := MBox.cells hMp
          go_wp2_with fail
          refine (spoil15_any w_103 p.C.s p.C.A p.C.n p.C.c p.C.e (w_68.heap.size) (w_71.heap.size) WpC (np.out 2 (by decide)) (by omega) (by omega)).mono ?_
          rintro e' w_105 ⟨rfl, hB, hF, hW⟩
          clear q_106
          have lw_105 : w_103.heap.size ≤ w_105.heap.size := hB.size
          replace hMa := box_spoilt hMa hB hF (by omega)
          replace hMb := box_spoilt hMb hB hF (by omega)
          replace hMu := box_spoilt hMu hB hF (by omega)
          replace hMv := box_spoilt hMv hB hF (by omega)
          replace hMp := box_spoilt hMp hB hF (by omega)
          replace Ra := RB.spoiltS Ra hB hF (by omega)
          replace Rb := RB.spoiltS Rb hB hF (by omega)
          replace Ru := RB.spoiltS Ru hB hF (by omega)
          replace Rv := RB.spoiltS Rv hB hF (by omega)
          replace a_ := amid_spoilt a_ hB (by omega) (by omega)
          clear hB hF hW
          clear WpC
          clear hMp
          have q_107 := MBox.cells hMu
          have q_108 := MBox.cells hMa
          go_wp2_with fail
          refine (RSame_any w_105 u a Ru.all Ra.all true (twin_same tu.out)).mono ?_
          rintro e' w_109 ⟨rfl, hB⟩
          clear q_107 q_108
          have lw_109 : w_105.heap.size ≤ w_109.heap.size := hB.size
          replace hMa := box_on hMa hB (lt_of_heap hMa)
          replace hMb := box_on hMb hB (lt_of_heap hMb)
          replace hMu := box_on hMu hB (lt_of_heap hMu)
          replace hMv := box_on hMv hB (lt_of_heap hMv)
          replace Ra := RB.on Ra hB
          replace Rb := RB.on Rb hB
          replace Ru := RB.on Ru hB
          replace Rv := RB.on Rv hB
          replace a_ := Amid.on a_ hB
          clear hB
          have q_110 := MBox.cells hMv
          have q_111 := MBox.cells hMb
          go_wp2_with fail
          refine (RSame_any w_109 v b Rv.all Rb.all true (twin_same tv.out)).mono ?_
          rintro e' w_112 ⟨rfl, hB⟩
          clear q_110 q_111
          have lw_112 : w_109.heap.size ≤ w_112.heap.size := hB.size
          replace hMa := box_on hMa hB (lt_of_heap hMa)
          replace hMb := box_on hMb hB (lt_of_heap hMb)
          replace hMu := box_on hMu hB (lt_of_heap hMu)
          replace hMv := box_on hMv hB (lt_of_heap hMv)
          replace Ra := RB.on Ra hB
          replace Rb := RB.on Rb hB
          replace Ru := RB.on Ru hB
          replace Rv := RB.on Rv hB
          replace a_ := Amid.on a_ hB
          clear hB
          go_wp2
          go_ret
          exact ⟨rfl, a_.below⟩
end Ma
end Go.Proofs.YtbbnbgllgomolaaDoor
