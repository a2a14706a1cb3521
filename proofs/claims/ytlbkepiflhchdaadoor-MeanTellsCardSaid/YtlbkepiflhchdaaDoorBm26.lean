/- The law MeanTells: walks (printed by a program of mine). -/
import Derived.Test.YtlbkepiflhchdaaDoorBm25
namespace Go.Proofs.YtlbkepiflhchdaaDoor
open Go.RowKit
namespace Ma
open Dp Dy
set_option maxHeartbeats 102400000 in
set_option maxRecDepth 100000 in
theorem mtells_walk (w : World) (a : Mv) (hA : MRows w 0 w.heap.size a) (b : Mv) (hBb : MRows w 0 w.heap.size b) (hT : Tab w) :
    Calls Tryd.prog 10 #[.agg #[.bool a.S.s, .slice a.S.A a.S.n a.S.c, .int .i64 a.S.e, .bool a.W.s, .slice a.W.A a.W.n a.W.c, .int .i64 a.W.e, .bool a.C.s, .slice a.C.A a.C.n a.C.c, .int .i64 a.C.e, .bool a.A.s, .slice a.A.A a.A.n a.A.c, .int .i64 a.A.e], .agg #[.bool b.S.s, .slice b.S.A b.S.n b.S.c, .int .i64 b.S.e, .bool b.W.s, .slice b.W.A b.W.n b.W.c, .int .i64 b.W.e, .bool b.C.s, .slice b.C.A b.C.n b.C.c, .int .i64 b.C.e, .bool b.A.s, .slice b.A.A b.A.n b.A.c, .int .i64 b.A.e]] w (Yes w) := by
  generalize hw1 : (w.alloc (.cells #[.bool a.S.s, .slice a.S.A a.S.n a.S.c, .int .i64 a.S.e, .bool a.W.s, .slice a.W.A a.W.n a.W.c, .int .i64 a.W.e, .bool a.C.s, .slice a.C.A a.C.n a.C.c, .int .i64 a.C.e, .bool a.A.s, .slice a.A.A a.A.n a.A.c, .int .i64 a.A.e] 39)).alloc (.cells #[.bool b.S.s, .slice b.S.A b.S.n b.S.c, .int .i64 b.S.e, .bool b.W.s, .slice b.W.A b.W.n b.W.c, .int .i64 b.W.e, .bool b.C.s, .slice b.C.A b.C.n b.C.c, .int .i64 b.C.e, .bool b.A.s, .slice b.A.A b.A.n b.A.c, .int .i64 b.A.e] 39) = w1
  obtain ⟨hMa, hMb, hBL, lo1, hi1⟩ := boxes2 w _ _ hw1
  replace hMa : MBox w1 w.heap.size a := hMa
  replace hMb : MBox w1 (w.heap.size + 1) b := hMb
  have a_ : Amid w w1 := Amid.on ⟨Below.refl _ _, hT⟩ hBL
  have Ra : RB w1 0 w.heap.size a := ⟨hA.below hBL (Nat.le_refl _), hBL.size⟩
  have Rb : RB w1 0 w.heap.size b := ⟨hBb.below hBL (Nat.le_refl _), hBL.size⟩
  have g0 := hT.lt
  obtain ⟨ga, hga⟩ : ∃ g, greatM a = g := ⟨_, rfl⟩
  obtain ⟨gb, hgb⟩ : ∃ g, greatM b = g := ⟨_, rfl⟩
  obtain ⟨mR, lR, cm, hrm⟩ : ∃ k s c, meetM a b = ((k, s), c) := ⟨_, _, _, rfl⟩
  obtain ⟨RX, cx, hrx⟩ : ∃ R c, doneM a b = (R, c) := ⟨_, _, rfl⟩
  have mM := Lib.hid (meetM_may hA hBb hrm)
  have mX := Lib.hid (doneM_may hrx)
  have HGA := Lib.hid hga
  have HGB := Lib.hid hgb
  have HM := Lib.hid hrm
  have HX := Lib.hid hrx
  clear hga hgb hrm hrx hBL
  go_enter Tryd.func10, Tryd.ntmps10
  have q_1 := MBox.cells hMa
  go_wp2_with fail
  refine (RGreat_any w1 a Ra.rows ga HGA.out).mono ?_
  rintro e' w_2 ⟨rfl, hB⟩
  clear q_1
  have lw_2 : w1.heap.size ≤ w_2.heap.size := hB.size
  replace hMa := box_on hMa hB (lt_of_heap hMa)
  replace hMb := box_on hMb hB (lt_of_heap hMb)
  replace Ra := RB.on Ra hB
  replace Rb := RB.on Rb hB
  replace a_ := Amid.on a_ hB
  try clear hw1
  clear hB
  cases ga
  rotate_left
  · go_wp2
    go_ret
    exact ⟨rfl, a_.below⟩
  · skip
    have q_3 := MBox.cells hMb
    go_wp2_with fail
    refine (RGreat_any w_2 b Rb.rows gb HGB.out).mono ?_
    rintro e' w_4 ⟨rfl, hB⟩
    clear q_3
    have lw_4 : w_2.heap.size ≤ w_4.heap.size := hB.size
    replace hMa := box_on hMa hB (lt_of_heap hMa)
    replace hMb := box_on hMb hB (lt_of_heap hMb)
    replace Ra := RB.on Ra hB
    replace Rb := RB.on Rb hB
    replace a_ := Amid.on a_ hB
    clear hB
    cases gb
    rotate_left
    · go_wp2
      go_ret
      exact ⟨rfl, a_.below⟩
    · skip
      have na : ∀ x, x < 4 → (a.get x).n ≤ 42 := fun x hx => by
        have h1 := (great_not HGA.out x hx).1
        have h2 := (hA.get x).len
        omega
      have nb : ∀ x, x < 4 → (b.get x).n ≤ 42 := fun x hx => by
        have h1 := (great_not HGB.out x hx).1
        have h2 := (hBb.get x).len
        omega
      replace na := Lib.hid na
      replace nb := Lib.hid nb
      go_upto_region 3 with fail
      go_cut [5, 6] from 24 to 28 (fun s9 s10 wx => ∃ (g9 g10 : Nat) (u v : Mv), s9 = .pointer (some ⟨g9, 0, none⟩) ∧ s10 = .pointer (some ⟨g10, 0, none⟩) ∧ w_4.heap.size ≤ g9 ∧ w_4.heap.size ≤ g10 ∧ MBox wx g9 u ∧ MBox wx g10 v ∧ Below w_4.heap.size w_4 wx ∧ Hid (∀ x, x < 4 → TwinV (a.get x) (u.get x)) ∧ Hid (∀ x, x < 4 → TwinV (b.get x) (v.get x)) ∧ MRows wx w_4.heap.size wx.heap.size u ∧ MRows wx w_4.heap.size wx.heap.size v)
      case first =>
        clear a_
        have b_ : Below w_4.heap.size w_4 w_4 := Below.refl _ _
        refine region_E (Keeps w_4) [] (m := 8) (L := #[false, false, false, false, false, false, false, false]) (by kernel_rfl) (by rfl) (by rfl) ?_
        have kp_ : Keeps w_4 w_4.drew := fun _ _ => rfl
        have hB : Below w_4.heap.size w_4 w_4.drew := (Below.refl _ _).drew
        have sMa := hMa
        have sMb := hMb
        replace Ra : RB w_4.drew 0 w.heap.size _ := RB.on Ra hB
        replace Rb : RB w_4.drew 0 w.heap.size _ := RB.on Rb hB
        clear hMa hMb
        replace b_ := b_.trans hB
        have lw_5 : w_4.heap.size ≤ w_4.drew.heap.size := hB.size
        clear hB
        generalize w_4.drew = w_5 at *
        refine readE (i := 0) (L := #[true, false, false, false, false, false, false, false]) (v := .agg #[.bool a.S.s, .slice a.S.A a.S.n a.S.c, .int .i64 a.S.e, .bool a.W.s, .slice a.W.A a.W.n a.W.c, .int .i64 a.W.e, .bool a.C.s, .slice a.C.A a.C.n a.C.c, .int .i64 a.C.e, .bool a.A.s, .slice a.A.A a.A.n a.A.c, .int .i64 a.A.e]) rfl (by rfl) (by kernel_rfl) (by kernel_rfl) (by kernel_rfl) (fun _ _ _ h => h) (by assumption) (by rfl) ?yr_6 ?zr_6
        case yr_6 =>
          intro w' h1
          have c_ := MBox.cells ((h1 _ (lt_of_heap sMa)).trans sMa)
          go_simp
        try simp only [Act.put, List.setIfInBounds_toArray, List.set_cons_zero, List.set_cons_succ]
        refine readE (i := 2) (L := #[true, false, true, false, false, false, false, false]) (v := .agg #[.bool b.S.s, .slice b.S.A b.S.n b.S.c, .int .i64 b.S.e, .bool b.W.s, .slice b.W.A b.W.n b.W.c, .int .i64 b.W.e, .bool b.C.s, .slice b.C.A b.C.n b.C.c, .int .i64 b.C.e, .bool b.A.s, .slice b.A.A b.A.n b.A.c, .int .i64 b.A.e]) rfl (by rfl) (by kernel_rfl) (by kernel_rfl) (by kernel_rfl) (fun _ _ _ h => h) (by assumption) (by rfl) ?yr_7 ?zr_7
        case yr_7 =>
          intro w' h1
          have c_ := MBox.cells ((h1 _ (lt_of_heap sMb)).trans sMb)
          go_simp
        try simp only [Act.put, List.setIfInBounds_toArray, List.set_cons_zero, List.set_cons_succ]
        refine E_of_G 4 2 (fun (A : Act) L' a' w' => L' = #[true, true, true, true, true, true, false, false] ∧ ∃ (g9 g10 : Nat) (u v : Mv), a' = (((A.put (some 25) (.agg #[.bool u.S.s, .slice u.S.A u.S.n u.S.c, .int .i64 u.S.e, .bool u.W.s, .slice u.W.A u.W.n u.W.c, .int .i64 u.W.e, .bool u.C.s, .slice u.C.A u.C.n u.C.c, .int .i64 u.C.e, .bool u.A.s, .slice u.A.A u.A.n u.A.c, .int .i64 u.A.e])).put (some 27) (.agg #[.bool v.S.s, .slice v.S.A v.S.n v.S.c, .int .i64 v.S.e, .bool v.W.s, .slice v.W.A v.W.n v.W.c, .int .i64 v.W.e, .bool v.C.s, .slice v.C.A v.C.n v.C.c, .int .i64 v.C.e, .bool v.A.s, .slice v.A.A v.A.n v.A.c, .int .i64 v.A.e])).put (some 5) (.pointer (some ⟨g9, 0, none⟩))).put (some 6) (.pointer (some ⟨g10, 0, none⟩)) ∧ w_4.heap.size ≤ g9 ∧ w_4.heap.size ≤ g10 ∧ g9 ≠ g10 ∧ Keeps w_4 w' ∧ MBox w' g9 ZM ∧ MBox w' g10 ZM ∧ Below w_4.heap.size w_4 w' ∧ Hid (∀ x, x < 4 → TwinV (a.get x) (u.get x)) ∧ Hid (∀ x, x < 4 → TwinV (b.get x) (v.get x)) ∧ MRows w' w_4.heap.size w'.heap.size u ∧ MRows w' w_4.heap.size w'.heap.size v ∧ RowsOff w' g9 g10 u ∧ RowsOff w' g9 g10 v) rfl ?_ ?_
        · skip
          refine stepG3 (i := 1) (j := 4) (k := 5) (Li := #[true, true, true, false, false, false, false, false]) (Lj := #[true, false, true, false, true, false, false, false]) (Lk := #[true, false, true, false, false, true, false, false]) rfl rfl rfl (by rfl) (by rfl) (by rfl) (by kernel_rfl) (by rfl) (by rfl) (by rfl) (fun K hK => ?o_8) (fun K hK => ?o_9) (fun K hK => ?o_10)
          case o_8 =>
            
            go_simp
            go_at_call 29
            refine (RTwinM_any w_5 a Ra.all fun x hx => Nat.le_trans (na.out x hx) (by decide)).mono ?_
            rintro e' w_11 ⟨u, rfl, tu, hB, Ru⟩
            replace tu := Lib.hid tu
            replace kp_ := Keeps.on kp_ (by omega) hB
            have lw_11 : w_5.heap.size ≤ w_11.heap.size := hB.size
            replace Ra := RB.on Ra hB
            replace Rb := RB.on Rb hB
            replace b_ := b_.trans (hB.mono (by omega))
            clear hB
            refine hK _ _ ⟨fun _ _ => kp_, ?_⟩
            clear hK K
            try simp only [Act.put, List.setIfInBounds_toArray, List.set_cons_zero, List.set_cons_succ]
            replace Ru := RB.mk Ru (Nat.le_refl _)
            refine stepG3 (i := 3) (j := 4) (k := 5) (Li := #[true, true, true, true, false, false, false, false]) (Lj := #[true, true, true, false, true, false, false, false]) (Lk := #[true, true, true, false, false, true, false, false]) rfl rfl rfl (by rfl) (by rfl) (by rfl) (by kernel_rfl) (by rfl) (by rfl) (by rfl) (fun K hK => ?o_12) (fun K hK => ?o_13) (fun K hK => ?o_14)
            case o_12 =>
              
              go_simp
              go_at_call 29
              refine (RTwinM_any w_11 b Rb.all fun x hx => Nat.le_trans (nb.out x hx) (by decide)).mono ?_
              rintro e' w_15 ⟨v, rfl, tv, hB, Rv⟩
              replace tv := Lib.hid tv
              replace kp_ := Keeps.on kp_ (by omega) hB
              have lw_15 : w_11.heap.size ≤ w_15.heap.size := hB.size
              replace Ra := RB.on Ra hB
              replace Rb := RB.on Rb hB
              replace Ru := RB.on Ru hB
              replace b_ := b_.trans (hB.mono (by omega))
              clear hB
              refine hK _ _ ⟨fun _ _ => kp_, ?_⟩
              clear hK K
              try simp only [Act.put, List.setIfInBounds_toArray, List.set_cons_zero, List.set_cons_succ]
              replace Rv := RB.mk Rv (Nat.le_refl _)
              refine stepG2 (i := 4) (j := 5) (Li := #[true, true, true, true, true, false, false, false]) (Lj := #[true, true, true, true, false, true, false, false]) rfl rfl (by rfl) (by rfl) (by kernel_rfl) (by rfl) (by rfl) (fun K hK => ?o_16) (fun K hK => ?o_17)
              case o_16 =>
                
                go_simp
                obtain ⟨w_18, hc_, hV4_, hB, mw_18⟩ := alloc_z w_15
                rw [hc_]
                clear hc_
                replace kp_ := Keeps.on kp_ (by omega) hB
                have lw_18 : w_15.heap.size ≤ w_18.heap.size := hB.size
                replace Ra := RB.on Ra hB
                replace Rb := RB.on Rb hB
                replace Ru := RB.on Ru hB
                replace Rv := RB.on Rv hB
                replace b_ := b_.trans (hB.mono (by omega))
                clear hB
                refine hK _ _ ⟨fun _ _ => kp_, ?_⟩
                clear hK K
                try simp only [Act.put, List.setIfInBounds_toArray, List.set_cons_zero, List.set_cons_succ]
                have hV4 := hV4_
                clear hV4_
                refine stepG (i := 5) (L := #[true, true, true, true, true, true, false, false]) rfl (by rfl) (by kernel_rfl) (by rfl) (fun K hK => ?_)
                go_simp
                obtain ⟨w_19, hc_, hV5_, hB, mw_19⟩ := alloc_z w_18
                rw [hc_]
                clear hc_
                replace kp_ := Keeps.on kp_ (by omega) hB
                have lw_19 : w_18.heap.size ≤ w_19.heap.size := hB.size
                replace hV4 := box_on hV4 hB (lt_of_heap hV4)
                replace Ra := RB.on Ra hB
                replace Rb := RB.on Rb hB
                replace Ru := RB.on Ru hB
                replace Rv := RB.on Rv hB
                replace b_ := b_.trans (hB.mono (by omega))
                clear hB
                refine hK _ _ ⟨fun _ _ => kp_, ?_⟩
                clear hK K
                try simp only [Act.put, List.setIfInBounds_toArray, List.set_cons_zero, List.set_cons_succ]
                have hV5 := hV5_
                clear hV5_
                exact ⟨rfl, w_15.heap.size, w_18.heap.size, u, v, rfl, by omega, by omega, by omega, kp_, hV4, hV5, b_, tu, tv, Ru.rows.more (by omega) (by omega), Rv.rows.more (by omega) (by omega), rows_or Ru.rows (by omega) (by omega), rows_or Rv.rows (by omega) (by omega)⟩
              case o_17 =>
                
                go_simp
                obtain ⟨w_20, hc_, hV5_, hB, mw_20⟩ := alloc_z w_15
                rw [hc_]
                clear hc_
                replace kp_ := Keeps.on kp_ (by omega) hB
                have lw_20 : w_15.heap.size ≤ w_20.heap.size := hB.size
                replace Ra := RB.on Ra hB
                replace Rb := RB.on Rb hB
                replace Ru := RB.on Ru hB
                replace Rv := RB.on Rv hB
                replace b_ := b_.trans (hB.mono (by omega))
                clear hB
                refine hK _ _ ⟨fun _ _ => kp_, ?_⟩
                clear hK K
                try simp only [Act.put, List.setIfInBounds_toArray, List.set_cons_zero, List.set_cons_succ]
                have hV5 := hV5_
                clear hV5_
                refine stepG (i := 4) (L := #[true, true, true, true, true, true, false, false]) rfl (by rfl) (by kernel_rfl) (by rfl) (fun K hK => ?_)
                go_simp
                obtain ⟨w_21, hc_, hV4_, hB, mw_21⟩ := alloc_z w_20
                rw [hc_]
                clear hc_
                replace kp_ := Keeps.on kp_ (by omega) hB
                have lw_21 : w_20.heap.size ≤ w_21.heap.size := hB.size
                replace hV5 := box_on hV5 hB (lt_of_heap hV5)
                replace Ra := RB.on Ra hB
                replace Rb := RB.on Rb hB
                replace Ru := RB.on Ru hB
                replace Rv := RB.on Rv hB
                replace b_ := b_.trans (hB.mono (by omega))
                clear hB
                refine hK _ _ ⟨fun _ _ => kp_, ?_⟩
                clear hK K
                try simp only [Act.put, List.setIfInBounds_toArray, List.set_cons_zero, List.set_cons_succ]
                have hV4 := hV4_
                clear hV4_
                exact ⟨rfl, w_20.heap.size, w_15.heap.size, u, v, rfl, by omega, by omega, by omega, kp_, hV4, hV5, b_, tu, tv, Ru.rows.more (by omega) (by omega), Rv.rows.more (by omega) (by omega), rows_or Ru.rows (by omega) (by omega), rows_or Rv.rows (by omega) (by omega)⟩
            case o_13 =>
              
              go_simp
              obtain ⟨w_22, hc_, hV4_, hB, mw_22⟩ := alloc_z w_11
              rw [hc_]
              clear hc_
              replace kp_ := Keeps.on kp_ (by omega) hB
              have lw_22 : w_11.heap.size ≤ w_22.heap.size := hB.size
              replace Ra := RB.on Ra hB
              replace Rb := RB.on Rb hB
              replace Ru := RB.on Ru hB
              replace b_ := b_.trans (hB.mono (by omega))
              clear hB
              refine hK _ _ ⟨fun _ _ => kp_, ?_⟩
              clear hK K
              try simp only [Act.put, List.setIfInBounds_toArray, List.set_cons_zero, List.set_cons_succ]
              have hV4 := hV4_
              clear hV4_
              refine stepG2 (i := 3) (j := 5) (Li := #[true, true, true, true, true, false, false, false]) (Lj := #[true, true, true, false, true, true, false, false]) rfl rfl (by rfl) (by rfl) (by kernel_rfl) (by rfl) (by rfl) (fun K hK => ?o_23) (fun K hK => ?o_24)
              case o_23 =>
                
                go_simp
                go_at_call 29
                refine (RTwinM_any w_22 b Rb.all fun x hx => Nat.le_trans (nb.out x hx) (by decide)).mono ?_
                rintro e' w_25 ⟨v, rfl, tv, hB, Rv⟩
                replace tv := Lib.hid tv
                replace kp_ := Keeps.on kp_ (by omega) hB
                have lw_25 : w_22.heap.size ≤ w_25.heap.size := hB.size
                replace hV4 := box_on hV4 hB (lt_of_heap hV4)
                replace Ra := RB.on Ra hB
                replace Rb := RB.on Rb hB
                replace Ru := RB.on Ru hB
                replace b_ := b_.trans (hB.mono (by omega))
                clear hB
                refine hK _ _ ⟨fun _ _ => kp_, ?_⟩
                clear hK K
                try simp only [Act.put, List.setIfInBounds_toArray, List.set_cons_zero, List.set_cons_succ]
                replace Rv := RB.mk Rv (Nat.le_refl _)
                refine stepG (i := 5) (L := #[true, true, true, true, true, true, false, false]) rfl (by rfl) (by kernel_rfl) (by rfl) (fun K hK => ?_)
                go_simp
                obtain ⟨w_26, hc_, hV5_, hB, mw_26⟩ := alloc_z w_25
                rw [hc_]
                clear hc_
                replace kp_ := Keeps.on kp_ (by omega) hB
                have lw_26 : w_25.heap.size ≤ w_26.heap.size := hB.size
                replace hV4 := box_on hV4 hB (lt_of_heap hV4)
                replace Ra := RB.on Ra hB
                replace Rb := RB.on Rb hB
                replace Ru := RB.on Ru hB
                replace Rv := RB.on Rv hB
                replace b_ := b_.trans (hB.mono (by omega))
                clear hB
                refine hK _ _ ⟨fun _ _ => kp_, ?_⟩
                clear hK K
                try simp only [Act.put, List.setIfInBounds_toArray, List.set_cons_zero, List.set_cons_succ]
                have hV5 := hV5_
                clear hV5_
                exact ⟨rfl, w_11.heap.size, w_25.heap.size, u, v, rfl, by omega, by omega, by omega, kp_, hV4, hV5, b_, tu, tv, Ru.rows.more (by omega) (by omega), Rv.rows.more (by omega) (by omega), rows_or Ru.rows (by omega) (by omega), rows_or Rv.rows (by omega) (by omega)⟩
              case o_24 =>
                
                go_simp
                obtain ⟨w_27, hc_, hV5_, hB, mw_27⟩ := alloc_z w_22
                rw [hc_]
                clear hc_
                replace kp_ := Keeps.on kp_ (by omega) hB
                have lw_27 : w_22.heap.size ≤ w_27.heap.size := hB.size
                replace hV4 := box_on hV4 hB (lt_of_heap hV4)
                replace Ra := RB.on Ra hB
                replace Rb := RB.on Rb hB
                replace Ru := RB.on Ru hB
                replace b_ := b_.trans (hB.mono (by omega))
                clear hB
                refine hK _ _ ⟨fun _ _ => kp_, ?_⟩
                clear hK K
                try simp only [Act.put, List.setIfInBounds_toArray, List.set_cons_zero, List.set_cons_succ]
                have hV5 := hV5_
                clear hV5_
                refine stepG (i := 3) (L := #[true, true, true, true, true, true, false, false]) rfl (by rfl) (by kernel_rfl) (by rfl) (fun K hK => ?_)
                go_simp
                go_at_call 29
                refine (RTwinM_any w_27 b Rb.all fun x hx => Nat.le_trans (nb.out x hx) (by decide)).mono ?_
                rintro e' w_28 ⟨v, rfl, tv, hB, Rv⟩
                replace tv := Lib.hid tv
                replace kp_ := Keeps.on kp_ (by omega) hB
                have lw_28 : w_27.heap.size ≤ w_28.heap.size := hB.size
                replace hV4 := box_on hV4 hB (lt_of_heap hV4)
                replace hV5 := box_on hV5 hB (lt_of_heap hV5)
                replace Ra := RB.on Ra hB
                replace Rb := RB.on Rb hB
                replace Ru := RB.on Ru hB
                replace b_ := b_.trans (hB.mono (by omega))
                clear hB
                refine hK _ _ ⟨fun _ _ => kp_, ?_⟩
                clear hK K
                try simp only [Act.put, List.setIfInBounds_toArray, List.set_cons_zero, List.set_cons_succ]
                replace Rv := RB.mk Rv (Nat.le_refl _)
                exact ⟨rfl, w_11.heap.size, w_22.heap.size, u, v, rfl, by omega, by omega, by omega, kp_, hV4, hV5, b_, tu, tv, Ru.rows.more (by omega) (by omega), Rv.rows.more (by omega) (by omega), rows_or Ru.rows (by omega) (by omega), rows_or Rv.rows (by omega) (by omega)⟩
            case o_14 =>
              
              go_simp
              obtain ⟨w_29, hc_, hV5_, hB, mw_29⟩ := alloc_z w_11
              rw [hc_]
              clear hc_
              replace kp_ := Keeps.on kp_ (by omega) hB
              have lw_29 : w_11.heap.size ≤ w_29.heap.size := hB.size
              replace Ra := RB.on Ra hB
              replace Rb := RB.on Rb hB
              replace Ru := RB.on Ru hB
              replace b_ := b_.trans (hB.mono (by omega))
              clear hB
              refine hK _ _ ⟨fun _ _ => kp_, ?_⟩
              clear hK K
              try simp only [Act.put, List.setIfInBounds_toArray, List.set_cons_zero, List.set_cons_succ]
              have hV5 := hV5_
              clear hV5_
              refine stepG2 (i := 3) (j := 4) (Li := #[true, true, true, true, false, true, false, false]) (Lj := #[true, true, true, false, true, true, false, false]) rfl rfl (by rfl) (by rfl) (by kernel_rfl) (by rfl) (by rfl) (fun K hK => ?o_30) (fun K hK => ?o_31)
              case o_30 =>
                
                go_simp
                go_at_call 29
                refine (RTwinM_any w_29 b Rb.all fun x hx => Nat.le_trans (nb.out x hx) (by decide)).mono ?_
                rintro e' w_32 ⟨v, rfl, tv, hB, Rv⟩
                replace tv := Lib.hid tv
                replace kp_ := Keeps.on kp_ (by omega) hB
                have lw_32 : w_29.heap.size ≤ w_32.heap.size := hB.size
                replace hV5 := box_on hV5 hB (lt_of_heap hV5)
                replace Ra := RB.on Ra hB
                replace Rb := RB.on Rb hB
                replace Ru := RB.on Ru hB
                replace b_ := b_.trans (hB.mono (by omega))
                clear hB
                refine hK _ _ ⟨fun _ _ => kp_, ?_⟩
                clear hK K
                try simp only [Act.put, List.setIfInBounds_toArray, List.set_cons_zero, List.set_cons_succ]
                replace Rv := RB.mk Rv (Nat.le_refl _)
                refine stepG (i := 4) (L := #[true, true, true, true, true, true, false, false]) rfl (by rfl) (by kernel_rfl) (by rfl) (fun K hK => ?_)
                go_simp
                obtain ⟨w_33, hc_, hV4_, hB, mw_33⟩ := alloc_z w_32
                rw [hc_]
                clear hc_
                replace kp_ := Keeps.on kp_ (by omega) hB
                have lw_33 : w_32.heap.size ≤ w_33.heap.size := hB.size
                replace hV5 := box_on hV5 hB (lt_of_heap hV5)
                replace Ra := RB.on Ra hB
                replace Rb := RB.on Rb hB
                replace Ru := RB.on Ru hB
                replace Rv := RB.on Rv hB
                replace b_ := b_.trans (hB.mono (by omega))
                clear hB
                refine hK _ _ ⟨fun _ _ => kp_, ?_⟩
                clear hK K
                try simp only [Act.put, List.setIfInBounds_toArray, List.set_cons_zero, List.set_cons_succ]
                have hV4 := hV4_
                clear hV4_
                exact ⟨rfl, w_32.heap.size, w_11.heap.size, u, v, rfl, by omega, by omega, by omega, kp_, hV4, hV5, b_, tu, tv, Ru.rows.more (by omega) (by omega), Rv.rows.more (by omega) (by omega), rows_or Ru.rows (by omega) (by omega), rows_or Rv.rows (by omega) (by omega)⟩
              case o_31 =>
                
                go_simp
                obtain ⟨w_34, hc_, hV4_, hB, mw_34⟩ := alloc_z w_29
                rw [hc_]
                clear hc_
                replace kp_ := Keeps.on kp_ (by omega) hB
                have lw_34 : w_29.heap.size ≤ w_34.heap.size := hB.size
                replace hV5 := box_on hV5 hB (lt_of_heap hV5)
                replace Ra := RB.on Ra hB
                replace Rb := RB.on Rb hB
                replace Ru := RB.on Ru hB
                replace b_ := b_.trans (hB.mono (by omega))
                clear hB
                refine hK _ _ ⟨fun _ _ => kp_, ?_⟩
                clear hK K
                try simp only [Act.put, List.setIfInBounds_toArray, List.set_cons_zero, List.set_cons_succ]
                have hV4 := hV4_
                clear hV4_
                refine stepG (i := 3) (L := #[true, true, true, true, true, true, false, false]) rfl (by rfl) (by kernel_rfl) (by rfl) (fun K hK => ?_)
                go_simp
                go_at_call 29
                refine (RTwinM_any w_34 b Rb.all fun x hx => Nat.le_trans (nb.out x hx) (by decide)).mono ?_
                rintro e' w_35 ⟨v, rfl, tv, hB, Rv⟩
                replace tv := Lib.hid tv
                replace kp_ := Keeps.on kp_ (by omega) hB
                have lw_35 : w_34.heap.size ≤ w_35.heap.size := hB.size
                replace hV5 := box_on hV5 hB (lt_of_heap hV5)
                replace hV4 := box_on hV4 hB (lt_of_heap hV4)
                replace Ra := RB.on Ra hB
                replace Rb := RB.on Rb hB
                replace Ru := RB.on Ru hB
                replace b_ := b_.trans (hB.mono (by omega))
                clear hB
                refine hK _ _ ⟨fun _ _ => kp_, ?_⟩
                clear hK K
                try simp only [Act.put, List.setIfInBounds_toArray, List.set_cons_zero, List.set_cons_succ]
                replace Rv := RB.mk Rv (Nat.le_refl _)
                exact ⟨rfl, w_29.heap.size, w_11.heap.size, u, v, rfl, by omega, by omega, by omega, kp_, hV4, hV5, b_, tu, tv, Ru.rows.more (by omega) (by omega), Rv.rows.more (by omega) (by omega), rows_or Ru.rows (by omega) (by omega), rows_or Rv.rows (by omega) (by omega)⟩
          case o_9 =>
            
            go_simp
            obtain ⟨w_36, hc_, hV4_, hB, mw_36⟩ := alloc_z w_5
            rw [hc_]
            clear hc_
            replace kp_ := Keeps.on kp_ (by omega) hB
            have lw_36 : w_5.heap.size ≤ w_36.heap.size := hB.size
            replace Ra := RB.on Ra hB
            replace Rb := RB.on Rb hB
            replace b_ := b_.trans (hB.mono (by omega))
            clear hB
            refine hK _ _ ⟨fun _ _ => kp_, ?_⟩
            clear hK K
            try simp only [Act.put, List.setIfInBounds_toArray, List.set_cons_zero, List.set_cons_succ]
            have hV4 := hV4_
            clear hV4_
            refine stepG2 (i := 1) (j := 5) (Li := #[true, true, true, false, true, false, false, false]) (Lj := #[true, false, true, false, true, true, false, false]) rfl rfl (by rfl) (by rfl) (by kernel_rfl) (by rfl) (by rfl) (fun K hK => ?o_37) (fun K hK => ?o_38)
            case o_37 =>
              
              go_simp
              go_at_call 29
              refine (RTwinM_any w_36 a Ra.all fun x hx => Nat.le_trans (na.out x hx) (by decide)).mono ?_
              rintro e' w_39 ⟨u, rfl, tu, hB, Ru⟩
              replace tu := Lib.hid tu
              replace kp_ := Keeps.on kp_ (by omega) hB
              have lw_39 : w_36.heap.size ≤ w_39.heap.size := hB.size
              replace hV4 := box_on hV4 hB (lt_of_heap hV4)
              replace Ra := RB.on Ra hB
              replace Rb := RB.on Rb hB
              replace b_ := b_.trans (hB.mono (by omega))
              clear hB
              refine hK _ _ ⟨fun _ _ => kp_, ?_⟩
              clear hK K
              try simp only [Act.put, List.setIfInBounds_toArray, List.set_cons_zero, List.set_cons_succ]
              replace Ru := RB.mk Ru (Nat.le_refl _)
              refine stepG2 (i := 3) (j := 5) (Li := #[true, true, true, true, true, false, false, false]) (Lj := #[true, true, true, false, true, true, false, false]) rfl rfl (by rfl) (by rfl) (by kernel_rfl) (by rfl) (by rfl) (fun K hK => ?o_40) (fun K hK => ?o_41)
              case o_40 =>
                
                go_simp
                go_at_call 29
                refine (RTwinM_any w_39 b Rb.all fun x hx => Nat.le_trans (nb.out x hx) (by decide)).mono ?_
                rintro e' w_42 ⟨v, rfl, tv, hB, Rv⟩
                replace tv := Lib.hid tv
                replace kp_ := Keeps.on kp_ (by omega) hB
                have lw_42 : w_39.heap.size ≤ w_42.heap.size := hB.size
                replace hV4 := box_on hV4 hB (lt_of_heap hV4)
                replace Ra := RB.on Ra hB
                replace Rb := RB.on Rb hB
                replace Ru := RB.on Ru hB
                replace b_ := b_.trans (hB.mono (by omega))
                clear hB
                refine hK _ _ ⟨fun _ _ => kp_, ?_⟩
                clear hK K
                try simp only [Act.put, List.setIfInBounds_toArray, List.set_cons_zero, List.set_cons_succ]
                replace Rv := RB.mk Rv (Nat.le_refl _)
                refine stepG (i := 5) (L := #[true, true, true, true, true, true, false, false]) rfl (by rfl) (by kernel_rfl) (by rfl) (fun K hK => ?_)
                go_simp
                obtain ⟨w_43, hc_, hV5_, hB, mw_43⟩ := alloc_z w_42
                rw [hc_]
                clear hc_
                replace kp_ := Keeps.on kp_ (by omega) hB
                have lw_43 : w_42.heap.size ≤ w_43.heap.size := hB.size
                replace hV4 := box_on hV4 hB (lt_of_heap hV4)
                replace Ra := RB.on Ra hB
                replace Rb := RB.on Rb hB
                replace Ru := RB.on Ru hB
                replace Rv := RB.on Rv hB
                replace b_ := b_.trans (hB.mono (by omega))
                clear hB
                refine hK _ _ ⟨fun _ _ => kp_, ?_⟩
                clear hK K
                try simp only [Act.put, List.setIfInBounds_toArray, List.set_cons_zero, List.set_cons_succ]
                have hV5 := hV5_
                clear hV5_
                exact ⟨rfl, w_5.heap.size, w_42.heap.size, u, v, rfl, by omega, by omega, by omega, kp_, hV4, hV5, b_, tu, tv, Ru.rows.more (by omega) (by omega), Rv.rows.more (by omega) (by omega), rows_or Ru.rows (by omega) (by omega), rows_or Rv.rows (by omega) (by omega)⟩
              case o_41 =>
                
                go_simp
                obtain ⟨w_44, hc_, hV5_, hB, mw_44⟩ := alloc_z w_39
                rw [hc_]
                clear hc_
                replace kp_ := Keeps.on kp_ (by omega) hB
                have lw_44 : w_39.heap.size ≤ w_44.heap.size := hB.size
                replace hV4 := box_on hV4 hB (lt_of_heap hV4)
                replace Ra := RB.on Ra hB
                replace Rb := RB.on Rb hB
                replace Ru := RB.on Ru hB
                replace b_ := b_.trans (hB.mono (by omega))
                clear hB
                refine hK _ _ ⟨fun _ _ => kp_, ?_⟩
                clear hK K
                try simp only [Act.put, List.setIfInBounds_toArray, List.set_cons_zero, List.set_cons_succ]
                have hV5 := hV5_
                clear hV5_
                refine stepG (i := 3) (L := #[true, true, true, true, true, true, false, false]) rfl (by rfl) (by kernel_rfl) (by rfl) (fun K hK => ?_)
                go_simp
                go_at_call 29
                refine (RTwinM_any w_44 b Rb.all fun x hx => Nat.le_trans (nb.out x hx) (by decide)).mono ?_
                rintro e' w_45 ⟨v, rfl, tv, hB, Rv⟩
                replace tv := Lib.hid tv
                replace kp_ := Keeps.on kp_ (by omega) hB
                have lw_45 : w_44.heap.size ≤ w_45.heap.size := hB.size
                replace hV4 := box_on hV4 hB (lt_of_heap hV4)
                replace hV5 := box_on hV5 hB (lt_of_heap hV5)
                replace Ra := RB.on Ra hB
                replace Rb := RB.on Rb hB
                replace Ru := RB.on Ru hB
                replace b_ := b_.trans (hB.mono (by omega))
                clear hB
                refine hK _ _ ⟨fun _ _ => kp_, ?_⟩
                clear hK K
                try simp only [Act.put, List.setIfInBounds_toArray, List.set_cons_zero, List.set_cons_succ]
                replace Rv := RB.mk Rv (Nat.le_refl _)
                exact ⟨rfl, w_5.heap.size, w_39.heap.size, u, v, rfl, by omega, by omega, by omega, kp_, hV4, hV5, b_, tu, tv, Ru.rows.more (by omega) (by omega), Rv.rows.more (by omega) (by omega), rows_or Ru.rows (by omega) (by omega), rows_or Rv.rows (by omega) (by omega)⟩
            case o_38 =>
              
              go_simp
              obtain ⟨w_46, hc_, hV5_, hB, mw_46⟩ := alloc_z w_36
              rw [hc_]
              clear hc_
              replace kp_ := Keeps.on kp_ (by omega) hB
              have lw_46 : w_36.heap.size ≤ w_46.heap.size := hB.size
              replace hV4 := box_on hV4 hB (lt_of_heap hV4)
              replace Ra := RB.on Ra hB
              replace Rb := RB.on Rb hB
              replace b_ := b_.trans (hB.mono (by omega))
              clear hB
              refine hK _ _ ⟨fun _ _ => kp_, ?_⟩
              clear hK K
              try simp only [Act.put, List.setIfInBounds_toArray, List.set_cons_zero, List.set_cons_succ]
              have hV5 := hV5_
              clear hV5_
              refine stepG (i := 1) (L := #[true, true, true, false, true, true, false, false]) rfl (by rfl) (by kernel_rfl) (by rfl) (fun K hK => ?_)
              go_simp
              go_at_call 29
              refine (RTwinM_any w_46 a Ra.all fun x hx => Nat.le_trans (na.out x hx) (by decide)).mono ?_
              rintro e' w_47 ⟨u, rfl, tu, hB, Ru⟩
              replace tu := Lib.hid tu
              replace kp_ := Keeps.on kp_ (by omega) hB
              have lw_47 : w_46.heap.size ≤ w_47.heap.size := hB.size
              replace hV4 := box_on hV4 hB (lt_of_heap hV4)
              replace hV5 := box_on hV5 hB (lt_of_heap hV5)
              replace Ra := RB.on Ra hB
              replace Rb := RB.on Rb hB
              replace b_ := b_.trans (hB.mono (by omega))
              clear hB
              refine hK _ _ ⟨fun _ _ => kp_, ?_⟩
              clear hK K
              try simp only [Act.put, List.setIfInBounds_toArray, List.set_cons_zero, List.set_cons_succ]
              replace Ru := RB.mk Ru (Nat.le_refl _)
              refine stepG (i := 3) (L := #[true, true, true, true, true, true, false, false]) rfl (by rfl) (by kernel_rfl) (by rfl) (fun K hK => ?_)
              go_simp
              go_at_call 29
              refine (RTwinM_any w_47 b Rb.all fun x hx => Nat.le_trans (nb.out x hx) (by decide)).mono ?_
              rintro e' w_48 ⟨v, rfl, tv, hB, Rv⟩
              replace tv := Lib.hid tv
              replace kp_ := Keeps.on kp_ (by omega) hB
              have lw_48 : w_47.heap.size ≤ w_48.heap.size := hB.size
              replace hV4 := box_on hV4 hB (lt_of_heap hV4)
              replace hV5 := box_on hV5 hB (lt_of_heap hV5)
              replace Ra := RB.on Ra hB
              replace Rb := RB.on Rb hB
              replace Ru := RB.on Ru hB
              replace b_ := b_.trans (hB.mono (by omega))
              clear hB
              refine hK _ _ ⟨fun _ _ => kp_, ?_⟩
              clear hK K
              try simp only [Act.put, List.setIfInBounds_toArray, List.set_cons_zero, List.set_cons_succ]
              replace Rv := RB.mk Rv (Nat.le_refl _)
              exact ⟨rfl, w_5.heap.size, w_36.heap.size, u, v, rfl, by omega, by omega, by omega, kp_, hV4, hV5, b_, tu, tv, Ru.rows.more (by omega) (by omega), Rv.rows.more (by omega) (by omega), rows_or Ru.rows (by omega) (by omega), rows_or Rv.rows (by omega) (by omega)⟩
          case o_10 =>
            
            go_simp
            obtain ⟨w_49, hc_, hV5_, hB, mw_49⟩ := alloc_z w_5
            rw [hc_]
            clear hc_
            replace kp_ := Keeps.on kp_ (by omega) hB
            have lw_49 : w_5.heap.size ≤ w_49.heap.size := hB.size
            replace Ra := RB.on Ra hB
            replace Rb := RB.on Rb hB
            replace b_ := b_.trans (hB.mono (by omega))
            clear hB
            refine hK _ _ ⟨fun _ _ => kp_, ?_⟩
            clear hK K
            try simp only [Act.put, List.setIfInBounds_toArray, List.set_cons_zero, List.set_cons_succ]
            have hV5 := hV5_
            clear hV5_
            refine stepG2 (i := 1) (j := 4) (Li := #[true, true, true, false, false, true, false, false]) (Lj := #[true, false, true, false, true, true, false, false]) rfl rfl (by rfl) (by rfl) (by kernel_rfl) (by rfl) (by rfl) (fun K hK => ?o_50) (fun K hK => ?o_51)
            case o_50 =>
              
              go_simp
              go_at_call 29
              refine (RTwinM_any w_49 a Ra.all fun x hx => Nat.le_trans (na.out x hx) (by decide)).mono ?_
              rintro e' w_52 ⟨u, rfl, tu, hB, Ru⟩
              replace tu := Lib.hid tu
              replace kp_ := Keeps.on kp_ (by omega) hB
              have lw_52 : w_49.heap.size ≤ w_52.heap.size := hB.size
              replace hV5 := box_on hV5 hB (lt_of_heap hV5)
              replace Ra := RB.on Ra hB
              replace Rb := RB.on Rb hB
              replace b_ := b_.trans (hB.mono (by omega))
              clear hB
              refine hK _ _ ⟨fun _ _ => kp_, ?_⟩
              clear hK K
              try simp only [Act.put, List.setIfInBounds_toArray, List.set_cons_zero, List.set_cons_succ]
              replace Ru := RB.mk Ru (Nat.le_refl _)
              refine stepG2 (i := 3) (j := 4) (Li := #[true, true, true, true, false, true, false, false]) (Lj := #[true, true, true, false, true, true, false, false]) rfl rfl (by rfl) (by rfl) (by kernel_rfl) (by rfl) (by rfl) (fun K hK => ?o_53) (fun K hK => ?o_54)
              case o_53 =>
                
                go_simp
                go_at_call 29
                refine (RTwinM_any w_52 b Rb.all fun x hx => Nat.le_trans (nb.out x hx) (by decide)).mono ?_
                rintro e' w_55 ⟨v, rfl, tv, hB, Rv⟩
                replace tv := Lib.hid tv
                replace kp_ := Keeps.on kp_ (by omega) hB
                have lw_55 : w_52.heap.size ≤ w_55.heap.size := hB.size
                replace hV5 := box_on hV5 hB (lt_of_heap hV5)
                replace Ra := RB.on Ra hB
                replace Rb := RB.on Rb hB
                replace Ru := RB.on Ru hB
                replace b_ := b_.trans (hB.mono (by omega))
                clear hB
                refine hK _ _ ⟨fun _ _ => kp_, ?_⟩
                clear hK K
                try simp only [Act.put, List.setIfInBounds_toArray, List.set_cons_zero, List.set_cons_succ]
                replace Rv := RB.mk Rv (Nat.le_refl _)
                refine stepG (i := 4) (L := #[true, true, true, true, true, true, false, false]) rfl (by rfl) (by kernel_rfl) (by rfl) (fun K hK => ?_)
                go_simp
                obtain ⟨w_56, hc_, hV4_, hB, mw_56⟩ := alloc_z w_55
                rw [hc_]
                clear hc_
                replace kp_ := Keeps.on kp_ (by omega) hB
                have lw_56 : w_55.heap.size ≤ w_56.heap.size := hB.size
                replace hV5 := box_on hV5 hB (lt_of_heap hV5)
                replace Ra := RB.on Ra hB
                replace Rb := RB.on Rb hB
                replace Ru := RB.on Ru hB
                replace Rv := RB.on Rv hB
                replace b_ := b_.trans (hB.mono (by omega))
                clear hB
                refine hK _ _ ⟨fun _ _ => kp_, ?_⟩
                clear hK K
                try simp only [Act.put, List.setIfInBounds_toArray, List.set_cons_zero, List.set_cons_succ]
                have hV4 := hV4_
                clear hV4_
                exact ⟨rfl, w_55.heap.size, w_5.heap.size, u, v, rfl, by omega, by omega, by omega, kp_, hV4, hV5, b_, tu, tv, Ru.rows.more (by omega) (by omega), Rv.rows.more (by omega) (by omega), rows_or Ru.rows (by omega) (by omega), rows_or Rv.rows (by omega) (by omega)⟩
              case o_54 =>
                
                go_simp
                obtain ⟨w_57, hc_, hV4_, hB, mw_57⟩ := alloc_z w_52
                rw [hc_]
                clear hc_
                replace kp_ := Keeps.on kp_ (by omega) hB
                have lw_57 : w_52.heap.size ≤ w_57.heap.size := hB.size
                replace hV5 := box_on hV5 hB (lt_of_heap hV5)
                replace Ra := RB.on Ra hB
                replace Rb := RB.on Rb hB
                replace Ru := RB.on Ru hB
                replace b_ := b_.trans (hB.mono (by omega))
                clear hB
                refine hK _ _ ⟨fun _ _ => kp_, ?_⟩
                clear hK K
                try simp only [Act.put, List.setIfInBounds_toArray, List.set_cons_zero, List.set_cons_succ]
                have hV4 := hV4_
                clear hV4_
                refine stepG (i := 3) (L := #[true, true, true, true, true, true, false, false]) rfl (by rfl) (by kernel_rfl) (by rfl) (fun K hK => ?_)
                go_simp
                go_at_call 29
                refine (RTwinM_any w_57 b Rb.all fun x hx => Nat.le_trans (nb.out x hx) (by decide)).mono ?_
                rintro e' w_58 ⟨v, rfl, tv, hB, Rv⟩
                replace tv := Lib.hid tv
                replace kp_ := Keeps.on kp_ (by omega) hB
                have lw_58 : w_57.heap.size ≤ w_58.heap.size := hB.size
                replace hV5 := box_on hV5 hB (lt_of_heap hV5)
                replace hV4 := box_on hV4 hB (lt_of_heap hV4)
                replace Ra := RB.on Ra hB
                replace Rb := RB.on Rb hB
                replace Ru := RB.on Ru hB
                replace b_ := b_.trans (hB.mono (by omega))
                clear hB
                refine hK _ _ ⟨fun _ _ => kp_, ?_⟩
                clear hK K
                try simp only [Act.put, List.setIfInBounds_toArray, List.set_cons_zero, List.set_cons_succ]
                replace Rv := RB.mk Rv (Nat.le_refl _)
                exact ⟨rfl, w_52.heap.size, w_5.heap.size, u, v, rfl, by omega, by omega, by omega, kp_, hV4, hV5, b_, tu, tv, Ru.rows.more (by omega) (by omega), Rv.rows.more (by omega) (by omega), rows_or Ru.rows (by omega) (by omega), rows_or Rv.rows (by omega) (by omega)⟩
            case o_51 =>
              
              go_simp
              obtain ⟨w_59, hc_, hV4_, hB, mw_59⟩ := alloc_z w_49
              rw [hc_]
              clear hc_
              replace kp_ := Keeps.on kp_ (by omega) hB
              have lw_59 : w_49.heap.size ≤ w_59.heap.size := hB.size
              replace hV5 := box_on hV5 hB (lt_of_heap hV5)
              replace Ra := RB.on Ra hB
              replace Rb := RB.on Rb hB
              replace b_ := b_.trans (hB.mono (by omega))
              clear hB
              refine hK _ _ ⟨fun _ _ => kp_, ?_⟩
              clear hK K
              try simp only [Act.put, List.setIfInBounds_toArray, List.set_cons_zero, List.set_cons_succ]
              have hV4 := hV4_
              clear hV4_
              refine stepG (i := 1) (L := #[true, true, true, false, true, true, false, false]) rfl (by rfl) (by kernel_rfl) (by rfl) (fun K hK => ?_)
              go_simp
              go_at_call 29
              refine (RTwinM_any w_59 a Ra.all fun x hx => Nat.le_trans (na.out x hx) (by decide)).mono ?_
              rintro e' w_60 ⟨u, rfl, tu, hB, Ru⟩
              replace tu := Lib.hid tu
              replace kp_ := Keeps.on kp_ (by omega) hB
              have lw_60 : w_59.heap.size ≤ w_60.heap.size := hB.size
              replace hV5 := box_on hV5 hB (lt_of_heap hV5)
              replace hV4 := box_on hV4 hB (lt_of_heap hV4)
              replace Ra := RB.on Ra hB
              replace Rb := RB.on Rb hB
              replace b_ := b_.trans (hB.mono (by omega))
              clear hB
              refine hK _ _ ⟨fun _ _ => kp_, ?_⟩
              clear hK K
              try simp only [Act.put, List.setIfInBounds_toArray, List.set_cons_zero, List.set_cons_succ]
              replace Ru := RB.mk Ru (Nat.le_refl _)
              refine stepG (i := 3) (L := #[true, true, true, true, true, true, false, false]) rfl (by rfl) (by kernel_rfl) (by rfl) (fun K hK => ?_)
              go_simp
              go_at_call 29
              refine (RTwinM_any w_60 b Rb.all fun x hx => Nat.le_trans (nb.out x hx) (by decide)).mono ?_
              rintro e' w_61 ⟨v, rfl, tv, hB, Rv⟩
              replace tv := Lib.hid tv
              replace kp_ := Keeps.on kp_ (by omega) hB
              have lw_61 : w_60.heap.size ≤ w_61.heap.size := hB.size
              replace hV5 := box_on hV5 hB (lt_of_heap hV5)
              replace hV4 := box_on hV4 hB (lt_of_heap hV4)
              replace Ra := RB.on Ra hB
              replace Rb := RB.on Rb hB
              replace Ru := RB.on Ru hB
              replace b_ := b_.trans (hB.mono (by omega))
              clear hB
              refine hK _ _ ⟨fun _ _ => kp_, ?_⟩
              clear hK K
              try simp only [Act.put, List.setIfInBounds_toArray, List.set_cons_zero, List.set_cons_succ]
              replace Rv := RB.mk Rv (Nat.le_refl _)
              exact ⟨rfl, w_49.heap.size, w_5.heap.size, u, v, rfl, by omega, by omega, by omega, kp_, hV4, hV5, b_, tu, tv, Ru.rows.more (by omega) (by omega), Rv.rows.more (by omega) (by omega), rows_or Ru.rows (by omega) (by omega), rows_or Rv.rows (by omega) (by omega)⟩
        · rintro L' a' w' ⟨rfl, g9, g10, u, v, rfl, lg9, lg10, hne, kp_, hV4, hV5, b_, tu, tv, Ru, Rv, Ou, Ov⟩
          try simp only [Act.put, List.setIfInBounds_toArray, List.set_cons_zero, List.set_cons_succ]
          have hlt9 : g9 < w'.heap.size := lt_of_heap hV4
          have hlt10 : g10 < w'.heap.size := lt_of_heap hV5
          
          obtain ⟨⟨z0, z1, z2, z3, z4, z5, z6, z7, z8, z9, z10, z11⟩, zf⟩ := MBox.cells hV4
          refine stepK (i := 6) (L := #[true, true, true, true, true, true, true, false]) rfl (by rfl) (by kernel_rfl) (by rfl) (fun K hK => ?_)
          go_simp
          obtain ⟨W6, hc_, hX_, hb_, hf_, l6, l6'⟩ := all_to hV4 u
          rw [hc_]
          clear hc_ z0 z1 z2 z3 z4 z5 z6 z7 z8 z9 z10 z11 zf
          replace kp_ : Keeps w_4 W6 := fun p hp => (hf_ p (by omega)).trans (kp_ p hp)
          replace b_ := hb_ _ _ b_ (by omega)
          refine hK _ _ ⟨fun _ _ => kp_, ?_⟩
          clear hK K hb_
          try simp only [Act.put, List.setIfInBounds_toArray, List.set_cons_zero, List.set_cons_succ]
          replace hV5 : MBox W6 g10 ZM := (hf_ _ (Ne.symm hne)).trans hV5
          replace Ru := Ou.far Ru hf_ (.inl rfl)
          replace Rv := Ov.far Rv hf_ (.inl rfl)
          replace Ou := Ou.on hf_ (.inl rfl)
          replace Ov := Ov.on hf_ (.inl rfl)
          clear hf_
          obtain ⟨⟨z0, z1, z2, z3, z4, z5, z6, z7, z8, z9, z10, z11⟩, zf⟩ := MBox.cells hV5
          refine stepK (i := 7) (L := #[true, true, true, true, true, true, true, true]) rfl (by rfl) (by kernel_rfl) (by rfl) (fun K hK => ?_)
          go_simp
          obtain ⟨W7, hc_, hY_, hb_, hf_, l7, l7'⟩ := all_to hV5 v
          rw [hc_]
          clear hc_ z0 z1 z2 z3 z4 z5 z6 z7 z8 z9 z10 z11 zf
          replace kp_ : Keeps w_4 W7 := fun p hp => (hf_ p (by omega)).trans (kp_ p hp)
          replace b_ := hb_ _ _ b_ (by omega)
          refine hK _ _ ⟨fun _ _ => kp_, ?_⟩
          clear hK K hb_
          try simp only [Act.put, List.setIfInBounds_toArray, List.set_cons_zero, List.set_cons_succ]
          replace hX_ : MBox W7 g9 u := (hf_ _ hne).trans hX_
          replace Ru := Ou.far Ru hf_ (.inr rfl)
          replace Rv := Ov.far Rv hf_ (.inr rfl)
          refine doneE (by kernel_rfl) ?_ _
          go_wp2_with fail
          go_meet
          exact ⟨g9, g10, u, v, rfl, rfl, lg9, lg10, hX_, hY_, b_, tu, tv, Ru.more (Nat.le_refl _) (by omega), Rv.more (Nat.le_refl _) (by omega)⟩
      case rest =>
        obtain ⟨g9, g10, u, v, rfl, rfl, lg9, lg10, hMu, hMv, hB, tu, tv, Ru, Rv⟩ := hcut
        have lu : g9 < wc.heap.size := lt_of_heap hMu
        have lv : g10 < wc.heap.size := lt_of_heap hMv
        obtain ⟨w_62, hwc⟩ : ∃ W : World, W = wc := ⟨_, rfl⟩
        subst hwc
        have lw_62 : w_4.heap.size ≤ w_62.heap.size := hB.size
        replace hMa := box_on hMa hB (lt_of_heap hMa)
        replace hMb := box_on hMb hB (lt_of_heap hMb)
        replace Ra := RB.on Ra hB
        replace Rb := RB.on Rb hB
        replace a_ := Amid.on a_ hB
        clear hB
        obtain ⟨hi0, hhi0⟩ : ∃ h, h = w_62.heap.size := ⟨_, rfl⟩
        have lh1 : hi0 ≤ w_62.heap.size := by omega
        have lh2 : w_62.heap.size ≤ hi0 := by omega
        rw [← hhi0] at Ru Rv
        clear hhi0
        replace Ru := RB.mk Ru lh1
        replace Rv := RB.mk Rv lh1
        have q_63 := MBox.cells hMu
        have q_64 := MBox.cells hMv
        go_wp2_with fail
        refine (Meet_num w_62 u v Ru.all Rv.all a_.tab mR lR cm ((twin_meet tu.out tv.out).trans HM.out)).mono ?_
        rintro e' w_65 ⟨m, d, rfl, hB, jm, jd, Bm, lb1, lb2, Rm, Rd⟩
        clear q_63 q_64
        have lw_65 : w_62.heap.size ≤ w_65.heap.size := hB.size
        replace hMa := box_on hMa hB (lt_of_heap hMa)
        replace hMb := box_on hMb hB (lt_of_heap hMb)
        replace hMu := box_on hMu hB (lt_of_heap hMu)
        replace hMv := box_on hMv hB (lt_of_heap hMv)
        replace Ra := RB.on Ra hB
        replace Rb := RB.on Rb hB
        replace Ru := RB.on Ru hB
        replace Rv := RB.on Rv hB
        replace a_ := Amid.on a_ hB
        replace jm := Lib.hid jm
        replace jd := Lib.hid jd
        try clear hw0_
        replace Rm := RB.mk Rm lb2
        replace Rd := RB.mk Rd (Nat.le_refl _)
        clear hB
        obtain ⟨w_66, hww_66, hMm_, hMd_, hB, mw_66⟩ := alloc_mm w_65 m d
        have lw_66 : w_65.heap.size ≤ w_66.heap.size := hB.size
        replace hMa := box_on hMa hB (lt_of_heap hMa)
        replace hMb := box_on hMb hB (lt_of_heap hMb)
        replace hMu := box_on hMu hB (lt_of_heap hMu)
        replace hMv := box_on hMv hB (lt_of_heap hMv)
        replace Ra := RB.on Ra hB
        replace Rb := RB.on Rb hB
        replace Ru := RB.on Ru hB
        replace Rv := RB.on Rv hB
        replace Rm := RB.on Rm hB
        replace Rd := RB.on Rd hB
        replace a_ := Amid.on a_ hB
        have hMm := hMm_
        have hMd := hMd_
        clear hB hMm_ hMd_
        have q_67 := MBox.cells hMa
        have q_68 := MBox.cells hMb
        go_wp2_with fail
        refine (RMeet_num w_66 a b Ra.all Rb.all mR lR cm HM.out).mono ?_
        rintro e' w_69 ⟨p, q, rfl, hB, jp, jq, Rp, Rq⟩
        clear q_67 q_68
        have lw_69 : w_66.heap.size ≤ w_69.heap.size := hB.size
        replace hMa := box_on hMa hB (lt_of_heap hMa)
        replace hMb := box_on hMb hB (lt_of_heap hMb)
        replace hMu := box_on hMu hB (lt_of_heap hMu)
        replace hMv := box_on hMv hB (lt_of_heap hMv)
        replace hMm := box_on hMm hB (lt_of_heap hMm)
        replace hMd := box_on hMd hB (lt_of_heap hMd)
        replace Ra := RB.on Ra hB
        replace Rb := RB.on Rb hB
        replace Ru := RB.on Ru hB
        replace Rv := RB.on Rv hB
        replace Rm := RB.on Rm hB
        replace Rd := RB.on Rd hB
        replace a_ := Amid.on a_ hB
        replace jp := Lib.hid jp
        replace jq := Lib.hid jq
        try clear hww_66
        replace Rp := RB.mk Rp (Nat.le_refl _)
        replace Rq := RB.mk Rq (Nat.le_refl _)
        clear hB
        obtain ⟨w_70, hww_70, hMp_, hMq_, hB, mw_70⟩ := alloc_mm w_69 p q
        have lw_70 : w_69.heap.size ≤ w_70.heap.size := hB.size
        replace hMa := box_on hMa hB (lt_of_heap hMa)
        replace hMb := box_on hMb hB (lt_of_heap hMb)
        replace hMu := box_on hMu hB (lt_of_heap hMu)
        replace hMv := box_on hMv hB (lt_of_heap hMv)
        replace hMm := box_on hMm hB (lt_of_heap hMm)
        replace hMd := box_on hMd hB (lt_of_heap hMd)
        replace Ra := RB.on Ra hB
        replace Rb := RB.on Rb hB
        replace Ru := RB.on Ru hB
        replace Rv := RB.on Rv hB
        replace Rm := RB.on Rm hB
        replace Rd := RB.on Rd hB
        replace Rp := RB.on Rp hB
        replace Rq := RB.on Rq hB
        replace a_ := Amid.on a_ hB
        have hMp := hMp_
        have hMq := hMq_
        clear hB hMp_ hMq_
        have q_71 := MBox.cells hMu
        have q_72 := MBox.cells hMv
        go_wp2_with fail
        refine (Done_num w_70 u v Ru.all Rv.all a_.tab RX cx ((twin_done tu.out tv.out).trans HX.out)).mono ?_
        rintro e' w_73 ⟨x, rfl, hB, jx, Rx⟩
        clear q_71 q_72
        have lw_73 : w_70.heap.size ≤ w_73.heap.size := hB.size
        replace hMa := box_on hMa hB (lt_of_heap hMa)
        replace hMb := box_on hMb hB (lt_of_heap hMb)
        replace hMu := box_on hMu hB (lt_of_heap hMu)
        replace hMv := box_on hMv hB (lt_of_heap hMv)
        replace hMm := box_on hMm hB (lt_of_heap hMm)
        replace hMd := box_on hMd hB (lt_of_heap hMd)
        replace hMp := box_on hMp hB (lt_of_heap hMp)
        replace hMq := box_on hMq hB (lt_of_heap hMq)
        replace Ra := RB.on Ra hB
        replace Rb := RB.on Rb hB
        replace Ru := RB.on Ru hB
        replace Rv := RB.on Rv hB
        replace Rm := RB.on Rm hB
        replace Rd := RB.on Rd hB
        replace Rp := RB.on Rp hB
        replace Rq := RB.on Rq hB
        replace a_ := Amid.on a_ hB
        replace jx := Lib.hid jx
        try clear hww_70
        replace Rx := RB.mk Rx (Nat.le_refl _)
        clear hB
        obtain ⟨w_74, hww_74, hMx_, hB, mw_74⟩ := alloc_m w_73 x
        have lw_74 : w_73.heap.size ≤ w_74.heap.size := hB.size
        replace hMa := box_on hMa hB (lt_of_heap hMa)
        replace hMb := box_on hMb hB (lt_of_heap hMb)
        replace hMu := box_on hMu hB (lt_of_heap hMu)
        replace hMv := box_on hMv hB (lt_of_heap hMv)
        replace hMm := box_on hMm hB (lt_of_heap hMm)
        replace hMd := box_on hMd hB (lt_of_heap hMd)
        replace hMp := box_on hMp hB (lt_of_heap hMp)
        replace hMq := box_on hMq hB (lt_of_heap hMq)
        replace Ra := RB.on Ra hB
        replace Rb := RB.on Rb hB
        replace Ru := RB.on Ru hB
        replace Rv := RB.on Rv hB
        replace Rm := RB.on Rm hB
        replace Rd := RB.on Rd hB
        replace Rp := RB.on Rp hB
        replace Rq := RB.on Rq hB
        replace Rx := RB.on Rx hB
        replace a_ := Amid.on a_ hB
        have hMx := hMx_
        clear hB hMx_
        have q_75 := MBox.cells hMa
        have q_76 := MBox.cells hMb
        go_wp2_with fail
        refine (RDone_num w_74 a b Ra.all Rb.all RX cx HX.out).mono ?_
        rintro e' w_77 ⟨y, rfl, hB, jy, Ry⟩
        clear q_75 q_76
        have lw_77 : w_74.heap.size ≤ w_77.heap.size := hB.size
        replace hMa := box_on hMa hB (lt_of_heap hMa)
        replace hMb := box_on hMb hB (lt_of_heap hMb)
        replace hMu := box_on hMu hB (lt_of_heap hMu)
        replace hMv := box_on hMv hB (lt_of_heap hMv)
        replace hMm := box_on hMm hB (lt_of_heap hMm)
        replace hMd := box_on hMd hB (lt_of_heap hMd)
        replace hMp := box_on hMp hB (lt_of_heap hMp)
        replace hMq := box_on hMq hB (lt_of_heap hMq)
        replace hMx := box_on hMx hB (lt_of_heap hMx)
        replace Ra := RB.on Ra hB
        replace Rb := RB.on Rb hB
        replace Ru := RB.on Ru hB
        replace Rv := RB.on Rv hB
        replace Rm := RB.on Rm hB
        replace Rd := RB.on Rd hB
        replace Rp := RB.on Rp hB
        replace Rq := RB.on Rq hB
        replace Rx := RB.on Rx hB
        replace a_ := Amid.on a_ hB
        replace jy := Lib.hid jy
        try clear hww_74
        replace Ry := RB.mk Ry (Nat.le_refl _)
        clear hB
        obtain ⟨w_78, hww_78, hMy_, hB, mw_78⟩ := alloc_m w_77 y
        have lw_78 : w_77.heap.size ≤ w_78.heap.size := hB.size
        replace hMa := box_on hMa hB (lt_of_heap hMa)
        replace hMb := box_on hMb hB (lt_of_heap hMb)
        replace hMu := box_on hMu hB (lt_of_heap hMu)
        replace hMv := box_on hMv hB (lt_of_heap hMv)
        replace hMm := box_on hMm hB (lt_of_heap hMm)
        replace hMd := box_on hMd hB (lt_of_heap hMd)
        replace hMp := box_on hMp hB (lt_of_heap hMp)
        replace hMq := box_on hMq hB (lt_of_heap hMq)
        replace hMx := box_on hMx hB (lt_of_heap hMx)
        replace Ra := RB.on Ra hB
        replace Rb := RB.on Rb hB
        replace Ru := RB.on Ru hB
        replace Rv := RB.on Rv hB
        replace Rm := RB.on Rm hB
        replace Rd := RB.on Rd hB
        replace Rp := RB.on Rp hB
        replace Rq := RB.on Rq hB
        replace Rx := RB.on Rx hB
        replace Ry := RB.on Ry hB
        replace a_ := Amid.on a_ hB
        have hMy := hMy_
        clear hB hMy_
        have q_79 := MBox.cells hMm
        have q_80 := MBox.cells hMp
        go_wp2_with fail
        refine (RSame_any w_78 m p Rm.all Rp.all true (jm.out.same jp.out)).mono ?_
        rintro e' w_81 ⟨rfl, hB⟩
        clear q_79 q_80
        have lw_81 : w_78.heap.size ≤ w_81.heap.size := hB.size
        replace hMa := box_on hMa hB (lt_of_heap hMa)
        replace hMb := box_on hMb hB (lt_of_heap hMb)
        replace hMu := box_on hMu hB (lt_of_heap hMu)
        replace hMv := box_on hMv hB (lt_of_heap hMv)
        replace hMm := box_on hMm hB (lt_of_heap hMm)
        replace hMd := box_on hMd hB (lt_of_heap hMd)
        replace hMp := box_on hMp hB (lt_of_heap hMp)
        replace hMq := box_on hMq hB (lt_of_heap hMq)
        replace hMx := box_on hMx hB (lt_of_heap hMx)
        replace hMy := box_on hMy hB (lt_of_heap hMy)
        replace Ra := RB.on Ra hB
        replace Rb := RB.on Rb hB
        replace Ru := RB.on Ru hB
        replace Rv := RB.on Rv hB
        replace Rm := RB.on Rm hB
        replace Rd := RB.on Rd hB
        replace Rp := RB.on Rp hB
        replace Rq := RB.on Rq hB
        replace Rx := RB.on Rx hB
        replace Ry := RB.on Ry hB
        replace a_ := Amid.on a_ hB
        try clear hww_78
        clear hB
        have q_82 := MBox.cells hMd
        have q_83 := MBox.cells hMq
        go_wp2_with fail
        refine (RSame_any w_81 d q Rd.all Rq.all true (jd.out.same jq.out)).mono ?_
        rintro e' w_84 ⟨rfl, hB⟩
        clear q_82 q_83
        have lw_84 : w_81.heap.size ≤ w_84.heap.size := hB.size
        replace hMa := box_on hMa hB (lt_of_heap hMa)
        replace hMb := box_on hMb hB (lt_of_heap hMb)
        replace hMu := box_on hMu hB (lt_of_heap hMu)
        replace hMv := box_on hMv hB (lt_of_heap hMv)
        replace hMm := box_on hMm hB (lt_of_heap hMm)
        replace hMd := box_on hMd hB (lt_of_heap hMd)
        replace hMp := box_on hMp hB (lt_of_heap hMp)
        replace hMq := box_on hMq hB (lt_of_heap hMq)
        replace hMx := box_on hMx hB (lt_of_heap hMx)
        replace hMy := box_on hMy hB (lt_of_heap hMy)
        replace Ra := RB.on Ra hB
        replace Rb := RB.on Rb hB
        replace Ru := RB.on Ru hB
        replace Rv := RB.on Rv hB
        replace Rm := RB.on Rm hB
        replace Rd := RB.on Rd hB
        replace Rp := RB.on Rp hB
        replace Rq := RB.on Rq hB
        replace Rx := RB.on Rx hB
        replace Ry := RB.on Ry hB
        replace a_ := Amid.on a_ hB
        try clear hww_78
        clear hB
        clear hMq
        clear Rq
        have q_85 := MBox.cells hMx
        have q_86 := MBox.cells hMy
        go_wp2_with fail
        refine (RSame_any w_84 x y Rx.all Ry.all true (jx.out.same jy.out)).mono ?_
        rintro e' w_87 ⟨rfl, hB⟩
        clear q_85 q_86
        have lw_87 : w_84.heap.size ≤ w_87.heap.size := hB.size
        replace hMa := box_on hMa hB (lt_of_heap hMa)
        replace hMb := box_on hMb hB (lt_of_heap hMb)
        replace hMu := box_on hMu hB (lt_of_heap hMu)
        replace hMv := box_on hMv hB (lt_of_heap hMv)
        replace hMm := box_on hMm hB (lt_of_heap hMm)
        replace hMd := box_on hMd hB (lt_of_heap hMd)
        replace hMp := box_on hMp hB (lt_of_heap hMp)
        replace hMx := box_on hMx hB (lt_of_heap hMx)
        replace hMy := box_on hMy hB (lt_of_heap hMy)
        replace Ra := RB.on Ra hB
        replace Rb := RB.on Rb hB
        replace Ru := RB.on Ru hB
        replace Rv := RB.on Rv hB
        replace Rm := RB.on Rm hB
        replace Rd := RB.on Rd hB
        replace Rp := RB.on Rp hB
        replace Rx := RB.on Rx hB
        replace Ry := RB.on Ry hB
        replace a_ := Amid.on a_ hB
        try clear hww_78
        clear hB
        clear hMy
        clear Ry
        have q_88 := MBox.cells hMd
        go_wp2_with fail
        refine (spoil16_any w_87 d (Bm) (w_65.heap.size) Rd.rows (isM_n Rd.rows jd.out mM.out.2) Rd.le (by omega)).mono ?_
        rintro e' w_89 ⟨rfl, hB, hF⟩
        clear q_88
        clear Rd
        have lw_89 : w_87.heap.size ≤ w_89.heap.size := hB.size
        replace hMa := box_spoilt hMa hB hF (by omega)
        replace hMb := box_spoilt hMb hB hF (by omega)
        replace hMu := box_spoilt hMu hB hF (by omega)
        replace hMv := box_spoilt hMv hB hF (by omega)
        replace hMm := box_spoilt hMm hB hF (by omega)
        replace hMd := box_spoilt hMd hB hF (by omega)
        replace hMp := box_spoilt hMp hB hF (by omega)
        replace hMx := box_spoilt hMx hB hF (by omega)
        replace Ra := RB.spoilt Ra hB hF (by omega)
        replace Rb := RB.spoilt Rb hB hF (by omega)
        replace Ru := RB.spoilt Ru hB hF (by omega)
        replace Rv := RB.spoilt Rv hB hF (by omega)
        replace Rm := RB.spoilt Rm hB hF (by omega)
        replace Rp := RB.spoilt Rp hB hF (by omega)
        replace Rx := RB.spoilt Rx hB hF (by omega)
        replace a_ := amid_spoilt a_ hB (by omega) (by omega)
        clear hB hF
        clear hMd
        have q_90 := MBox.cells hMm
        have q_91 := MBox.cells hMp
        go_wp2_with fail
        refine (RSame_any w_89 m p Rm.all Rp.all true (jm.out.same jp.out)).mono ?_
        rintro e' w_92 ⟨rfl, hB⟩
        clear q_90 q_91
        have lw_92 : w_89.heap.size ≤ w_92.heap.size := hB.size
        replace hMa := box_on hMa hB (lt_of_heap hMa)
        replace hMb := box_on hMb hB (lt_of_heap hMb)
        replace hMu := box_on hMu hB (lt_of_heap hMu)
        replace hMv := box_on hMv hB (lt_of_heap hMv)
        replace hMm := box_on hMm hB (lt_of_heap hMm)
        replace hMp := box_on hMp hB (lt_of_heap hMp)
        replace hMx := box_on hMx hB (lt_of_heap hMx)
        replace Ra := RB.on Ra hB
        replace Rb := RB.on Rb hB
        replace Ru := RB.on Ru hB
        replace Rv := RB.on Rv hB
        replace Rm := RB.on Rm hB
        replace Rp := RB.on Rp hB
        replace Rx := RB.on Rx hB
        replace a_ := Amid.on a_ hB
        try clear hww_78
        clear hB
        clear hMp
        clear Rp
        have q_93 := MBox.cells hMm
        go_wp2_with fail
        refine (spoil16_any w_92 m (w_62.heap.size) (Bm) Rm.rows (isM_n Rm.rows jm.out mM.out.1) Rm.le (by omega)).mono ?_
        rintro e' w_94 ⟨rfl, hB, hF⟩
        clear q_93
        clear Rm
        have lw_94 : w_92.heap.size ≤ w_94.heap.size := hB.size
        replace hMa := box_spoilt hMa hB hF (by omega)
        replace hMb := box_spoilt hMb hB hF (by omega)
        replace hMu := box_spoilt hMu hB hF (by omega)
        replace hMv := box_spoilt hMv hB hF (by omega)
        replace hMm := box_spoilt hMm hB hF (by omega)
        replace hMx := box_spoilt hMx hB hF (by omega)
        replace Ra := RB.spoilt Ra hB hF (by omega)
        replace Rb := RB.spoilt Rb hB hF (by omega)
        replace Ru := RB.spoilt Ru hB hF (by omega)
        replace Rv := RB.spoilt Rv hB hF (by omega)
        replace Rx := RB.spoilt Rx hB hF (by omega)
        replace a_ := amid_spoilt a_ hB (by omega) (by omega)
        clear hB hF
        clear hMm
        have q_95 := MBox.cells hMx
        go_wp2_with fail
        refine (spoil16_any w_94 x (w_70.heap.size) (w_73.heap.size) Rx.rows (isM_n Rx.rows jx.out mX.out) Rx.le (by omega)).mono ?_
        rintro e' w_96 ⟨rfl, hB, hF⟩
        clear q_95
        clear Rx
        have lw_96 : w_94.heap.size ≤ w_96.heap.size := hB.size
        replace hMa := box_spoilt hMa hB hF (by omega)
        replace hMb := box_spoilt hMb hB hF (by omega)
        replace hMu := box_spoilt hMu hB hF (by omega)
        replace hMv := box_spoilt hMv hB hF (by omega)
        replace hMx := box_spoilt hMx hB hF (by omega)
        replace Ra := RB.spoilt Ra hB hF (by omega)
        replace Rb := RB.spoilt Rb hB hF (by omega)
        replace Ru := RB.spoilt Ru hB hF (by omega)
        replace Rv := RB.spoilt Rv hB hF (by omega)
        replace a_ := amid_spoilt a_ hB (by omega) (by omega)
        clear hB hF
        clear hMx
        have q_97 := MBox.cells hMu
        have q_98 := MBox.cells hMa
        go_wp2_with fail
        refine (RSame_any w_96 u a Ru.all Ra.all true (twin_same tu.out)).mono ?_
        rintro e' w_99 ⟨rfl, hB⟩
        clear q_97 q_98
        have lw_99 : w_96.heap.size ≤ w_99.heap.size := hB.size
        replace hMa := box_on hMa hB (lt_of_heap hMa)
        replace hMb := box_on hMb hB (lt_of_heap hMb)
        replace hMu := box_on hMu hB (lt_of_heap hMu)
        replace hMv := box_on hMv hB (lt_of_heap hMv)
        replace Ra := RB.on Ra hB
        replace Rb := RB.on Rb hB
        replace Ru := RB.on Ru hB
        replace Rv := RB.on Rv hB
        replace a_ := Amid.on a_ hB
        try clear hww_78
        clear hB
        have q_100 := MBox.cells hMv
        have q_101 := MBox.cells hMb
        go_wp2_with fail
        refine (RSame_any w_99 v b Rv.all Rb.all true (twin_same tv.out)).mono ?_
        rintro e' w_102 ⟨rfl, hB⟩
        clear q_100 q_101
        have lw_102 : w_99.heap.size ≤ w_102.heap.size := hB.size
        replace hMa := box_on hMa hB (lt_of_heap hMa)
        replace hMb := box_on hMb hB (lt_of_heap hMb)
        replace hMu := box_on hMu hB (lt_of_heap hMu)
        replace hMv := box_on hMv hB (lt_of_heap hMv)
        replace Ra := RB.on Ra hB
        replace Rb := RB.on Rb hB
        replace Ru := RB.on Ru hB
        replace Rv := RB.on Rv hB
        replace a_ := Amid.on a_ hB
        try clear hww_78
        clear hB
        go_wp2
        go_ret
        exact ⟨rfl, a_.below⟩
end Ma
end Go.Proofs.YtlbkepiflhchdaaDoor
