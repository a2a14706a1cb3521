/- The law MassTells: walks (printed by a program of mine). -/
import Derived.Test.YtlbkepiflhchdaaDoorBn32
namespace Go.Proofs.YtlbkepiflhchdaaDoor
open Go.RowKit
namespace Ma
open Dp Dy
set_option maxHeartbeats 102400000 in
set_option maxRecDepth 100000 in
theorem tells_walk (w : World) (a : Mv) (hA : MRows w 0 w.heap.size a) (b : Mv) (hBb : MRows w 0 w.heap.size b) (x : Int) (_hx : (Lit.int .i64 x).wf = true) (first : Bool) (hT : Tab w) :
    Calls Tryd.prog 12 #[.agg #[.bool a.S.s, .slice a.S.A a.S.n a.S.c, .int .i64 a.S.e, .bool a.W.s, .slice a.W.A a.W.n a.W.c, .int .i64 a.W.e, .bool a.C.s, .slice a.C.A a.C.n a.C.c, .int .i64 a.C.e, .bool a.A.s, .slice a.A.A a.A.n a.A.c, .int .i64 a.A.e], .agg #[.bool b.S.s, .slice b.S.A b.S.n b.S.c, .int .i64 b.S.e, .bool b.W.s, .slice b.W.A b.W.n b.W.c, .int .i64 b.W.e, .bool b.C.s, .slice b.C.A b.C.n b.C.c, .int .i64 b.C.e, .bool b.A.s, .slice b.A.A b.A.n b.A.c, .int .i64 b.A.e], .int .i64 x, .bool first] w (Yes w) := by
  generalize hw1 : (w.alloc (.cells #[.bool a.S.s, .slice a.S.A a.S.n a.S.c, .int .i64 a.S.e, .bool a.W.s, .slice a.W.A a.W.n a.W.c, .int .i64 a.W.e, .bool a.C.s, .slice a.C.A a.C.n a.C.c, .int .i64 a.C.e, .bool a.A.s, .slice a.A.A a.A.n a.A.c, .int .i64 a.A.e] 39)).alloc (.cells #[.bool b.S.s, .slice b.S.A b.S.n b.S.c, .int .i64 b.S.e, .bool b.W.s, .slice b.W.A b.W.n b.W.c, .int .i64 b.W.e, .bool b.C.s, .slice b.C.A b.C.n b.C.c, .int .i64 b.C.e, .bool b.A.s, .slice b.A.A b.A.n b.A.c, .int .i64 b.A.e] 39) = w1
  obtain ⟨hMa, hMb, hBL, lo1, hi1⟩ := boxes2 w _ _ hw1
  replace hMa : MBox w1 w.heap.size a := hMa
  replace hMb : MBox w1 (w.heap.size + 1) b := hMb
  have a_ : Amid w w1 := Amid.on ⟨Below.refl _ _, hT⟩ hBL
  have Ra : RB w1 0 w.heap.size a := ⟨hA.below hBL (Nat.le_refl _), hBL.size⟩
  have Rb : RB w1 0 w.heap.size b := ⟨hBb.below hBL (Nat.le_refl _), hBL.size⟩
  have g0 := hT.lt
  obtain ⟨ga, hga⟩ : ∃ g, greatM a = g := ⟨_, rfl⟩
  obtain ⟨gb, hgb⟩ : ∃ g, greatM b = g := ⟨_, rfl⟩
  obtain ⟨RX, cx, hrx⟩ : ∃ R c, addM a b = (R, c) := ⟨_, _, rfl⟩
  obtain ⟨RD, cd, hrd⟩ : ∃ R c, subM a b = (R, c) := ⟨_, _, rfl⟩
  obtain ⟨kR, sR, ck, hrk⟩ : ∃ k s c, splitM a = ((k, s), c) := ⟨_, _, _, rfl⟩
  obtain ⟨RM, cm, hrm⟩ : ∃ R c, seedM x first = (R, c) := ⟨_, _, rfl⟩
  obtain ⟨kc, hkc⟩ : ∃ k, chkM a = k := ⟨_, rfl⟩
  obtain ⟨eq, heq⟩ : ∃ k, sameM a b = k := ⟨_, rfl⟩
  have mX : MayR RX := by have := addM_may a b; rw [hrx] at this; exact this
  have mD : MayR RD := by have := subM_may a b; rw [hrd] at this; exact this
  have mK := splitM_may hA hrk
  have mM := seedM_may hrm
  have MX := Lib.hid mX
  have MD := Lib.hid mD
  have MK := Lib.hid mK
  have MM := Lib.hid mM
  have HGA := Lib.hid hga
  have HGB := Lib.hid hgb
  have HX := Lib.hid hrx
  have HD := Lib.hid hrd
  have HK := Lib.hid hrk
  have HM := Lib.hid hrm
  have HC := Lib.hid hkc
  have HE := Lib.hid heq
  clear hga hgb hrx hrd hrk hrm hkc heq hBL mX mD mK mM
  go_enter Tryd.func12, Tryd.ntmps12
  have q_1 := MBox.cells hMa
  go_wp2_with fail
  refine (RGreat_any w1 a Ra.rows ga HGA.out).mono ?_
  rintro e' w_2 ⟨rfl, hB⟩
  clear q_1
  have lw_2 : w1.heap.size ≤ w_2.heap.size := hB.size
  replace hMa := box_on hMa hB (lt_of_heap hMa)
  replace hMb := box_on hMb hB (lt_of_heap hMb)
  replace Ra := RB.on Ra hB
  replace Rb := RB.on Rb hB
  replace a_ := Amid.on a_ hB
  try clear hw1
  clear hB
  cases ga
  rotate_left
  · go_wp2
    go_ret
    exact ⟨rfl, a_.below⟩
  · skip
    have q_3 := MBox.cells hMb
    go_wp2_with fail
    refine (RGreat_any w_2 b Rb.rows gb HGB.out).mono ?_
    rintro e' w_4 ⟨rfl, hB⟩
    clear q_3
    have lw_4 : w_2.heap.size ≤ w_4.heap.size := hB.size
    replace hMa := box_on hMa hB (lt_of_heap hMa)
    replace hMb := box_on hMb hB (lt_of_heap hMb)
    replace Ra := RB.on Ra hB
    replace Rb := RB.on Rb hB
    replace a_ := Amid.on a_ hB
    clear hB
    cases gb
    rotate_left
    · go_wp2
      go_ret
      exact ⟨rfl, a_.below⟩
    · skip
      have na : ∀ x, x < 4 → (a.get x).n ≤ 42 := fun x hx => by
        have h1 := (great_not HGA.out x hx).1
        have h2 := (hA.get x).len
        omega
      have nb : ∀ x, x < 4 → (b.get x).n ≤ 42 := fun x hx => by
        have h1 := (great_not HGB.out x hx).1
        have h2 := (hBb.get x).len
        omega
      replace na := Lib.hid na
      replace nb := Lib.hid nb
      go_upto_region 3 with fail
      go_cut [9, 10] from 38 to 42 (fun s9 s10 wx => ∃ (g9 g10 : Nat) (u v : Mv), s9 = .pointer (some ⟨g9, 0, none⟩) ∧ s10 = .pointer (some ⟨g10, 0, none⟩) ∧ w_4.heap.size ≤ g9 ∧ w_4.heap.size ≤ g10 ∧ MBox wx g9 u ∧ MBox wx g10 v ∧ Below w_4.heap.size w_4 wx ∧ Hid (∀ x, x < 4 → TwinV (a.get x) (u.get x)) ∧ Hid (∀ x, x < 4 → TwinV (b.get x) (v.get x)) ∧ MRows wx w_4.heap.size wx.heap.size u ∧ MRows wx w_4.heap.size wx.heap.size v)
      case first =>
        clear a_
        have b_ : Below w_4.heap.size w_4 w_4 := Below.refl _ _
        refine region_E (Keeps w_4) [] (m := 8) (L := #[false, false, false, false, false, false, false, false]) (by kernel_rfl) (by rfl) (by rfl) ?_
        have kp_ : Keeps w_4 w_4.drew := fun _ _ => rfl
        have hB : Below w_4.heap.size w_4 w_4.drew := (Below.refl _ _).drew
        have sMa := hMa
        have sMb := hMb
        replace Ra : RB w_4.drew 0 w.heap.size _ := RB.on Ra hB
        replace Rb : RB w_4.drew 0 w.heap.size _ := RB.on Rb hB
        clear hMa hMb
        replace b_ := b_.trans hB
        have lw_5 : w_4.heap.size ≤ w_4.drew.heap.size := hB.size
        clear hB
        generalize w_4.drew = w_5 at *
        refine readE (i := 0) (L := #[true, false, false, false, false, false, false, false]) (v := .agg #[.bool a.S.s, .slice a.S.A a.S.n a.S.c, .int .i64 a.S.e, .bool a.W.s, .slice a.W.A a.W.n a.W.c, .int .i64 a.W.e, .bool a.C.s, .slice a.C.A a.C.n a.C.c, .int .i64 a.C.e, .bool a.A.s, .slice a.A.A a.A.n a.A.c, .int .i64 a.A.e]) rfl (by rfl) (by kernel_rfl) (by kernel_rfl) (by kernel_rfl) (fun _ _ _ h => h) (by assumption) (by rfl) ?yr_6 ?zr_6
        case yr_6 =>
          intro w' h1
          have c_ := MBox.cells ((h1 _ (lt_of_heap sMa)).trans sMa)
          go_simp
        try simp only [Act.put, List.setIfInBounds_toArray, List.set_cons_zero, List.set_cons_succ]
        refine readE (i := 2) (L := #[true, false, true, false, false, false, false, false]) (v := .agg #[.bool b.S.s, .slice b.S.A b.S.n b.S.c, .int .i64 b.S.e, .bool b.W.s, .slice b.W.A b.W.n b.W.c, .int .i64 b.W.e, .bool b.C.s, .slice b.C.A b.C.n b.C.c, .int .i64 b.C.e, .bool b.A.s, .slice b.A.A b.A.n b.A.c, .int .i64 b.A.e]) rfl (by rfl) (by kernel_rfl) (by kernel_rfl) (by kernel_rfl) (fun _ _ _ h => h) (by assumption) (by rfl) ?yr_7 ?zr_7
        case yr_7 =>
          intro w' h1
          have c_ := MBox.cells ((h1 _ (lt_of_heap sMb)).trans sMb)
          go_simp
        try simp only [Act.put, List.setIfInBounds_toArray, List.set_cons_zero, List.set_cons_succ]
        refine E_of_G 4 2 (fun (A : Act) L' a' w' => L' = #[true, true, true, true, true, true, false, false] ∧ ∃ (g9 g10 : Nat) (u v : Mv), a' = (((A.put (some 39) (.agg #[.bool u.S.s, .slice u.S.A u.S.n u.S.c, .int .i64 u.S.e, .bool u.W.s, .slice u.W.A u.W.n u.W.c, .int .i64 u.W.e, .bool u.C.s, .slice u.C.A u.C.n u.C.c, .int .i64 u.C.e, .bool u.A.s, .slice u.A.A u.A.n u.A.c, .int .i64 u.A.e])).put (some 41) (.agg #[.bool v.S.s, .slice v.S.A v.S.n v.S.c, .int .i64 v.S.e, .bool v.W.s, .slice v.W.A v.W.n v.W.c, .int .i64 v.W.e, .bool v.C.s, .slice v.C.A v.C.n v.C.c, .int .i64 v.C.e, .bool v.A.s, .slice v.A.A v.A.n v.A.c, .int .i64 v.A.e])).put (some 9) (.pointer (some ⟨g9, 0, none⟩))).put (some 10) (.pointer (some ⟨g10, 0, none⟩)) ∧ w_4.heap.size ≤ g9 ∧ w_4.heap.size ≤ g10 ∧ g9 ≠ g10 ∧ Keeps w_4 w' ∧ MBox w' g9 ZM ∧ MBox w' g10 ZM ∧ Below w_4.heap.size w_4 w' ∧ Hid (∀ x, x < 4 → TwinV (a.get x) (u.get x)) ∧ Hid (∀ x, x < 4 → TwinV (b.get x) (v.get x)) ∧ MRows w' w_4.heap.size w'.heap.size u ∧ MRows w' w_4.heap.size w'.heap.size v ∧ RowsOff w' g9 g10 u ∧ RowsOff w' g9 g10 v) rfl ?_ ?_
        · skip
          refine stepG3 (i := 1) (j := 4) (k := 5) (Li := #[true, true, true, false, false, false, false, false]) (Lj := #[true, false, true, false, true, false, false, false]) (Lk := #[true, false, true, false, false, true, false, false]) rfl rfl rfl (by rfl) (by rfl) (by rfl) (by kernel_rfl) (by rfl) (by rfl) (by rfl) (fun K hK => ?o_8) (fun K hK => ?o_9) (fun K hK => ?o_10)
          case o_8 =>
            
            go_simp
            go_at_call 29
            refine (RTwinM_any w_5 a Ra.all fun x hx => Nat.le_trans (na.out x hx) (by decide)).mono ?_
            rintro e' w_11 ⟨u, rfl, tu, hB, Ru⟩
            replace tu := Lib.hid tu
            replace kp_ := Keeps.on kp_ (by omega) hB
            have lw_11 : w_5.heap.size ≤ w_11.heap.size := hB.size
            replace Ra := RB.on Ra hB
            replace Rb := RB.on Rb hB
            replace b_ := b_.trans (hB.mono (by omega))
            clear hB
            refine hK _ _ ⟨fun _ _ => kp_, ?_⟩
            clear hK K
            try simp only [Act.put, List.setIfInBounds_toArray, List.set_cons_zero, List.set_cons_succ]
            replace Ru := RB.mk Ru (Nat.le_refl _)
            refine stepG3 (i := 3) (j := 4) (k := 5) (Li := #[true, true, true, true, false, false, false, false]) (Lj := #[true, true, true, false, true, false, false, false]) (Lk := #[true, true, true, false, false, true, false, false]) rfl rfl rfl (by rfl) (by rfl) (by rfl) (by kernel_rfl) (by rfl) (by rfl) (by rfl) (fun K hK => ?o_12) (fun K hK => ?o_13) (fun K hK => ?o_14)
            case o_12 =>
              
              go_simp
              go_at_call 29
              refine (RTwinM_any w_11 b Rb.all fun x hx => Nat.le_trans (nb.out x hx) (by decide)).mono ?_
              rintro e' w_15 ⟨v, rfl, tv, hB, Rv⟩
              replace tv := Lib.hid tv
              replace kp_ := Keeps.on kp_ (by omega) hB
              have lw_15 : w_11.heap.size ≤ w_15.heap.size := hB.size
              replace Ra := RB.on Ra hB
              replace Rb := RB.on Rb hB
              replace Ru := RB.on Ru hB
              replace b_ := b_.trans (hB.mono (by omega))
              clear hB
              refine hK _ _ ⟨fun _ _ => kp_, ?_⟩
              clear hK K
              try simp only [Act.put, List.setIfInBounds_toArray, List.set_cons_zero, List.set_cons_succ]
              replace Rv := RB.mk Rv (Nat.le_refl _)
              refine stepG2 (i := 4) (j := 5) (Li := #[true, true, true, true, true, false, false, false]) (Lj := #[true, true, true, true, false, true, false, false]) rfl rfl (by rfl) (by rfl) (by kernel_rfl) (by rfl) (by rfl) (fun K hK => ?o_16) (fun K hK => ?o_17)
              case o_16 =>
                
                go_simp
                obtain ⟨w_18, hc_, hV4_, hB, mw_18⟩ := alloc_z w_15
                rw [hc_]
                clear hc_
                replace kp_ := Keeps.on kp_ (by omega) hB
                have lw_18 : w_15.heap.size ≤ w_18.heap.size := hB.size
                replace Ra := RB.on Ra hB
                replace Rb := RB.on Rb hB
                replace Ru := RB.on Ru hB
                replace Rv := RB.on Rv hB
                replace b_ := b_.trans (hB.mono (by omega))
                clear hB
                refine hK _ _ ⟨fun _ _ => kp_, ?_⟩
                clear hK K
                try simp only [Act.put, List.setIfInBounds_toArray, List.set_cons_zero, List.set_cons_succ]
                have hV4 := hV4_
                clear hV4_
                refine stepG (i := 5) (L := #[true, true, true, true, true, true, false, false]) rfl (by rfl) (by kernel_rfl) (by rfl) (fun K hK => ?_)
                go_simp
                obtain ⟨w_19, hc_, hV5_, hB, mw_19⟩ := alloc_z w_18
                rw [hc_]
                clear hc_
                replace kp_ := Keeps.on kp_ (by omega) hB
                have lw_19 : w_18.heap.size ≤ w_19.heap.size := hB.size
                replace hV4 := box_on hV4 hB (lt_of_heap hV4)
                replace Ra := RB.on Ra hB
                replace Rb := RB.on Rb hB
                replace Ru := RB.on Ru hB
                replace Rv := RB.on Rv hB
                replace b_ := b_.trans (hB.mono (by omega))
                clear hB
                refine hK _ _ ⟨fun _ _ => kp_, ?_⟩
                clear hK K
                try simp only [Act.put, List.setIfInBounds_toArray, List.set_cons_zero, List.set_cons_succ]
                have hV5 := hV5_
                clear hV5_
                exact ⟨rfl, w_15.heap.size, w_18.heap.size, u, v, rfl, by omega, by omega, by omega, kp_, hV4, hV5, b_, tu, tv, Ru.rows.more (by omega) (by omega), Rv.rows.more (by omega) (by omega), rows_or Ru.rows (by omega) (by omega), rows_or Rv.rows (by omega) (by omega)⟩
              case o_17 =>
                
                go_simp
                obtain ⟨w_20, hc_, hV5_, hB, mw_20⟩ := alloc_z w_15
                rw [hc_]
                clear hc_
                replace kp_ := Keeps.on kp_ (by omega) hB
                have lw_20 : w_15.heap.size ≤ w_20.heap.size := hB.size
                replace Ra := RB.on Ra hB
                replace Rb := RB.on Rb hB
                replace Ru := RB.on Ru hB
                replace Rv := RB.on Rv hB
                replace b_ := b_.trans (hB.mono (by omega))
                clear hB
                refine hK _ _ ⟨fun _ _ => kp_, ?_⟩
                clear hK K
                try simp only [Act.put, List.setIfInBounds_toArray, List.set_cons_zero, List.set_cons_succ]
                have hV5 := hV5_
                clear hV5_
                refine stepG (i := 4) (L := #[true, true, true, true, true, true, false, false]) rfl (by rfl) (by kernel_rfl) (by rfl) (fun K hK => ?_)
                go_simp
                obtain ⟨w_21, hc_, hV4_, hB, mw_21⟩ := alloc_z w_20
                rw [hc_]
                clear hc_
                replace kp_ := Keeps.on kp_ (by omega) hB
                have lw_21 : w_20.heap.size ≤ w_21.heap.size := hB.size
                replace hV5 := box_on hV5 hB (lt_of_heap hV5)
                replace Ra := RB.on Ra hB
                replace Rb := RB.on Rb hB
                replace Ru := RB.on Ru hB
                replace Rv := RB.on Rv hB
                replace b_ := b_.trans (hB.mono (by omega))
                clear hB
                refine hK _ _ ⟨fun _ _ => kp_, ?_⟩
                clear hK K
                try simp only [Act.put, List.setIfInBounds_toArray, List.set_cons_zero, List.set_cons_succ]
                have hV4 := hV4_
                clear hV4_
                exact ⟨rfl, w_20.heap.size, w_15.heap.size, u, v, rfl, by omega, by omega, by omega, kp_, hV4, hV5, b_, tu, tv, Ru.rows.more (by omega) (by omega), Rv.rows.more (by omega) (by omega), rows_or Ru.rows (by omega) (by omega), rows_or Rv.rows (by omega) (by omega)⟩
            case o_13 =>
              
              go_simp
              obtain ⟨w_22, hc_, hV4_, hB, mw_22⟩ := alloc_z w_11
              rw [hc_]
              clear hc_
              replace kp_ := Keeps.on kp_ (by omega) hB
              have lw_22 : w_11.heap.size ≤ w_22.heap.size := hB.size
              replace Ra := RB.on Ra hB
              replace Rb := RB.on Rb hB
              replace Ru := RB.on Ru hB
              replace b_ := b_.trans (hB.mono (by omega))
              clear hB
              refine hK _ _ ⟨fun _ _ => kp_, ?_⟩
              clear hK K
              try simp only [Act.put, List.setIfInBounds_toArray, List.set_cons_zero, List.set_cons_succ]
              have hV4 := hV4_
              clear hV4_
              refine stepG2 (i := 3) (j := 5) (Li := #[true, true, true, true, true, false, false, false]) (Lj := #[true, true, true, false, true, true, false, false]) rfl rfl (by rfl) (by rfl) (by kernel_rfl) (by rfl) (by rfl) (fun K hK => ?o_23) (fun K hK => ?o_24)
              case o_23 =>
                
                go_simp
                go_at_call 29
                refine (RTwinM_any w_22 b Rb.all fun x hx => Nat.le_trans (nb.out x hx) (by decide)).mono ?_
                rintro e' w_25 ⟨v, rfl, tv, hB, Rv⟩
                replace tv := Lib.hid tv
                replace kp_ := Keeps.on kp_ (by omega) hB
                have lw_25 : w_22.heap.size ≤ w_25.heap.size := hB.size
                replace hV4 := box_on hV4 hB (lt_of_heap hV4)
                replace Ra := RB.on Ra hB
                replace Rb := RB.on Rb hB
                replace Ru := RB.on Ru hB
                replace b_ := b_.trans (hB.mono (by omega))
                clear hB
                refine hK _ _ ⟨fun _ _ => kp_, ?_⟩
                clear hK K
                try simp only [Act.put, List.setIfInBounds_toArray, List.set_cons_zero, List.set_cons_succ]
                replace Rv := RB.mk Rv (Nat.le_refl _)
                refine stepG (i := 5) (L := #[true, true, true, true, true, true, false, false]) rfl (by rfl) (by kernel_rfl) (by rfl) (fun K hK => ?_)
                go_simp
                obtain ⟨w_26, hc_, hV5_, hB, mw_26⟩ := alloc_z w_25
                rw [hc_]
                clear hc_
                replace kp_ := Keeps.on kp_ (by omega) hB
                have lw_26 : w_25.heap.size ≤ w_26.heap.size := hB.size
                replace hV4 := box_on hV4 hB (lt_of_heap hV4)
                replace Ra := RB.on Ra hB
                replace Rb := RB.on Rb hB
                replace Ru := RB.on Ru hB
                replace Rv := RB.on Rv hB
                replace b_ := b_.trans (hB.mono (by omega))
                clear hB
                refine hK _ _ ⟨fun _ _ => kp_, ?_⟩
                clear hK K
                try simp only [Act.put, List.setIfInBounds_toArray, List.set_cons_zero, List.set_cons_succ]
                have hV5 := hV5_
                clear hV5_
                exact ⟨rfl, w_11.heap.size, w_25.heap.size, u, v, rfl, by omega, by omega, by omega, kp_, hV4, hV5, b_, tu, tv, Ru.rows.more (by omega) (by omega), Rv.rows.more (by omega) (by omega), rows_or Ru.rows (by omega) (by omega), rows_or Rv.rows (by omega) (by omega)⟩
              case o_24 =>
                
                go_simp
                obtain ⟨w_27, hc_, hV5_, hB, mw_27⟩ := alloc_z w_22
                rw [hc_]
                clear hc_
                replace kp_ := Keeps.on kp_ (by omega) hB
                have lw_27 : w_22.heap.size ≤ w_27.heap.size := hB.size
                replace hV4 := box_on hV4 hB (lt_of_heap hV4)
                replace Ra := RB.on Ra hB
                replace Rb := RB.on Rb hB
                replace Ru := RB.on Ru hB
                replace b_ := b_.trans (hB.mono (by omega))
                clear hB
                refine hK _ _ ⟨fun _ _ => kp_, ?_⟩
                clear hK K
                try simp only [Act.put, List.setIfInBounds_toArray, List.set_cons_zero, List.set_cons_succ]
                have hV5 := hV5_
                clear hV5_
                refine stepG (i := 3) (L := #[true, true, true, true, true, true, false, false]) rfl (by rfl) (by kernel_rfl) (by rfl) (fun K hK => ?_)
                go_simp
                go_at_call 29
                refine (RTwinM_any w_27 b Rb.all fun x hx => Nat.le_trans (nb.out x hx) (by decide)).mono ?_
                rintro e' w_28 ⟨v, rfl, tv, hB, Rv⟩
                replace tv := Lib.hid tv
                replace kp_ := Keeps.on kp_ (by omega) hB
                have lw_28 : w_27.heap.size ≤ w_28.heap.size := hB.size
                replace hV4 := box_on hV4 hB (lt_of_heap hV4)
                replace hV5 := box_on hV5 hB (lt_of_heap hV5)
                replace Ra := RB.on Ra hB
                replace Rb := RB.on Rb hB
                replace Ru := RB.on Ru hB
                replace b_ := b_.trans (hB.mono (by omega))
                clear hB
                refine hK _ _ ⟨fun _ _ => kp_, ?_⟩
                clear hK K
                try simp only [Act.put, List.setIfInBounds_toArray, List.set_cons_zero, List.set_cons_succ]
                replace Rv := RB.mk Rv (Nat.le_refl _)
                exact ⟨rfl, w_11.heap.size, w_22.heap.size, u, v, rfl, by omega, by omega, by omega, kp_, hV4, hV5, b_, tu, tv, Ru.rows.more (by omega) (by omega), Rv.rows.more (by omega) (by omega), rows_or Ru.rows (by omega) (by omega), rows_or Rv.rows (by omega) (by omega)⟩
            case o_14 =>
              
              go_simp
              obtain ⟨w_29, hc_, hV5_, hB, mw_29⟩ := alloc_z w_11
              rw [hc_]
              clear hc_
              replace kp_ := Keeps.on kp_ (by omega) hB
              have lw_29 : w_11.heap.size ≤ w_29.heap.size := hB.size
              replace Ra := RB.on Ra hB
              replace Rb := RB.on Rb hB
              replace Ru := RB.on Ru hB
              replace b_ := b_.trans (hB.mono (by omega))
              clear hB
              refine hK _ _ ⟨fun _ _ => kp_, ?_⟩
              clear hK K
              try simp only [Act.put, List.setIfInBounds_toArray, List.set_cons_zero, List.set_cons_succ]
              have hV5 := hV5_
              clear hV5_
              refine stepG2 (i := 3) (j := 4) (Li := #[true, true, true, true, false, true, false, false]) (Lj := #[true, true, true, false, true, true, false, false]) rfl rfl (by rfl) (by rfl) (by kernel_rfl) (by rfl) (by rfl) (fun K hK => ?o_30) (fun K hK => ?o_31)
              case o_30 =>
                
                go_simp
                go_at_call 29
                refine (RTwinM_any w_29 b Rb.all fun x hx => Nat.le_trans (nb.out x hx) (by decide)).mono ?_
                rintro e' w_32 ⟨v, rfl, tv, hB, Rv⟩
                replace tv := Lib.hid tv
                replace kp_ := Keeps.on kp_ (by omega) hB
                have lw_32 : w_29.heap.size ≤ w_32.heap.size := hB.size
                replace hV5 := box_on hV5 hB (lt_of_heap hV5)
                replace Ra := RB.on Ra hB
                replace Rb := RB.on Rb hB
                replace Ru := RB.on Ru hB
                replace b_ := b_.trans (hB.mono (by omega))
                clear hB
                refine hK _ _ ⟨fun _ _ => kp_, ?_⟩
                clear hK K
                try simp only [Act.put, List.setIfInBounds_toArray, List.set_cons_zero, List.set_cons_succ]
                replace Rv := RB.mk Rv (Nat.le_refl _)
                refine stepG (i := 4) (L := #[true, true, true, true, true, true, false, false]) rfl (by rfl) (by kernel_rfl) (by rfl) (fun K hK => ?_)
                go_simp
                obtain ⟨w_33, hc_, hV4_, hB, mw_33⟩ := alloc_z w_32
                rw [hc_]
                clear hc_
                replace kp_ := Keeps.on kp_ (by omega) hB
                have lw_33 : w_32.heap.size ≤ w_33.heap.size := hB.size
                replace hV5 := box_on hV5 hB (lt_of_heap hV5)
                replace Ra := RB.on Ra hB
                replace Rb := RB.on Rb hB
                replace Ru := RB.on Ru hB
                replace Rv := RB.on Rv hB
                replace b_ := b_.trans (hB.mono (by omega))
                clear hB
                refine hK _ _ ⟨fun _ _ => kp_, ?_⟩
                clear hK K
                try simp only [Act.put, List.setIfInBounds_toArray, List.set_cons_zero, List.set_cons_succ]
                have hV4 := hV4_
                clear hV4_
                exact ⟨rfl, w_32.heap.size, w_11.heap.size, u, v, rfl, by omega, by omega, by omega, kp_, hV4, hV5, b_, tu, tv, Ru.rows.more (by omega) (by omega), Rv.rows.more (by omega) (by omega), rows_or Ru.rows (by omega) (by omega), rows_or Rv.rows (by omega) (by omega)⟩
              case o_31 =>
                
                go_simp
                obtain ⟨w_34, hc_, hV4_, hB, mw_34⟩ := alloc_z w_29
                rw [hc_]
                clear hc_
                replace kp_ := Keeps.on kp_ (by omega) hB
                have lw_34 : w_29.heap.size ≤ w_34.heap.size := hB.size
                replace hV5 := box_on hV5 hB (lt_of_heap hV5)
                replace Ra := RB.on Ra hB
                replace Rb := RB.on Rb hB
                replace Ru := RB.on Ru hB
                replace b_ := b_.trans (hB.mono (by omega))
                clear hB
                refine hK _ _ ⟨fun _ _ => kp_, ?_⟩
                clear hK K
                try simp only [Act.put, List.setIfInBounds_toArray, List.set_cons_zero, List.set_cons_succ]
                have hV4 := hV4_
                clear hV4_
                refine stepG (i := 3) (L := #[true, true, true, true, true, true, false, false]) rfl (by rfl) (by kernel_rfl) (by rfl) (fun K hK => ?_)
                go_simp
                go_at_call 29
                refine (RTwinM_any w_34 b Rb.all fun x hx => Nat.le_trans (nb.out x hx) (by decide)).mono ?_
                rintro e' w_35 ⟨v, rfl, tv, hB, Rv⟩
                replace tv := Lib.hid tv
                replace kp_ := Keeps.on kp_ (by omega) hB
                have lw_35 : w_34.heap.size ≤ w_35.heap.size := hB.size
                replace hV5 := box_on hV5 hB (lt_of_heap hV5)
                replace hV4 := box_on hV4 hB (lt_of_heap hV4)
                replace Ra := RB.on Ra hB
                replace Rb := RB.on Rb hB
                replace Ru := RB.on Ru hB
                replace b_ := b_.trans (hB.mono (by omega))
                clear hB
                refine hK _ _ ⟨fun _ _ => kp_, ?_⟩
                clear hK K
                try simp only [Act.put, List.setIfInBounds_toArray, List.set_cons_zero, List.set_cons_succ]
                replace Rv := RB.mk Rv (Nat.le_refl _)
                exact ⟨rfl, w_29.heap.size, w_11.heap.size, u, v, rfl, by omega, by omega, by omega, kp_, hV4, hV5, b_, tu, tv, Ru.rows.more (by omega) (by omega), Rv.rows.more (by omega) (by omega), rows_or Ru.rows (by omega) (by omega), rows_or Rv.rows (by omega) (by omega)⟩
          case o_9 =>
            
            go_simp
            obtain ⟨w_36, hc_, hV4_, hB, mw_36⟩ := alloc_z w_5
            rw [hc_]
            clear hc_
            replace kp_ := Keeps.on kp_ (by omega) hB
            have lw_36 : w_5.heap.size ≤ w_36.heap.size := hB.size
            replace Ra := RB.on Ra hB
            replace Rb := RB.on Rb hB
            replace b_ := b_.trans (hB.mono (by omega))
            clear hB
            refine hK _ _ ⟨fun _ _ => kp_, ?_⟩
            clear hK K
            try simp only [Act.put, List.setIfInBounds_toArray, List.set_cons_zero, List.set_cons_succ]
            have hV4 := hV4_
            clear hV4_
            refine stepG2 (i := 1) (j := 5) (Li := #[true, true, true, false, true, false, false, false]) (Lj := #[true, false, true, false, true, true, false, false]) rfl rfl (by rfl) (by rfl) (by kernel_rfl) (by rfl) (by rfl) (fun K hK => ?o_37) (fun K hK => ?o_38)
            case o_37 =>
              
              go_simp
              go_at_call 29
              refine (RTwinM_any w_36 a Ra.all fun x hx => Nat.le_trans (na.out x hx) (by decide)).mono ?_
              rintro e' w_39 ⟨u, rfl, tu, hB, Ru⟩
              replace tu := Lib.hid tu
              replace kp_ := Keeps.on kp_ (by omega) hB
              have lw_39 : w_36.heap.size ≤ w_39.heap.size := hB.size
              replace hV4 := box_on hV4 hB (lt_of_heap hV4)
              replace Ra := RB.on Ra hB
              replace Rb := RB.on Rb hB
              replace b_ := b_.trans (hB.mono (by omega))
              clear hB
              refine hK _ _ ⟨fun _ _ => kp_, ?_⟩
              clear hK K
              try simp only [Act.put, List.setIfInBounds_toArray, List.set_cons_zero, List.set_cons_succ]
              replace Ru := RB.mk Ru (Nat.le_refl _)
              refine stepG2 (i := 3) (j := 5) (Li := #[true, true, true, true, true, false, false, false]) (Lj := #[true, true, true, false, true, true, false, false]) rfl rfl (by rfl) (by rfl) (by kernel_rfl) (by rfl) (by rfl) (fun K hK => ?o_40) (fun K hK => ?o_41)
              case o_40 =>
                
                go_simp
                go_at_call 29
                refine (RTwinM_any w_39 b Rb.all fun x hx => Nat.le_trans (nb.out x hx) (by decide)).mono ?_
                rintro e' w_42 ⟨v, rfl, tv, hB, Rv⟩
                replace tv := Lib.hid tv
                replace kp_ := Keeps.on kp_ (by omega) hB
                have lw_42 : w_39.heap.size ≤ w_42.heap.size := hB.size
                replace hV4 := box_on hV4 hB (lt_of_heap hV4)
                replace Ra := RB.on Ra hB
                replace Rb := RB.on Rb hB
                replace Ru := RB.on Ru hB
                replace b_ := b_.trans (hB.mono (by omega))
                clear hB
                refine hK _ _ ⟨fun _ _ => kp_, ?_⟩
                clear hK K
                try simp only [Act.put, List.setIfInBounds_toArray, List.set_cons_zero, List.set_cons_succ]
                replace Rv := RB.mk Rv (Nat.le_refl _)
                refine stepG (i := 5) (L := #[true, true, true, true, true, true, false, false]) rfl (by rfl) (by kernel_rfl) (by rfl) (fun K hK => ?_)
                go_simp
                obtain ⟨w_43, hc_, hV5_, hB, mw_43⟩ := alloc_z w_42
                rw [hc_]
                clear hc_
                replace kp_ := Keeps.on kp_ (by omega) hB
                have lw_43 : w_42.heap.size ≤ w_43.heap.size := hB.size
                replace hV4 := box_on hV4 hB (lt_of_heap hV4)
                replace Ra := RB.on Ra hB
                replace Rb := RB.on Rb hB
                replace Ru := RB.on Ru hB
                replace Rv := RB.on Rv hB
                replace b_ := b_.trans (hB.mono (by omega))
                clear hB
                refine hK _ _ ⟨fun _ _ => kp_, ?_⟩
                clear hK K
                try simp only [Act.put, List.setIfInBounds_toArray, List.set_cons_zero, List.set_cons_succ]
                have hV5 := hV5_
                clear hV5_
                exact ⟨rfl, w_5.heap.size, w_42.heap.size, u, v, rfl, by omega, by omega, by omega, kp_, hV4, hV5, b_, tu, tv, Ru.rows.more (by omega) (by omega), Rv.rows.more (by omega) (by omega), rows_or Ru.rows (by omega) (by omega), rows_or Rv.rows (by omega) (by omega)⟩
              case o_41 =>
                
                go_simp
                obtain ⟨w_44, hc_, hV5_, hB, mw_44⟩ := alloc_z w_39
                rw [hc_]
                clear hc_
                replace kp_ := Keeps.on kp_ (by omega) hB
                have lw_44 : w_39.heap.size ≤ w_44.heap.size := hB.size
                replace hV4 := box_on hV4 hB (lt_of_heap hV4)
                replace Ra := RB.on Ra hB
                replace Rb := RB.on Rb hB
                replace Ru := RB.on Ru hB
                replace b_ := b_.trans (hB.mono (by omega))
                clear hB
                refine hK _ _ ⟨fun _ _ => kp_, ?_⟩
                clear hK K
                try simp only [Act.put, List.setIfInBounds_toArray, List.set_cons_zero, List.set_cons_succ]
                have hV5 := hV5_
                clear hV5_
                refine stepG (i := 3) (L := #[true, true, true, true, true, true, false, false]) rfl (by rfl) (by kernel_rfl) (by rfl) (fun K hK => ?_)
                go_simp
                go_at_call 29
                refine (RTwinM_any w_44 b Rb.all fun x hx => Nat.le_trans (nb.out x hx) (by decide)).mono ?_
                rintro e' w_45 ⟨v, rfl, tv, hB, Rv⟩
                replace tv := Lib.hid tv
                replace kp_ := Keeps.on kp_ (by omega) hB
                have lw_45 : w_44.heap.size ≤ w_45.heap.size := hB.size
                replace hV4 := box_on hV4 hB (lt_of_heap hV4)
                replace hV5 := box_on hV5 hB (lt_of_heap hV5)
                replace Ra := RB.on Ra hB
                replace Rb := RB.on Rb hB
                replace Ru := RB.on Ru hB
                replace b_ := b_.trans (hB.mono (by omega))
                clear hB
                refine hK _ _ ⟨fun _ _ => kp_, ?_⟩
                clear hK K
                try simp only [Act.put, List.setIfInBounds_toArray, List.set_cons_zero, List.set_cons_succ]
                replace Rv := RB.mk Rv (Nat.le_refl _)
                exact ⟨rfl, w_5.heap.size, w_39.heap.size, u, v, rfl, by omega, by omega, by omega, kp_, hV4, hV5, b_, tu, tv, Ru.rows.more (by omega) (by omega), Rv.rows.more (by omega) (by omega), rows_or Ru.rows (by omega) (by omega), rows_or Rv.rows (by omega) (by omega)⟩
            case o_38 =>
              
              go_simp
              obtain ⟨w_46, hc_, hV5_, hB, mw_46⟩ := alloc_z w_36
              rw [hc_]
              clear hc_
              replace kp_ := Keeps.on kp_ (by omega) hB
              have lw_46 : w_36.heap.size ≤ w_46.heap.size := hB.size
              replace hV4 := box_on hV4 hB (lt_of_heap hV4)
              replace Ra := RB.on Ra hB
              replace Rb := RB.on Rb hB
              replace b_ := b_.trans (hB.mono (by omega))
              clear hB
              refine hK _ _ ⟨fun _ _ => kp_, ?_⟩
              clear hK K
              try simp only [Act.put, List.setIfInBounds_toArray, List.set_cons_zero, List.set_cons_succ]
              have hV5 := hV5_
              clear hV5_
              refine stepG (i := 1) (L := #[true, true, true, false, true, true, false, false]) rfl (by rfl) (by kernel_rfl) (by rfl) (fun K hK => ?_)
              go_simp
              go_at_call 29
              refine (RTwinM_any w_46 a Ra.all fun x hx => Nat.le_trans (na.out x hx) (by decide)).mono ?_
              rintro e' w_47 ⟨u, rfl, tu, hB, Ru⟩
              replace tu := Lib.hid tu
              replace kp_ := Keeps.on kp_ (by omega) hB
              have lw_47 : w_46.heap.size ≤ w_47.heap.size := hB.size
              replace hV4 := box_on hV4 hB (lt_of_heap hV4)
              replace hV5 := box_on hV5 hB (lt_of_heap hV5)
              replace Ra := RB.on Ra hB
              replace Rb := RB.on Rb hB
              replace b_ := b_.trans (hB.mono (by omega))
              clear hB
              refine hK _ _ ⟨fun _ _ => kp_, ?_⟩
              clear hK K
              try simp only [Act.put, List.setIfInBounds_toArray, List.set_cons_zero, List.set_cons_succ]
              replace Ru := RB.mk Ru (Nat.le_refl _)
              refine stepG (i := 3) (L := #[true, true, true, true, true, true, false, false]) rfl (by rfl) (by kernel_rfl) (by rfl) (fun K hK => ?_)
              go_simp
              go_at_call 29
              refine (RTwinM_any w_47 b Rb.all fun x hx => Nat.le_trans (nb.out x hx) (by decide)).mono ?_
              rintro e' w_48 ⟨v, rfl, tv, hB, Rv⟩
              replace tv := Lib.hid tv
              replace kp_ := Keeps.on kp_ (by omega) hB
              have lw_48 : w_47.heap.size ≤ w_48.heap.size := hB.size
              replace hV4 := box_on hV4 hB (lt_of_heap hV4)
              replace hV5 := box_on hV5 hB (lt_of_heap hV5)
              replace Ra := RB.on Ra hB
              replace Rb := RB.on Rb hB
              replace Ru := RB.on Ru hB
              replace b_ := b_.trans (hB.mono (by omega))
              clear hB
              refine hK _ _ ⟨fun _ _ => kp_, ?_⟩
              clear hK K
              try simp only [Act.put, List.setIfInBounds_toArray, List.set_cons_zero, List.set_cons_succ]
              replace Rv := RB.mk Rv (Nat.le_refl _)
              exact ⟨rfl, w_5.heap.size, w_36.heap.size, u, v, rfl, by omega, by omega, by omega, kp_, hV4, hV5, b_, tu, tv, Ru.rows.more (by omega) (by omega), Rv.rows.more (by omega) (by omega), rows_or Ru.rows (by omega) (by omega), rows_or Rv.rows (by omega) (by omega)⟩
          case o_10 =>
            
            go_simp
            obtain ⟨w_49, hc_, hV5_, hB, mw_49⟩ := alloc_z w_5
            rw [hc_]
            clear hc_
            replace kp_ := Keeps.on kp_ (by omega) hB
            have lw_49 : w_5.heap.size ≤ w_49.heap.size := hB.size
            replace Ra := RB.on Ra hB
            replace Rb := RB.on Rb hB
            replace b_ := b_.trans (hB.mono (by omega))
            clear hB
            refine hK _ _ ⟨fun _ _ => kp_, ?_⟩
            clear hK K
            try simp only [Act.put, List.setIfInBounds_toArray, List.set_cons_zero, List.set_cons_succ]
            have hV5 := hV5_
            clear hV5_
            refine stepG2 (i := 1) (j := 4) (Li := #[true, true, true, false, false, true, false, false]) (Lj := #[true, false, true, false, true, true, false, false]) rfl rfl (by rfl) (by rfl) (by kernel_rfl) (by rfl) (by rfl) (fun K hK => ?o_50) (fun K hK => ?o_51)
            case o_50 =>
              
              go_simp
              go_at_call 29
              refine (RTwinM_any w_49 a Ra.all fun x hx => Nat.le_trans (na.out x hx) (by decide)).mono ?_
              rintro e' w_52 ⟨u, rfl, tu, hB, Ru⟩
              replace tu := Lib.hid tu
              replace kp_ := Keeps.on kp_ (by omega) hB
              have lw_52 : w_49.heap.size ≤ w_52.heap.size := hB.size
              replace hV5 := box_on hV5 hB (lt_of_heap hV5)
              replace Ra := RB.on Ra hB
              replace Rb := RB.on Rb hB
              replace b_ := b_.trans (hB.mono (by omega))
              clear hB
              refine hK _ _ ⟨fun _ _ => kp_, ?_⟩
              clear hK K
              try simp only [Act.put, List.setIfInBounds_toArray, List.set_cons_zero, List.set_cons_succ]
              replace Ru := RB.mk Ru (Nat.le_refl _)
              refine stepG2 (i := 3) (j := 4) (Li := #[true, true, true, true, false, true, false, false]) (Lj := #[true, true, true, false, true, true, false, false]) rfl rfl (by rfl) (by rfl) (by kernel_rfl) (by rfl) (by rfl) (fun K hK => ?o_53) (fun K hK => ?o_54)
              case o_53 =>
                
                go_simp
                go_at_call 29
                refine (RTwinM_any w_52 b Rb.all fun x hx => Nat.le_trans (nb.out x hx) (by decide)).mono ?_
                rintro e' w_55 ⟨v, rfl, tv, hB, Rv⟩
                replace tv := Lib.hid tv
                replace kp_ := Keeps.on kp_ (by omega) hB
                have lw_55 : w_52.heap.size ≤ w_55.heap.size := hB.size
                replace hV5 := box_on hV5 hB (lt_of_heap hV5)
                replace Ra := RB.on Ra hB
                replace Rb := RB.on Rb hB
                replace Ru := RB.on Ru hB
                replace b_ := b_.trans (hB.mono (by omega))
                clear hB
                refine hK _ _ ⟨fun _ _ => kp_, ?_⟩
                clear hK K
                try simp only [Act.put, List.setIfInBounds_toArray, List.set_cons_zero, List.set_cons_succ]
                replace Rv := RB.mk Rv (Nat.le_refl _)
                refine stepG (i := 4) (L := #[true, true, true, true, true, true, false, false]) rfl (by rfl) (by kernel_rfl) (by rfl) (fun K hK => ?_)
                go_simp
                obtain ⟨w_56, hc_, hV4_, hB, mw_56⟩ := alloc_z w_55
                rw [hc_]
                clear hc_
                replace kp_ := Keeps.on kp_ (by omega) hB
                have lw_56 : w_55.heap.size ≤ w_56.heap.size := hB.size
                replace hV5 := box_on hV5 hB (lt_of_heap hV5)
                replace Ra := RB.on Ra hB
                replace Rb := RB.on Rb hB
                replace Ru := RB.on Ru hB
                replace Rv := RB.on Rv hB
                replace b_ := b_.trans (hB.mono (by omega))
                clear hB
                refine hK _ _ ⟨fun _ _ => kp_, ?_⟩
                clear hK K
                try simp only [Act.put, List.setIfInBounds_toArray, List.set_cons_zero, List.set_cons_succ]
                have hV4 := hV4_
                clear hV4_
                exact ⟨rfl, w_55.heap.size, w_5.heap.size, u, v, rfl, by omega, by omega, by omega, kp_, hV4, hV5, b_, tu, tv, Ru.rows.more (by omega) (by omega), Rv.rows.more (by omega) (by omega), rows_or Ru.rows (by omega) (by omega), rows_or Rv.rows (by omega) (by omega)⟩
              case o_54 =>
                
                go_simp
                obtain ⟨w_57, hc_, hV4_, hB, mw_57⟩ := alloc_z w_52
                rw [hc_]
                clear hc_
                replace kp_ := Keeps.on kp_ (by omega) hB
                have lw_57 : w_52.heap.size ≤ w_57.heap.size := hB.size
                replace hV5 := box_on hV5 hB (lt_of_heap hV5)
                replace Ra := RB.on Ra hB
                replace Rb := RB.on Rb hB
                replace Ru := RB.on Ru hB
                replace b_ := b_.trans (hB.mono (by omega))
                clear hB
                refine hK _ _ ⟨fun _ _ => kp_, ?_⟩
                clear hK K
                try simp only [Act.put, List.setIfInBounds_toArray, List.set_cons_zero, List.set_cons_succ]
                have hV4 := hV4_
                clear hV4_
                refine stepG (i := 3) (L := #[true, true, true, true, true, true, false, false]) rfl (by rfl) (by kernel_rfl) (by rfl) (fun K hK => ?_)
                go_simp
                go_at_call 29
                refine (RTwinM_any w_57 b Rb.all fun x hx => Nat.le_trans (nb.out x hx) (by decide)).mono ?_
                rintro e' w_58 ⟨v, rfl, tv, hB, Rv⟩
                replace tv := Lib.hid tv
                replace kp_ := Keeps.on kp_ (by omega) hB
                have lw_58 : w_57.heap.size ≤ w_58.heap.size := hB.size
                replace hV5 := box_on hV5 hB (lt_of_heap hV5)
                replace hV4 := box_on hV4 hB (lt_of_heap hV4)
                replace Ra := RB.on Ra hB
                replace Rb := RB.on Rb hB
                replace Ru := RB.on Ru hB
                replace b_ := b_.trans (hB.mono (by omega))
                clear hB
                refine hK _ _ ⟨fun _ _ => kp_, ?_⟩
                clear hK K
                try simp only [Act.put, List.setIfInBounds_toArray, List.set_cons_zero, List.set_cons_succ]
                replace Rv := RB.mk Rv (Nat.le_refl _)
                exact ⟨rfl, w_52.heap.size, w_5.heap.size, u, v, rfl, by omega, by omega, by omega, kp_, hV4, hV5, b_, tu, tv, Ru.rows.more (by omega) (by omega), Rv.rows.more (by omega) (by omega), rows_or Ru.rows (by omega) (by omega), rows_or Rv.rows (by omega) (by omega)⟩
            case o_51 =>
              
              go_simp
              obtain ⟨w_59, hc_, hV4_, hB, mw_59⟩ := alloc_z w_49
              rw [hc_]
              clear hc_
              replace kp_ := Keeps.on kp_ (by omega) hB
              have lw_59 : w_49.heap.size ≤ w_59.heap.size := hB.size
              replace hV5 := box_on hV5 hB (lt_of_heap hV5)
              replace Ra := RB.on Ra hB
              replace Rb := RB.on Rb hB
              replace b_ := b_.trans (hB.mono (by omega))
              clear hB
              refine hK _ _ ⟨fun _ _ => kp_, ?_⟩
              clear hK K
              try simp only [Act.put, List.setIfInBounds_toArray, List.set_cons_zero, List.set_cons_succ]
              have hV4 := hV4_
              clear hV4_
              refine stepG (i := 1) (L := #[true, true, true, false, true, true, false, false]) rfl (by rfl) (by kernel_rfl) (by rfl) (fun K hK => ?_)
              go_simp
              go_at_call 29
              refine (RTwinM_any w_59 a Ra.all fun x hx => Nat.le_trans (na.out x hx) (by decide)).mono ?_
              rintro e' w_60 ⟨u, rfl, tu, hB, Ru⟩
              replace tu := Lib.hid tu
              replace kp_ := Keeps.on kp_ (by omega) hB
              have lw_60 : w_59.heap.size ≤ w_60.heap.size := hB.size
              replace hV5 := box_on hV5 hB (lt_of_heap hV5)
              replace hV4 := box_on hV4 hB (lt_of_heap hV4)
              replace Ra := RB.on Ra hB
              replace Rb := RB.on Rb hB
              replace b_ := b_.trans (hB.mono (by omega))
              clear hB
              refine hK _ _ ⟨fun _ _ => kp_, ?_⟩
              clear hK K
              try simp only [Act.put, List.setIfInBounds_toArray, List.set_cons_zero, List.set_cons_succ]
              replace Ru := RB.mk Ru (Nat.le_refl _)
              refine stepG (i := 3) (L := #[true, true, true, true, true, true, false, false]) rfl (by rfl) (by kernel_rfl) (by rfl) (fun K hK => ?_)
              go_simp
              go_at_call 29
              refine (RTwinM_any w_60 b Rb.all fun x hx => Nat.le_trans (nb.out x hx) (by decide)).mono ?_
              rintro e' w_61 ⟨v, rfl, tv, hB, Rv⟩
              replace tv := Lib.hid tv
              replace kp_ := Keeps.on kp_ (by omega) hB
              have lw_61 : w_60.heap.size ≤ w_61.heap.size := hB.size
              replace hV5 := box_on hV5 hB (lt_of_heap hV5)
              replace hV4 := box_on hV4 hB (lt_of_heap hV4)
              replace Ra := RB.on Ra hB
              replace Rb := RB.on Rb hB
              replace Ru := RB.on Ru hB
              replace b_ := b_.trans (hB.mono (by omega))
              clear hB
              refine hK _ _ ⟨fun _ _ => kp_, ?_⟩
              clear hK K
              try simp only [Act.put, List.setIfInBounds_toArray, List.set_cons_zero, List.set_cons_succ]
              replace Rv := RB.mk Rv (Nat.le_refl _)
              exact ⟨rfl, w_49.heap.size, w_5.heap.size, u, v, rfl, by omega, by omega, by omega, kp_, hV4, hV5, b_, tu, tv, Ru.rows.more (by omega) (by omega), Rv.rows.more (by omega) (by omega), rows_or Ru.rows (by omega) (by omega), rows_or Rv.rows (by omega) (by omega)⟩
        · rintro L' a' w' ⟨rfl, g9, g10, u, v, rfl, lg9, lg10, hne, kp_, hV4, hV5, b_, tu, tv, Ru, Rv, Ou, Ov⟩
          try simp only [Act.put, List.setIfInBounds_toArray, List.set_cons_zero, List.set_cons_succ]
          have hlt9 : g9 < w'.heap.size := lt_of_heap hV4
          have hlt10 : g10 < w'.heap.size := lt_of_heap hV5
          
          obtain ⟨⟨z0, z1, z2, z3, z4, z5, z6, z7, z8, z9, z10, z11⟩, zf⟩ := MBox.cells hV4
          refine stepK (i := 6) (L := #[true, true, true, true, true, true, true, false]) rfl (by rfl) (by kernel_rfl) (by rfl) (fun K hK => ?_)
          go_simp
          obtain ⟨W6, hc_, hX_, hb_, hf_, l6, l6'⟩ := all_to hV4 u
          rw [hc_]
          clear hc_ z0 z1 z2 z3 z4 z5 z6 z7 z8 z9 z10 z11 zf
          replace kp_ : Keeps w_4 W6 := fun p hp => (hf_ p (by omega)).trans (kp_ p hp)
          replace b_ := hb_ _ _ b_ (by omega)
          refine hK _ _ ⟨fun _ _ => kp_, ?_⟩
          clear hK K hb_
          try simp only [Act.put, List.setIfInBounds_toArray, List.set_cons_zero, List.set_cons_succ]
          replace hV5 : MBox W6 g10 ZM := (hf_ _ (Ne.symm hne)).trans hV5
          replace Ru := Ou.far Ru hf_ (.inl rfl)
          replace Rv := Ov.far Rv hf_ (.inl rfl)
          replace Ou := Ou.on hf_ (.inl rfl)
          replace Ov := Ov.on hf_ (.inl rfl)
          clear hf_
          obtain ⟨⟨z0, z1, z2, z3, z4, z5, z6, z7, z8, z9, z10, z11⟩, zf⟩ := MBox.cells hV5
          refine stepK (i := 7) (L := #[true, true, true, true, true, true, true, true]) rfl (by rfl) (by kernel_rfl) (by rfl) (fun K hK => ?_)
          go_simp
          obtain ⟨W7, hc_, hY_, hb_, hf_, l7, l7'⟩ := all_to hV5 v
          rw [hc_]
          clear hc_ z0 z1 z2 z3 z4 z5 z6 z7 z8 z9 z10 z11 zf
          replace kp_ : Keeps w_4 W7 := fun p hp => (hf_ p (by omega)).trans (kp_ p hp)
          replace b_ := hb_ _ _ b_ (by omega)
          refine hK _ _ ⟨fun _ _ => kp_, ?_⟩
          clear hK K hb_
          try simp only [Act.put, List.setIfInBounds_toArray, List.set_cons_zero, List.set_cons_succ]
          replace hX_ : MBox W7 g9 u := (hf_ _ hne).trans hX_
          replace Ru := Ou.far Ru hf_ (.inr rfl)
          replace Rv := Ov.far Rv hf_ (.inr rfl)
          refine doneE (by kernel_rfl) ?_ _
          go_wp2_with fail
          go_meet
          exact ⟨g9, g10, u, v, rfl, rfl, lg9, lg10, hX_, hY_, b_, tu, tv, Ru.more (Nat.le_refl _) (by omega), Rv.more (Nat.le_refl _) (by omega)⟩
      case rest =>
        obtain ⟨g9, g10, u, v, rfl, rfl, lg9, lg10, hMu, hMv, hB, tu, tv, Ru, Rv⟩ := hcut
        have lu : g9 < wc.heap.size := lt_of_heap hMu
        have lv : g10 < wc.heap.size := lt_of_heap hMv
        obtain ⟨w_62, hwc⟩ : ∃ W : World, W = wc := ⟨_, rfl⟩
        subst hwc
        have lw_62 : w_4.heap.size ≤ w_62.heap.size := hB.size
        replace hMa := box_on hMa hB (lt_of_heap hMa)
        replace hMb := box_on hMb hB (lt_of_heap hMb)
        replace Ra := RB.on Ra hB
        replace Rb := RB.on Rb hB
        replace a_ := Amid.on a_ hB
        clear hB
        obtain ⟨hi0, hhi0⟩ : ∃ h, h = w_62.heap.size := ⟨_, rfl⟩
        have lh1 : hi0 ≤ w_62.heap.size := by omega
        have lh2 : w_62.heap.size ≤ hi0 := by omega
        rw [← hhi0] at Ru Rv
        clear hhi0
        replace Ru := RB.mk Ru lh1
        replace Rv := RB.mk Rv lh1
        have q_63 := MBox.cells hMu
        have q_64 := MBox.cells hMv
        go_wp2_with fail
        refine (MAdd_num w_62 u v Ru.all Rv.all a_.tab RX cx ((twin_add tu.out tv.out).trans HX.out)).mono ?_
        rintro e' w_65 ⟨p, rfl, hB, ip, Rp⟩
        clear q_63 q_64
        have lw_65 : w_62.heap.size ≤ w_65.heap.size := hB.size
        replace hMa := box_on hMa hB (lt_of_heap hMa)
        replace hMb := box_on hMb hB (lt_of_heap hMb)
        replace hMu := box_on hMu hB (lt_of_heap hMu)
        replace hMv := box_on hMv hB (lt_of_heap hMv)
        replace Ra := RB.on Ra hB
        replace Rb := RB.on Rb hB
        replace Ru := RB.on Ru hB
        replace Rv := RB.on Rv hB
        replace a_ := Amid.on a_ hB
        replace ip := Lib.hid ip
        clear hB
        replace Rp := RB.mk Rp (Nat.le_refl _)
        obtain ⟨w_66, hww_66, hMp_, hB, mw_66⟩ := alloc_m w_65 p
        have lw_66 : w_65.heap.size ≤ w_66.heap.size := hB.size
        replace hMa := box_on hMa hB (lt_of_heap hMa)
        replace hMb := box_on hMb hB (lt_of_heap hMb)
        replace hMu := box_on hMu hB (lt_of_heap hMu)
        replace hMv := box_on hMv hB (lt_of_heap hMv)
        replace Ra := RB.on Ra hB
        replace Rb := RB.on Rb hB
        replace Ru := RB.on Ru hB
        replace Rv := RB.on Rv hB
        replace Rp := RB.on Rp hB
        replace a_ := Amid.on a_ hB
        have hMp := hMp_
        clear hB hMp_
        have q_67 := MBox.cells hMa
        have q_68 := MBox.cells hMb
        go_wp2_with fail
        refine (RAdd_num w_66 a b Ra.all Rb.all RX cx HX.out).mono ?_
        rintro e' w_69 ⟨q, rfl, hB, iq, Rq⟩
        clear q_67 q_68
        have lw_69 : w_66.heap.size ≤ w_69.heap.size := hB.size
        replace hMa := box_on hMa hB (lt_of_heap hMa)
        replace hMb := box_on hMb hB (lt_of_heap hMb)
        replace hMu := box_on hMu hB (lt_of_heap hMu)
        replace hMv := box_on hMv hB (lt_of_heap hMv)
        replace hMp := box_on hMp hB (lt_of_heap hMp)
        replace Ra := RB.on Ra hB
        replace Rb := RB.on Rb hB
        replace Ru := RB.on Ru hB
        replace Rv := RB.on Rv hB
        replace Rp := RB.on Rp hB
        replace a_ := Amid.on a_ hB
        replace iq := Lib.hid iq
        try clear hww_66
        clear hB
        replace Rq := RB.mk Rq (Nat.le_refl _)
        obtain ⟨w_70, hww_70, hMq_, hB, mw_70⟩ := alloc_m w_69 q
        have lw_70 : w_69.heap.size ≤ w_70.heap.size := hB.size
        replace hMa := box_on hMa hB (lt_of_heap hMa)
        replace hMb := box_on hMb hB (lt_of_heap hMb)
        replace hMu := box_on hMu hB (lt_of_heap hMu)
        replace hMv := box_on hMv hB (lt_of_heap hMv)
        replace hMp := box_on hMp hB (lt_of_heap hMp)
        replace Ra := RB.on Ra hB
        replace Rb := RB.on Rb hB
        replace Ru := RB.on Ru hB
        replace Rv := RB.on Rv hB
        replace Rp := RB.on Rp hB
        replace Rq := RB.on Rq hB
        replace a_ := Amid.on a_ hB
        have hMq := hMq_
        clear hB hMq_
        have q_71 := MBox.cells hMu
        have q_72 := MBox.cells hMv
        go_wp2_with fail
        refine (MSub_num w_70 u v Ru.all Rv.all a_.tab RD cd ((twin_sub tu.out tv.out).trans HD.out)).mono ?_
        rintro e' w_73 ⟨d, rfl, hB, id_, Rd⟩
        clear q_71 q_72
        have lw_73 : w_70.heap.size ≤ w_73.heap.size := hB.size
        replace hMa := box_on hMa hB (lt_of_heap hMa)
        replace hMb := box_on hMb hB (lt_of_heap hMb)
        replace hMu := box_on hMu hB (lt_of_heap hMu)
        replace hMv := box_on hMv hB (lt_of_heap hMv)
        replace hMp := box_on hMp hB (lt_of_heap hMp)
        replace hMq := box_on hMq hB (lt_of_heap hMq)
        replace Ra := RB.on Ra hB
        replace Rb := RB.on Rb hB
        replace Ru := RB.on Ru hB
        replace Rv := RB.on Rv hB
        replace Rp := RB.on Rp hB
        replace Rq := RB.on Rq hB
        replace a_ := Amid.on a_ hB
        replace id_ := Lib.hid id_
        try clear hww_70
        clear hB
        replace Rd := RB.mk Rd (Nat.le_refl _)
        obtain ⟨w_74, hww_74, hMd_, hB, mw_74⟩ := alloc_m w_73 d
        have lw_74 : w_73.heap.size ≤ w_74.heap.size := hB.size
        replace hMa := box_on hMa hB (lt_of_heap hMa)
        replace hMb := box_on hMb hB (lt_of_heap hMb)
        replace hMu := box_on hMu hB (lt_of_heap hMu)
        replace hMv := box_on hMv hB (lt_of_heap hMv)
        replace hMp := box_on hMp hB (lt_of_heap hMp)
        replace hMq := box_on hMq hB (lt_of_heap hMq)
        replace Ra := RB.on Ra hB
        replace Rb := RB.on Rb hB
        replace Ru := RB.on Ru hB
        replace Rv := RB.on Rv hB
        replace Rp := RB.on Rp hB
        replace Rq := RB.on Rq hB
        replace Rd := RB.on Rd hB
        replace a_ := Amid.on a_ hB
        have hMd := hMd_
        clear hB hMd_
        have q_75 := MBox.cells hMa
        have q_76 := MBox.cells hMb
        go_wp2_with fail
        refine (RSub_num w_74 a b Ra.all Rb.all RD cd HD.out).mono ?_
        rintro e' w_77 ⟨c, rfl, hB, ic, Rc⟩
        clear q_75 q_76
        have lw_77 : w_74.heap.size ≤ w_77.heap.size := hB.size
        replace hMa := box_on hMa hB (lt_of_heap hMa)
        replace hMb := box_on hMb hB (lt_of_heap hMb)
        replace hMu := box_on hMu hB (lt_of_heap hMu)
        replace hMv := box_on hMv hB (lt_of_heap hMv)
        replace hMp := box_on hMp hB (lt_of_heap hMp)
        replace hMq := box_on hMq hB (lt_of_heap hMq)
        replace hMd := box_on hMd hB (lt_of_heap hMd)
        replace Ra := RB.on Ra hB
        replace Rb := RB.on Rb hB
        replace Ru := RB.on Ru hB
        replace Rv := RB.on Rv hB
        replace Rp := RB.on Rp hB
        replace Rq := RB.on Rq hB
        replace Rd := RB.on Rd hB
        replace a_ := Amid.on a_ hB
        replace ic := Lib.hid ic
        try clear hww_74
        clear hB
        replace Rc := RB.mk Rc (Nat.le_refl _)
        obtain ⟨w_78, hww_78, hMc_, hB, mw_78⟩ := alloc_m w_77 c
        have lw_78 : w_77.heap.size ≤ w_78.heap.size := hB.size
        replace hMa := box_on hMa hB (lt_of_heap hMa)
        replace hMb := box_on hMb hB (lt_of_heap hMb)
        replace hMu := box_on hMu hB (lt_of_heap hMu)
        replace hMv := box_on hMv hB (lt_of_heap hMv)
        replace hMp := box_on hMp hB (lt_of_heap hMp)
        replace hMq := box_on hMq hB (lt_of_heap hMq)
        replace hMd := box_on hMd hB (lt_of_heap hMd)
        replace Ra := RB.on Ra hB
        replace Rb := RB.on Rb hB
        replace Ru := RB.on Ru hB
        replace Rv := RB.on Rv hB
        replace Rp := RB.on Rp hB
        replace Rq := RB.on Rq hB
        replace Rd := RB.on Rd hB
        replace Rc := RB.on Rc hB
        replace a_ := Amid.on a_ hB
        have hMc := hMc_
        clear hB hMc_
        have q_79 := MBox.cells hMu
        go_wp2_with fail
        refine (MSplit_num w_78 u Ru.all a_.tab kR sR ck ((twin_split tu.out).trans HK.out)).mono ?_
        rintro e' w_80 ⟨k, n, rfl, hB, hsC, in_, ik, B, lb1, lb2, Rn, Rk⟩
        clear q_79
        have lw_80 : w_78.heap.size ≤ w_80.heap.size := hB.size
        replace hMa := box_on hMa hB (lt_of_heap hMa)
        replace hMb := box_on hMb hB (lt_of_heap hMb)
        replace hMu := box_on hMu hB (lt_of_heap hMu)
        replace hMv := box_on hMv hB (lt_of_heap hMv)
        replace hMp := box_on hMp hB (lt_of_heap hMp)
        replace hMq := box_on hMq hB (lt_of_heap hMq)
        replace hMd := box_on hMd hB (lt_of_heap hMd)
        replace hMc := box_on hMc hB (lt_of_heap hMc)
        replace Ra := RB.on Ra hB
        replace Rb := RB.on Rb hB
        replace Ru := RB.on Ru hB
        replace Rv := RB.on Rv hB
        replace Rp := RB.on Rp hB
        replace Rq := RB.on Rq hB
        replace Rd := RB.on Rd hB
        replace Rc := RB.on Rc hB
        replace a_ := Amid.on a_ hB
        clear hsC
        replace in_ := Lib.hid in_
        replace ik := Lib.hid ik
        try clear hww_78
        clear hB
        replace Rn := RB.mk Rn lb2
        replace Rk := RB.mk Rk (Nat.le_refl _)
        obtain ⟨w_81, hww_81, hMk_, hMn_, hB, mw_81⟩ := alloc_mm w_80 k n
        have lw_81 : w_80.heap.size ≤ w_81.heap.size := hB.size
        replace hMa := box_on hMa hB (lt_of_heap hMa)
        replace hMb := box_on hMb hB (lt_of_heap hMb)
        replace hMu := box_on hMu hB (lt_of_heap hMu)
        replace hMv := box_on hMv hB (lt_of_heap hMv)
        replace hMp := box_on hMp hB (lt_of_heap hMp)
        replace hMq := box_on hMq hB (lt_of_heap hMq)
        replace hMd := box_on hMd hB (lt_of_heap hMd)
        replace hMc := box_on hMc hB (lt_of_heap hMc)
        replace Ra := RB.on Ra hB
        replace Rb := RB.on Rb hB
        replace Ru := RB.on Ru hB
        replace Rv := RB.on Rv hB
        replace Rp := RB.on Rp hB
        replace Rq := RB.on Rq hB
        replace Rd := RB.on Rd hB
        replace Rc := RB.on Rc hB
        replace Rn := RB.on Rn hB
        replace Rk := RB.on Rk hB
        replace a_ := Amid.on a_ hB
        have hMk := hMk_
        have hMn := hMn_
        clear hB hMk_ hMn_
        have q_82 := MBox.cells hMa
        go_wp2_with fail
        refine (RSplit_num w_81 a Ra.rows Ra.le kR sR ck HK.out).mono ?_
        rintro e' w_83 ⟨k2, n2, rfl, hB, ik2, in2, Tk2, Rn2⟩
        clear q_82
        have lw_83 : w_81.heap.size ≤ w_83.heap.size := hB.size
        replace hMa := box_on hMa hB (lt_of_heap hMa)
        replace hMb := box_on hMb hB (lt_of_heap hMb)
        replace hMu := box_on hMu hB (lt_of_heap hMu)
        replace hMv := box_on hMv hB (lt_of_heap hMv)
        replace hMp := box_on hMp hB (lt_of_heap hMp)
        replace hMq := box_on hMq hB (lt_of_heap hMq)
        replace hMd := box_on hMd hB (lt_of_heap hMd)
        replace hMc := box_on hMc hB (lt_of_heap hMc)
        replace hMk := box_on hMk hB (lt_of_heap hMk)
        replace hMn := box_on hMn hB (lt_of_heap hMn)
        replace Ra := RB.on Ra hB
        replace Rb := RB.on Rb hB
        replace Ru := RB.on Ru hB
        replace Rv := RB.on Rv hB
        replace Rp := RB.on Rp hB
        replace Rq := RB.on Rq hB
        replace Rd := RB.on Rd hB
        replace Rc := RB.on Rc hB
        replace Rn := RB.on Rn hB
        replace Rk := RB.on Rk hB
        replace a_ := Amid.on a_ hB
        replace in2 := Lib.hid in2
        replace ik2 := Lib.hid ik2
        try clear hww_81
        clear hB
        replace Tk2 := TB.mk Tk2 (Nat.le_trans Ra.le (Nat.le_refl _)) (Nat.le_refl _)
        replace Rn2 := RB.mk Rn2 (Nat.le_refl _)
        obtain ⟨w_84, hww_84, hMk2_, hMn2_, hB, mw_84⟩ := alloc_mm w_83 k2 n2
        have lw_84 : w_83.heap.size ≤ w_84.heap.size := hB.size
        replace hMa := box_on hMa hB (lt_of_heap hMa)
        replace hMb := box_on hMb hB (lt_of_heap hMb)
        replace hMu := box_on hMu hB (lt_of_heap hMu)
        replace hMv := box_on hMv hB (lt_of_heap hMv)
        replace hMp := box_on hMp hB (lt_of_heap hMp)
        replace hMq := box_on hMq hB (lt_of_heap hMq)
        replace hMd := box_on hMd hB (lt_of_heap hMd)
        replace hMc := box_on hMc hB (lt_of_heap hMc)
        replace hMk := box_on hMk hB (lt_of_heap hMk)
        replace hMn := box_on hMn hB (lt_of_heap hMn)
        replace Ra := RB.on Ra hB
        replace Rb := RB.on Rb hB
        replace Ru := RB.on Ru hB
        replace Rv := RB.on Rv hB
        replace Rp := RB.on Rp hB
        replace Rq := RB.on Rq hB
        replace Rd := RB.on Rd hB
        replace Rc := RB.on Rc hB
        replace Rn := RB.on Rn hB
        replace Rk := RB.on Rk hB
        replace Rn2 := RB.on Rn2 hB
        replace Tk2 := TB.on Tk2 hB
        replace a_ := Amid.on a_ hB
        have hMk2 := hMk2_
        have hMn2 := hMn2_
        clear hB hMk2_ hMn2_
        go_wp2_with fail
        refine (MSeed_num w_84 x first RM cm HM.out).mono ?_
        rintro e' w_85 ⟨m, rfl, hB, im, Rm⟩
        have lw_85 : w_84.heap.size ≤ w_85.heap.size := hB.size
        replace hMa := box_on hMa hB (lt_of_heap hMa)
        replace hMb := box_on hMb hB (lt_of_heap hMb)
        replace hMu := box_on hMu hB (lt_of_heap hMu)
        replace hMv := box_on hMv hB (lt_of_heap hMv)
        replace hMp := box_on hMp hB (lt_of_heap hMp)
        replace hMq := box_on hMq hB (lt_of_heap hMq)
        replace hMd := box_on hMd hB (lt_of_heap hMd)
        replace hMc := box_on hMc hB (lt_of_heap hMc)
        replace hMk := box_on hMk hB (lt_of_heap hMk)
        replace hMn := box_on hMn hB (lt_of_heap hMn)
        replace hMk2 := box_on hMk2 hB (lt_of_heap hMk2)
        replace hMn2 := box_on hMn2 hB (lt_of_heap hMn2)
        replace Ra := RB.on Ra hB
        replace Rb := RB.on Rb hB
        replace Ru := RB.on Ru hB
        replace Rv := RB.on Rv hB
        replace Rp := RB.on Rp hB
        replace Rq := RB.on Rq hB
        replace Rd := RB.on Rd hB
        replace Rc := RB.on Rc hB
        replace Rn := RB.on Rn hB
        replace Rk := RB.on Rk hB
        replace Rn2 := RB.on Rn2 hB
        replace Tk2 := TB.on Tk2 hB
        replace a_ := Amid.on a_ hB
        replace im := Lib.hid im
        try clear hww_84
        clear hB
        replace Rm := RB.mk Rm (Nat.le_refl _)
        obtain ⟨w_86, hww_86, hMm_, hB, mw_86⟩ := alloc_m w_85 m
        have lw_86 : w_85.heap.size ≤ w_86.heap.size := hB.size
        replace hMa := box_on hMa hB (lt_of_heap hMa)
        replace hMb := box_on hMb hB (lt_of_heap hMb)
        replace hMu := box_on hMu hB (lt_of_heap hMu)
        replace hMv := box_on hMv hB (lt_of_heap hMv)
        replace hMp := box_on hMp hB (lt_of_heap hMp)
        replace hMq := box_on hMq hB (lt_of_heap hMq)
        replace hMd := box_on hMd hB (lt_of_heap hMd)
        replace hMc := box_on hMc hB (lt_of_heap hMc)
        replace hMk := box_on hMk hB (lt_of_heap hMk)
        replace hMn := box_on hMn hB (lt_of_heap hMn)
        replace hMk2 := box_on hMk2 hB (lt_of_heap hMk2)
        replace hMn2 := box_on hMn2 hB (lt_of_heap hMn2)
        replace Ra := RB.on Ra hB
        replace Rb := RB.on Rb hB
        replace Ru := RB.on Ru hB
        replace Rv := RB.on Rv hB
        replace Rp := RB.on Rp hB
        replace Rq := RB.on Rq hB
        replace Rd := RB.on Rd hB
        replace Rc := RB.on Rc hB
        replace Rn := RB.on Rn hB
        replace Rk := RB.on Rk hB
        replace Rn2 := RB.on Rn2 hB
        replace Rm := RB.on Rm hB
        replace Tk2 := TB.on Tk2 hB
        replace a_ := Amid.on a_ hB
        have hMm := hMm_
        clear hB hMm_
        go_wp2_with fail
        refine (RSeed_num w_86 x first RM cm HM.out).mono ?_
        rintro e' w_87 ⟨m2, rfl, hB, im2, Rm2⟩
        have lw_87 : w_86.heap.size ≤ w_87.heap.size := hB.size
        replace hMa := box_on hMa hB (lt_of_heap hMa)
        replace hMb := box_on hMb hB (lt_of_heap hMb)
        replace hMu := box_on hMu hB (lt_of_heap hMu)
        replace hMv := box_on hMv hB (lt_of_heap hMv)
        replace hMp := box_on hMp hB (lt_of_heap hMp)
        replace hMq := box_on hMq hB (lt_of_heap hMq)
        replace hMd := box_on hMd hB (lt_of_heap hMd)
        replace hMc := box_on hMc hB (lt_of_heap hMc)
        replace hMk := box_on hMk hB (lt_of_heap hMk)
        replace hMn := box_on hMn hB (lt_of_heap hMn)
        replace hMk2 := box_on hMk2 hB (lt_of_heap hMk2)
        replace hMn2 := box_on hMn2 hB (lt_of_heap hMn2)
        replace hMm := box_on hMm hB (lt_of_heap hMm)
        replace Ra := RB.on Ra hB
        replace Rb := RB.on Rb hB
        replace Ru := RB.on Ru hB
        replace Rv := RB.on Rv hB
        replace Rp := RB.on Rp hB
        replace Rq := RB.on Rq hB
        replace Rd := RB.on Rd hB
        replace Rc := RB.on Rc hB
        replace Rn := RB.on Rn hB
        replace Rk := RB.on Rk hB
        replace Rn2 := RB.on Rn2 hB
        replace Rm := RB.on Rm hB
        replace Tk2 := TB.on Tk2 hB
        replace a_ := Amid.on a_ hB
        replace im2 := Lib.hid im2
        try clear hww_86
        clear hB
        replace Rm2 := RB.mk Rm2 (Nat.le_refl _)
        obtain ⟨w_88, hww_88, hMm2_, hB, mw_88⟩ := alloc_m w_87 m2
        have lw_88 : w_87.heap.size ≤ w_88.heap.size := hB.size
        replace hMa := box_on hMa hB (lt_of_heap hMa)
        replace hMb := box_on hMb hB (lt_of_heap hMb)
        replace hMu := box_on hMu hB (lt_of_heap hMu)
        replace hMv := box_on hMv hB (lt_of_heap hMv)
        replace hMp := box_on hMp hB (lt_of_heap hMp)
        replace hMq := box_on hMq hB (lt_of_heap hMq)
        replace hMd := box_on hMd hB (lt_of_heap hMd)
        replace hMc := box_on hMc hB (lt_of_heap hMc)
        replace hMk := box_on hMk hB (lt_of_heap hMk)
        replace hMn := box_on hMn hB (lt_of_heap hMn)
        replace hMk2 := box_on hMk2 hB (lt_of_heap hMk2)
        replace hMn2 := box_on hMn2 hB (lt_of_heap hMn2)
        replace hMm := box_on hMm hB (lt_of_heap hMm)
        replace Ra := RB.on Ra hB
        replace Rb := RB.on Rb hB
        replace Ru := RB.on Ru hB
        replace Rv := RB.on Rv hB
        replace Rp := RB.on Rp hB
        replace Rq := RB.on Rq hB
        replace Rd := RB.on Rd hB
        replace Rc := RB.on Rc hB
        replace Rn := RB.on Rn hB
        replace Rk := RB.on Rk hB
        replace Rn2 := RB.on Rn2 hB
        replace Rm := RB.on Rm hB
        replace Rm2 := RB.on Rm2 hB
        replace Tk2 := TB.on Tk2 hB
        replace a_ := Amid.on a_ hB
        have hMm2 := hMm2_
        clear hB hMm2_
        have q_89 := MBox.cells hMu
        go_wp2_with fail
        refine (MTwin_any w_88 u Ru.all fun x hx => Nat.le_trans (twin_refl_n tu.out na.out x hx) (by decide)).mono ?_
        rintro e' w_90 ⟨t, rfl, tt, hB, Rt⟩
        clear q_89
        have lw_90 : w_88.heap.size ≤ w_90.heap.size := hB.size
        replace hMa := box_on hMa hB (lt_of_heap hMa)
        replace hMb := box_on hMb hB (lt_of_heap hMb)
        replace hMu := box_on hMu hB (lt_of_heap hMu)
        replace hMv := box_on hMv hB (lt_of_heap hMv)
        replace hMp := box_on hMp hB (lt_of_heap hMp)
        replace hMq := box_on hMq hB (lt_of_heap hMq)
        replace hMd := box_on hMd hB (lt_of_heap hMd)
        replace hMc := box_on hMc hB (lt_of_heap hMc)
        replace hMk := box_on hMk hB (lt_of_heap hMk)
        replace hMn := box_on hMn hB (lt_of_heap hMn)
        replace hMk2 := box_on hMk2 hB (lt_of_heap hMk2)
        replace hMn2 := box_on hMn2 hB (lt_of_heap hMn2)
        replace hMm := box_on hMm hB (lt_of_heap hMm)
        replace hMm2 := box_on hMm2 hB (lt_of_heap hMm2)
        replace Ra := RB.on Ra hB
        replace Rb := RB.on Rb hB
        replace Ru := RB.on Ru hB
        replace Rv := RB.on Rv hB
        replace Rp := RB.on Rp hB
        replace Rq := RB.on Rq hB
        replace Rd := RB.on Rd hB
        replace Rc := RB.on Rc hB
        replace Rn := RB.on Rn hB
        replace Rk := RB.on Rk hB
        replace Rn2 := RB.on Rn2 hB
        replace Rm := RB.on Rm hB
        replace Rm2 := RB.on Rm2 hB
        replace Tk2 := TB.on Tk2 hB
        replace a_ := Amid.on a_ hB
        try clear hww_88
        replace tt := Lib.hid (twin_twin tu.out tt)
        clear hB
        replace Rt := RB.mk Rt (Nat.le_refl _)
        obtain ⟨w_91, hww_91, hMt_, hB, mw_91⟩ := alloc_m w_90 t
        have lw_91 : w_90.heap.size ≤ w_91.heap.size := hB.size
        replace hMa := box_on hMa hB (lt_of_heap hMa)
        replace hMb := box_on hMb hB (lt_of_heap hMb)
        replace hMu := box_on hMu hB (lt_of_heap hMu)
        replace hMv := box_on hMv hB (lt_of_heap hMv)
        replace hMp := box_on hMp hB (lt_of_heap hMp)
        replace hMq := box_on hMq hB (lt_of_heap hMq)
        replace hMd := box_on hMd hB (lt_of_heap hMd)
        replace hMc := box_on hMc hB (lt_of_heap hMc)
        replace hMk := box_on hMk hB (lt_of_heap hMk)
        replace hMn := box_on hMn hB (lt_of_heap hMn)
        replace hMk2 := box_on hMk2 hB (lt_of_heap hMk2)
        replace hMn2 := box_on hMn2 hB (lt_of_heap hMn2)
        replace hMm := box_on hMm hB (lt_of_heap hMm)
        replace hMm2 := box_on hMm2 hB (lt_of_heap hMm2)
        replace Ra := RB.on Ra hB
        replace Rb := RB.on Rb hB
        replace Ru := RB.on Ru hB
        replace Rv := RB.on Rv hB
        replace Rp := RB.on Rp hB
        replace Rq := RB.on Rq hB
        replace Rd := RB.on Rd hB
        replace Rc := RB.on Rc hB
        replace Rn := RB.on Rn hB
        replace Rk := RB.on Rk hB
        replace Rn2 := RB.on Rn2 hB
        replace Rm := RB.on Rm hB
        replace Rm2 := RB.on Rm2 hB
        replace Rt := RB.on Rt hB
        replace Tk2 := TB.on Tk2 hB
        replace a_ := Amid.on a_ hB
        have hMt := hMt_
        clear hB hMt_
        go_upto_region 13 with fail
        try clear hww_91
        go_cut [30] from 42 to 135 (fun s30 wx => s30 = .bool true ∧ Below w_91.heap.size w_91 wx)
        case first =>
          clear a_
          have b_ : Below w_91.heap.size w_91 w_91 := Below.refl _ _
          have q_92 := MBox.cells hMp
          have q_93 := MBox.cells hMq
          go_wp2_with fail
          refine (RSame_any w_91 p q Rp.all Rq.all true (ip.out.same iq.out)).mono ?_
          rintro e' w_94 ⟨rfl, hB⟩
          clear q_92 q_93
          have lw_94 : w_91.heap.size ≤ w_94.heap.size := hB.size
          replace hMp := box_on hMp hB (lt_of_heap hMp)
          replace hMq := box_on hMq hB (lt_of_heap hMq)
          replace hMd := box_on hMd hB (lt_of_heap hMd)
          replace hMc := box_on hMc hB (lt_of_heap hMc)
          replace hMk := box_on hMk hB (lt_of_heap hMk)
          replace hMn := box_on hMn hB (lt_of_heap hMn)
          replace hMk2 := box_on hMk2 hB (lt_of_heap hMk2)
          replace hMn2 := box_on hMn2 hB (lt_of_heap hMn2)
          replace hMm := box_on hMm hB (lt_of_heap hMm)
          replace hMm2 := box_on hMm2 hB (lt_of_heap hMm2)
          replace Rp := RB.on Rp hB
          replace Rq := RB.on Rq hB
          replace Rd := RB.on Rd hB
          replace Rc := RB.on Rc hB
          replace Rn := RB.on Rn hB
          replace Rk := RB.on Rk hB
          replace Rn2 := RB.on Rn2 hB
          replace Rm := RB.on Rm hB
          replace Rm2 := RB.on Rm2 hB
          replace Tk2 := TB.on Tk2 hB
          replace b_ := b_.trans (hB.mono (by omega))
          try clear hww_91
          clear hB
          have q_95 := MBox.cells hMd
          have q_96 := MBox.cells hMc
          go_wp2_with fail
          refine (RSame_any w_94 d c Rd.all Rc.all true (id_.out.same ic.out)).mono ?_
          rintro e' w_97 ⟨rfl, hB⟩
          clear q_95 q_96
          have lw_97 : w_94.heap.size ≤ w_97.heap.size := hB.size
          replace hMd := box_on hMd hB (lt_of_heap hMd)
          replace hMc := box_on hMc hB (lt_of_heap hMc)
          replace hMk := box_on hMk hB (lt_of_heap hMk)
          replace hMn := box_on hMn hB (lt_of_heap hMn)
          replace hMk2 := box_on hMk2 hB (lt_of_heap hMk2)
          replace hMn2 := box_on hMn2 hB (lt_of_heap hMn2)
          replace hMm := box_on hMm hB (lt_of_heap hMm)
          replace hMm2 := box_on hMm2 hB (lt_of_heap hMm2)
          replace Rd := RB.on Rd hB
          replace Rc := RB.on Rc hB
          replace Rn := RB.on Rn hB
          replace Rk := RB.on Rk hB
          replace Rn2 := RB.on Rn2 hB
          replace Rm := RB.on Rm hB
          replace Rm2 := RB.on Rm2 hB
          replace Tk2 := TB.on Tk2 hB
          replace b_ := b_.trans (hB.mono (by omega))
          try clear hww_91
          clear hB
          have q_98 := MBox.cells hMk
          have q_99 := MBox.cells hMk2
          go_wp2_with fail
          refine (RSame_any w_97 k k2 Rk.all Tk2.all true (ik.out.same ik2.out)).mono ?_
          rintro e' w_100 ⟨rfl, hB⟩
          clear q_98 q_99
          have lw_100 : w_97.heap.size ≤ w_100.heap.size := hB.size
          replace hMk := box_on hMk hB (lt_of_heap hMk)
          replace hMn := box_on hMn hB (lt_of_heap hMn)
          replace hMk2 := box_on hMk2 hB (lt_of_heap hMk2)
          replace hMn2 := box_on hMn2 hB (lt_of_heap hMn2)
          replace hMm := box_on hMm hB (lt_of_heap hMm)
          replace hMm2 := box_on hMm2 hB (lt_of_heap hMm2)
          replace Rn := RB.on Rn hB
          replace Rk := RB.on Rk hB
          replace Rn2 := RB.on Rn2 hB
          replace Rm := RB.on Rm hB
          replace Rm2 := RB.on Rm2 hB
          replace Tk2 := TB.on Tk2 hB
          replace b_ := b_.trans (hB.mono (by omega))
          try clear hww_91
          clear hB
          have q_101 := MBox.cells hMn
          have q_102 := MBox.cells hMn2
          go_wp2_with fail
          refine (RSame_any w_100 n n2 Rn.all Rn2.all true (in_.out.same in2.out)).mono ?_
          rintro e' w_103 ⟨rfl, hB⟩
          clear q_101 q_102
          have lw_103 : w_100.heap.size ≤ w_103.heap.size := hB.size
          replace hMn := box_on hMn hB (lt_of_heap hMn)
          replace hMn2 := box_on hMn2 hB (lt_of_heap hMn2)
          replace hMm := box_on hMm hB (lt_of_heap hMm)
          replace hMm2 := box_on hMm2 hB (lt_of_heap hMm2)
          replace Rn := RB.on Rn hB
          replace Rn2 := RB.on Rn2 hB
          replace Rm := RB.on Rm hB
          replace Rm2 := RB.on Rm2 hB
          replace b_ := b_.trans (hB.mono (by omega))
          try clear hww_91
          clear hB
          have q_104 := MBox.cells hMm
          have q_105 := MBox.cells hMm2
          go_wp2_with fail
          refine (RSame_any w_103 m m2 Rm.all Rm2.all true (im.out.same im2.out)).mono ?_
          rintro e' w_106 ⟨rfl, hB⟩
          clear q_104 q_105
          have lw_106 : w_103.heap.size ≤ w_106.heap.size := hB.size
          replace hMm := box_on hMm hB (lt_of_heap hMm)
          replace hMm2 := box_on hMm2 hB (lt_of_heap hMm2)
          replace Rm := RB.on Rm hB
          replace Rm2 := RB.on Rm2 hB
          replace b_ := b_.trans (hB.mono (by omega))
          try clear hww_91
          clear hB
          go_wp2_with fail
          go_meet
          exact ⟨rfl, b_⟩
        case rest =>
          obtain ⟨rfl, hB⟩ := hcut
          obtain ⟨w_107, hwc⟩ : ∃ W : World, W = wc := ⟨_, rfl⟩
          subst hwc
          clear hMq
          clear Rq
          clear hMc
          clear Rc
          clear hMn2
          clear Rn2
          clear hMm2
          clear Rm2
          have lw_107 : w_91.heap.size ≤ w_107.heap.size := hB.size
          replace hMa := box_on hMa hB (lt_of_heap hMa)
          replace hMb := box_on hMb hB (lt_of_heap hMb)
          replace hMu := box_on hMu hB (lt_of_heap hMu)
          replace hMv := box_on hMv hB (lt_of_heap hMv)
          replace hMp := box_on hMp hB (lt_of_heap hMp)
          replace hMd := box_on hMd hB (lt_of_heap hMd)
          replace hMk := box_on hMk hB (lt_of_heap hMk)
          replace hMn := box_on hMn hB (lt_of_heap hMn)
          replace hMk2 := box_on hMk2 hB (lt_of_heap hMk2)
          replace hMm := box_on hMm hB (lt_of_heap hMm)
          replace hMt := box_on hMt hB (lt_of_heap hMt)
          replace Ra := RB.on Ra hB
          replace Rb := RB.on Rb hB
          replace Ru := RB.on Ru hB
          replace Rv := RB.on Rv hB
          replace Rp := RB.on Rp hB
          replace Rd := RB.on Rd hB
          replace Rn := RB.on Rn hB
          replace Rk := RB.on Rk hB
          replace Rm := RB.on Rm hB
          replace Rt := RB.on Rt hB
          replace Tk2 := TB.on Tk2 hB
          replace a_ := Amid.on a_ hB
          clear hB
          go_upto_region 14 with fail
          go_cut [31] from 135 to 159 (fun s31 wx => s31 = .bool true ∧ Below w_107.heap.size w_107 wx)
          case first =>
            clear a_
            refine region_E (Keeps w_107) [] (m := 25) (L := #[false, false, false, false, false, false, false, false, false, false, false, false, false, false, false, false, false, false, false, false, false, false, false, false, false]) (by kernel_rfl) (by rfl) (by rfl) ?_
            have kp_ : Keeps w_107 w_107.drew := fun _ _ => rfl
            have hB : Below w_107.heap.size w_107 w_107.drew := (Below.refl _ _).drew
            replace Ra : RB w_107.drew _ _ _ := RB.on Ra hB
            replace Rb : RB w_107.drew _ _ _ := RB.on Rb hB
            replace Ru : RB w_107.drew _ _ _ := RB.on Ru hB
            replace Rv : RB w_107.drew _ _ _ := RB.on Rv hB
            replace Rt : RB w_107.drew _ _ _ := RB.on Rt hB
            have b_ := hB
            have lw_108 : w_107.heap.size ≤ w_107.drew.heap.size := hB.size
            clear hB
            generalize w_107.drew = w_108 at *
            refine readE (i := 0) (L := #[true, false, false, false, false, false, false, false, false, false, false, false, false, false, false, false, false, false, false, false, false, false, false, false, false]) (v := .agg #[.bool u.S.s, .slice u.S.A u.S.n u.S.c, .int .i64 u.S.e, .bool u.W.s, .slice u.W.A u.W.n u.W.c, .int .i64 u.W.e, .bool u.C.s, .slice u.C.A u.C.n u.C.c, .int .i64 u.C.e, .bool u.A.s, .slice u.A.A u.A.n u.A.c, .int .i64 u.A.e]) rfl (by rfl) (by kernel_rfl) (by kernel_rfl) (by kernel_rfl) (fun _ _ _ h => h) (by assumption) (by rfl) ?yr_109 ?zr_109
            case yr_109 =>
              intro w' h1
              have c_ := MBox.cells ((h1 _ (lt_of_heap hMu)).trans hMu)
              go_simp
            try simp only [Act.put, List.setIfInBounds_toArray, List.set_cons_zero, List.set_cons_succ]
            refine readE (i := 2) (L := #[true, false, true, false, false, false, false, false, false, false, false, false, false, false, false, false, false, false, false, false, false, false, false, false, false]) (v := .agg #[.bool a.S.s, .slice a.S.A a.S.n a.S.c, .int .i64 a.S.e, .bool a.W.s, .slice a.W.A a.W.n a.W.c, .int .i64 a.W.e, .bool a.C.s, .slice a.C.A a.C.n a.C.c, .int .i64 a.C.e, .bool a.A.s, .slice a.A.A a.A.n a.A.c, .int .i64 a.A.e]) rfl (by rfl) (by kernel_rfl) (by kernel_rfl) (by kernel_rfl) (fun _ _ _ h => h) (by assumption) (by rfl) ?yr_110 ?zr_110
            case yr_110 =>
              intro w' h1
              have c_ := MBox.cells ((h1 _ (lt_of_heap hMa)).trans hMa)
              go_simp
            try simp only [Act.put, List.setIfInBounds_toArray, List.set_cons_zero, List.set_cons_succ]
            refine stepK (i := 1) (L := #[true, true, true, false, false, false, false, false, false, false, false, false, false, false, false, false, false, false, false, false, false, false, false, false, false]) rfl (by rfl) (by kernel_rfl) (by rfl) (fun K hK => ?_)
            go_simp
            go_at_call 49
            refine (MCheck_any w_108 u Ru.all kc ((twin_chk tu.out).trans HC.out)).mono ?_
            rintro e' w_111 ⟨rfl, hB⟩
            replace kp_ := Keeps.on kp_ (by omega) hB
            have lw_111 : w_108.heap.size ≤ w_111.heap.size := hB.size
            replace Ra := RB.on Ra hB
            replace Rb := RB.on Rb hB
            replace Ru := RB.on Ru hB
            replace Rv := RB.on Rv hB
            replace Rt := RB.on Rt hB
            replace b_ := b_.trans (hB.mono (by omega))
            clear hB
            refine hK _ _ ⟨fun _ _ => kp_, ?_⟩
            clear hK K
            try simp only [Act.put, List.setIfInBounds_toArray, List.set_cons_zero, List.set_cons_succ]
            refine stepK (i := 3) (L := #[true, true, true, true, false, false, false, false, false, false, false, false, false, false, false, false, false, false, false, false, false, false, false, false, false]) rfl (by rfl) (by kernel_rfl) (by rfl) (fun K hK => ?_)
            go_simp
            go_at_call 59
            refine (RCheckM_any w_111 a Ra.all kc HC.out).mono ?_
            rintro e' w_112 ⟨rfl, hB⟩
            replace kp_ := Keeps.on kp_ (by omega) hB
            have lw_112 : w_111.heap.size ≤ w_112.heap.size := hB.size
            replace Ra := RB.on Ra hB
            replace Rb := RB.on Rb hB
            replace Ru := RB.on Ru hB
            replace Rv := RB.on Rv hB
            replace Rt := RB.on Rt hB
            replace b_ := b_.trans (hB.mono (by omega))
            clear hB
            refine hK _ _ ⟨fun _ _ => kp_, ?_⟩
            clear hK K
            try simp only [Act.put, List.setIfInBounds_toArray, List.set_cons_zero, List.set_cons_succ]
            refine pureE (i := 4) (L := #[true, true, true, true, true, false, false, false, false, false, false, false, false, false, false, false, false, false, false, false, false, false, false, false, false]) (v := ?_) rfl (by rfl) (by kernel_rfl) (by kernel_rfl) (by kernel_rfl) (fun _ _ _ h => h) (by rfl) ?hy23 ?rest23
            case hy23 => intro w; go_simp; (try with_reducible rfl)
            try simp only [Act.put, List.setIfInBounds_toArray, List.set_cons_zero, List.set_cons_succ]
            refine pureE (i := 5) (L := #[true, true, true, true, true, true, false, false, false, false, false, false, false, false, false, false, false, false, false, false, false, false, false, false, false]) (v := ?_) rfl (by rfl) (by kernel_rfl) (by kernel_rfl) (by kernel_rfl) (fun _ _ _ h => h) (by rfl) ?hy24 ?rest24
            case hy24 => intro w; go_simp; (try with_reducible rfl)
            try simp only [Act.put, List.setIfInBounds_toArray, List.set_cons_zero, List.set_cons_succ]
            refine readE (i := 6) (L := #[true, true, true, true, true, true, true, false, false, false, false, false, false, false, false, false, false, false, false, false, false, false, false, false, false]) (v := .agg #[.bool t.S.s, .slice t.S.A t.S.n t.S.c, .int .i64 t.S.e, .bool t.W.s, .slice t.W.A t.W.n t.W.c, .int .i64 t.W.e, .bool t.C.s, .slice t.C.A t.C.n t.C.c, .int .i64 t.C.e, .bool t.A.s, .slice t.A.A t.A.n t.A.c, .int .i64 t.A.e]) rfl (by rfl) (by kernel_rfl) (by kernel_rfl) (by kernel_rfl) (fun _ _ _ h => h) (by assumption) (by rfl) ?yr_113 ?zr_113
            case yr_113 =>
              intro w' h1
              have c_ := MBox.cells ((h1 _ (lt_of_heap hMt)).trans hMt)
              go_simp
            try simp only [Act.put, List.setIfInBounds_toArray, List.set_cons_zero, List.set_cons_succ]
            refine readE (i := 7) (L := #[true, true, true, true, true, true, true, true, false, false, false, false, false, false, false, false, false, false, false, false, false, false, false, false, false]) (v := .agg #[.bool a.S.s, .slice a.S.A a.S.n a.S.c, .int .i64 a.S.e, .bool a.W.s, .slice a.W.A a.W.n a.W.c, .int .i64 a.W.e, .bool a.C.s, .slice a.C.A a.C.n a.C.c, .int .i64 a.C.e, .bool a.A.s, .slice a.A.A a.A.n a.A.c, .int .i64 a.A.e]) rfl (by rfl) (by kernel_rfl) (by kernel_rfl) (by kernel_rfl) (fun _ _ _ h => h) (by assumption) (by rfl) ?yr_114 ?zr_114
            case yr_114 =>
              intro w' h1
              have c_ := MBox.cells ((h1 _ (lt_of_heap hMa)).trans hMa)
              go_simp
            try simp only [Act.put, List.setIfInBounds_toArray, List.set_cons_zero, List.set_cons_succ]
            refine stepK (i := 8) (L := #[true, true, true, true, true, true, true, true, true, false, false, false, false, false, false, false, false, false, false, false, false, false, false, false, false]) rfl (by rfl) (by kernel_rfl) (by rfl) (fun K hK => ?_)
            go_simp
            go_at_call 32
            refine (RSame_any w_112 t a Rt.all Ra.all true (twin_same tt.out)).mono ?_
            rintro e' w_115 ⟨rfl, hB⟩
            replace kp_ := Keeps.on kp_ (by omega) hB
            have lw_115 : w_112.heap.size ≤ w_115.heap.size := hB.size
            replace Ra := RB.on Ra hB
            replace Rb := RB.on Rb hB
            replace Ru := RB.on Ru hB
            replace Rv := RB.on Rv hB
            replace Rt := RB.on Rt hB
            replace b_ := b_.trans (hB.mono (by omega))
            clear hB
            refine hK _ _ ⟨fun _ _ => kp_, ?_⟩
            clear hK K
            try simp only [Act.put, List.setIfInBounds_toArray, List.set_cons_zero, List.set_cons_succ]
            refine pureE (i := 9) (L := #[true, true, true, true, true, true, true, true, true, true, false, false, false, false, false, false, false, false, false, false, false, false, false, false, false]) (v := ?_) rfl (by rfl) (by kernel_rfl) (by kernel_rfl) (by kernel_rfl) (fun _ _ _ h => h) (by rfl) ?hy28 ?rest28
            case hy28 => intro w; go_simp; (try with_reducible rfl)
            try simp only [Act.put, List.setIfInBounds_toArray, List.set_cons_zero, List.set_cons_succ]
            refine pureE (i := 10) (L := #[true, true, true, true, true, true, true, true, true, true, true, false, false, false, false, false, false, false, false, false, false, false, false, false, false]) (v := ?_) rfl (by rfl) (by kernel_rfl) (by kernel_rfl) (by kernel_rfl) (fun _ _ _ h => h) (by rfl) ?hy29 ?rest29
            case hy29 => intro w; go_simp; (try with_reducible rfl)
            try simp only [Act.put, List.setIfInBounds_toArray, List.set_cons_zero, List.set_cons_succ]
            refine readE (i := 11) (L := #[true, true, true, true, true, true, true, true, true, true, true, true, false, false, false, false, false, false, false, false, false, false, false, false, false]) (v := .agg #[.bool u.S.s, .slice u.S.A u.S.n u.S.c, .int .i64 u.S.e, .bool u.W.s, .slice u.W.A u.W.n u.W.c, .int .i64 u.W.e, .bool u.C.s, .slice u.C.A u.C.n u.C.c, .int .i64 u.C.e, .bool u.A.s, .slice u.A.A u.A.n u.A.c, .int .i64 u.A.e]) rfl (by rfl) (by kernel_rfl) (by kernel_rfl) (by kernel_rfl) (fun _ _ _ h => h) (by assumption) (by rfl) ?yr_116 ?zr_116
            case yr_116 =>
              intro w' h1
              have c_ := MBox.cells ((h1 _ (lt_of_heap hMu)).trans hMu)
              go_simp
            try simp only [Act.put, List.setIfInBounds_toArray, List.set_cons_zero, List.set_cons_succ]
            refine readE (i := 12) (L := #[true, true, true, true, true, true, true, true, true, true, true, true, true, false, false, false, false, false, false, false, false, false, false, false, false]) (v := .agg #[.bool v.S.s, .slice v.S.A v.S.n v.S.c, .int .i64 v.S.e, .bool v.W.s, .slice v.W.A v.W.n v.W.c, .int .i64 v.W.e, .bool v.C.s, .slice v.C.A v.C.n v.C.c, .int .i64 v.C.e, .bool v.A.s, .slice v.A.A v.A.n v.A.c, .int .i64 v.A.e]) rfl (by rfl) (by kernel_rfl) (by kernel_rfl) (by kernel_rfl) (fun _ _ _ h => h) (by assumption) (by rfl) ?yr_117 ?zr_117
            case yr_117 =>
              intro w' h1
              have c_ := MBox.cells ((h1 _ (lt_of_heap hMv)).trans hMv)
              go_simp
            try simp only [Act.put, List.setIfInBounds_toArray, List.set_cons_zero, List.set_cons_succ]
            refine readE (i := 14) (L := #[true, true, true, true, true, true, true, true, true, true, true, true, true, false, true, false, false, false, false, false, false, false, false, false, false]) (v := .agg #[.bool a.S.s, .slice a.S.A a.S.n a.S.c, .int .i64 a.S.e, .bool a.W.s, .slice a.W.A a.W.n a.W.c, .int .i64 a.W.e, .bool a.C.s, .slice a.C.A a.C.n a.C.c, .int .i64 a.C.e, .bool a.A.s, .slice a.A.A a.A.n a.A.c, .int .i64 a.A.e]) rfl (by rfl) (by kernel_rfl) (by kernel_rfl) (by kernel_rfl) (fun _ _ _ h => h) (by assumption) (by rfl) ?yr_118 ?zr_118
            case yr_118 =>
              intro w' h1
              have c_ := MBox.cells ((h1 _ (lt_of_heap hMa)).trans hMa)
              go_simp
            try simp only [Act.put, List.setIfInBounds_toArray, List.set_cons_zero, List.set_cons_succ]
            refine readE (i := 15) (L := #[true, true, true, true, true, true, true, true, true, true, true, true, true, false, true, true, false, false, false, false, false, false, false, false, false]) (v := .agg #[.bool b.S.s, .slice b.S.A b.S.n b.S.c, .int .i64 b.S.e, .bool b.W.s, .slice b.W.A b.W.n b.W.c, .int .i64 b.W.e, .bool b.C.s, .slice b.C.A b.C.n b.C.c, .int .i64 b.C.e, .bool b.A.s, .slice b.A.A b.A.n b.A.c, .int .i64 b.A.e]) rfl (by rfl) (by kernel_rfl) (by kernel_rfl) (by kernel_rfl) (fun _ _ _ h => h) (by assumption) (by rfl) ?yr_119 ?zr_119
            case yr_119 =>
              intro w' h1
              have c_ := MBox.cells ((h1 _ (lt_of_heap hMb)).trans hMb)
              go_simp
            try simp only [Act.put, List.setIfInBounds_toArray, List.set_cons_zero, List.set_cons_succ]
            refine stepK (i := 13) (L := #[true, true, true, true, true, true, true, true, true, true, true, true, true, true, true, true, false, false, false, false, false, false, false, false, false]) rfl (by rfl) (by kernel_rfl) (by rfl) (fun K hK => ?_)
            go_simp
            go_at_call 50
            refine (MSame_any w_115 u v Ru.all Rv.all eq ((twin_sameM tu.out tv.out).trans HE.out)).mono ?_
            rintro e' w_120 ⟨rfl, hB⟩
            replace kp_ := Keeps.on kp_ (by omega) hB
            have lw_120 : w_115.heap.size ≤ w_120.heap.size := hB.size
            replace Ra := RB.on Ra hB
            replace Rb := RB.on Rb hB
            replace Ru := RB.on Ru hB
            replace Rv := RB.on Rv hB
            replace Rt := RB.on Rt hB
            replace b_ := b_.trans (hB.mono (by omega))
            clear hB
            refine hK _ _ ⟨fun _ _ => kp_, ?_⟩
            clear hK K
            try simp only [Act.put, List.setIfInBounds_toArray, List.set_cons_zero, List.set_cons_succ]
            refine stepK (i := 16) (L := #[true, true, true, true, true, true, true, true, true, true, true, true, true, true, true, true, true, false, false, false, false, false, false, false, false]) rfl (by rfl) (by kernel_rfl) (by rfl) (fun K hK => ?_)
            go_simp
            go_at_call 32
            refine (RSame_any w_120 a b Ra.all Rb.all eq HE.out).mono ?_
            rintro e' w_121 ⟨rfl, hB⟩
            replace kp_ := Keeps.on kp_ (by omega) hB
            have lw_121 : w_120.heap.size ≤ w_121.heap.size := hB.size
            replace Ra := RB.on Ra hB
            replace Rb := RB.on Rb hB
            replace Ru := RB.on Ru hB
            replace Rv := RB.on Rv hB
            replace Rt := RB.on Rt hB
            replace b_ := b_.trans (hB.mono (by omega))
            clear hB
            refine hK _ _ ⟨fun _ _ => kp_, ?_⟩
            clear hK K
            try simp only [Act.put, List.setIfInBounds_toArray, List.set_cons_zero, List.set_cons_succ]
            refine pureE (i := 17) (L := #[true, true, true, true, true, true, true, true, true, true, true, true, true, true, true, true, true, true, false, false, false, false, false, false, false]) (v := ?_) rfl (by rfl) (by kernel_rfl) (by kernel_rfl) (by kernel_rfl) (fun _ _ _ h => h) (by rfl) ?hy36 ?rest36
            case hy36 => intro w; go_simp; (try with_reducible rfl)
            try simp only [Act.put, List.setIfInBounds_toArray, List.set_cons_zero, List.set_cons_succ]
            try simp only [beq_self_eq_true]
            refine pureE (i := 18) (L := #[true, true, true, true, true, true, true, true, true, true, true, true, true, true, true, true, true, true, true, false, false, false, false, false, false]) (v := ?_) rfl (by rfl) (by kernel_rfl) (by kernel_rfl) (by kernel_rfl) (fun _ _ _ h => h) (by rfl) ?hy37 ?rest37
            case hy37 => intro w; go_simp; (try with_reducible rfl)
            try simp only [Act.put, List.setIfInBounds_toArray, List.set_cons_zero, List.set_cons_succ]
            refine pureE (i := 19) (L := #[true, true, true, true, true, true, true, true, true, true, true, true, true, true, true, true, true, true, true, true, false, false, false, false, false]) (v := ?_) rfl (by rfl) (by kernel_rfl) (by kernel_rfl) (by kernel_rfl) (fun _ _ _ h => h) (by rfl) ?hy38 ?rest38
            case hy38 => intro w; go_simp; (try with_reducible rfl)
            try simp only [Act.put, List.setIfInBounds_toArray, List.set_cons_zero, List.set_cons_succ]
            refine readE (i := 20) (L := #[true, true, true, true, true, true, true, true, true, true, true, true, true, true, true, true, true, true, true, true, true, false, false, false, false]) (v := .agg #[.bool u.S.s, .slice u.S.A u.S.n u.S.c, .int .i64 u.S.e, .bool u.W.s, .slice u.W.A u.W.n u.W.c, .int .i64 u.W.e, .bool u.C.s, .slice u.C.A u.C.n u.C.c, .int .i64 u.C.e, .bool u.A.s, .slice u.A.A u.A.n u.A.c, .int .i64 u.A.e]) rfl (by rfl) (by kernel_rfl) (by kernel_rfl) (by kernel_rfl) (fun _ _ _ h => h) (by assumption) (by rfl) ?yr_122 ?zr_122
            case yr_122 =>
              intro w' h1
              have c_ := MBox.cells ((h1 _ (lt_of_heap hMu)).trans hMu)
              go_simp
            try simp only [Act.put, List.setIfInBounds_toArray, List.set_cons_zero, List.set_cons_succ]
            refine readE (i := 21) (L := #[true, true, true, true, true, true, true, true, true, true, true, true, true, true, true, true, true, true, true, true, true, true, false, false, false]) (v := .agg #[.bool a.S.s, .slice a.S.A a.S.n a.S.c, .int .i64 a.S.e, .bool a.W.s, .slice a.W.A a.W.n a.W.c, .int .i64 a.W.e, .bool a.C.s, .slice a.C.A a.C.n a.C.c, .int .i64 a.C.e, .bool a.A.s, .slice a.A.A a.A.n a.A.c, .int .i64 a.A.e]) rfl (by rfl) (by kernel_rfl) (by kernel_rfl) (by kernel_rfl) (fun _ _ _ h => h) (by assumption) (by rfl) ?yr_123 ?zr_123
            case yr_123 =>
              intro w' h1
              have c_ := MBox.cells ((h1 _ (lt_of_heap hMa)).trans hMa)
              go_simp
            try simp only [Act.put, List.setIfInBounds_toArray, List.set_cons_zero, List.set_cons_succ]
            refine stepK (i := 22) (L := #[true, true, true, true, true, true, true, true, true, true, true, true, true, true, true, true, true, true, true, true, true, true, true, false, false]) rfl (by rfl) (by kernel_rfl) (by rfl) (fun K hK => ?_)
            go_simp
            go_at_call 50
            refine (MSame_any w_121 u a Ru.all Ra.all true (twin_same tu.out)).mono ?_
            rintro e' w_124 ⟨rfl, hB⟩
            replace kp_ := Keeps.on kp_ (by omega) hB
            have lw_124 : w_121.heap.size ≤ w_124.heap.size := hB.size
            replace Ra := RB.on Ra hB
            replace Rb := RB.on Rb hB
            replace Ru := RB.on Ru hB
            replace Rv := RB.on Rv hB
            replace Rt := RB.on Rt hB
            replace b_ := b_.trans (hB.mono (by omega))
            clear hB
            refine hK _ _ ⟨fun _ _ => kp_, ?_⟩
            clear hK K
            try simp only [Act.put, List.setIfInBounds_toArray, List.set_cons_zero, List.set_cons_succ]
            refine pureE (i := 23) (L := #[true, true, true, true, true, true, true, true, true, true, true, true, true, true, true, true, true, true, true, true, true, true, true, true, false]) (v := ?_) rfl (by rfl) (by kernel_rfl) (by kernel_rfl) (by kernel_rfl) (fun _ _ _ h => h) (by rfl) ?hy42 ?rest42
            case hy42 => intro w; go_simp; (try with_reducible rfl)
            try simp only [Act.put, List.setIfInBounds_toArray, List.set_cons_zero, List.set_cons_succ]
            refine pureE (i := 24) (L := #[true, true, true, true, true, true, true, true, true, true, true, true, true, true, true, true, true, true, true, true, true, true, true, true, true]) (v := ?_) rfl (by rfl) (by kernel_rfl) (by kernel_rfl) (by kernel_rfl) (fun _ _ _ h => h) (by rfl) ?hy43 ?rest43
            case hy43 => intro w; go_simp; (try with_reducible rfl)
            try simp only [Act.put, List.setIfInBounds_toArray, List.set_cons_zero, List.set_cons_succ]
            refine doneE (by kernel_rfl) ?_ _
            go_wp2_with fail
            go_meet
            exact ⟨rfl, b_⟩
          case rest =>
            obtain ⟨rfl, hB⟩ := hcut
            obtain ⟨w_125, hwc⟩ : ∃ W : World, W = wc := ⟨_, rfl⟩
            subst hwc
            have lw_125 : w_107.heap.size ≤ w_125.heap.size := hB.size
            replace hMa := box_on hMa hB (lt_of_heap hMa)
            replace hMb := box_on hMb hB (lt_of_heap hMb)
            replace hMu := box_on hMu hB (lt_of_heap hMu)
            replace hMv := box_on hMv hB (lt_of_heap hMv)
            replace hMp := box_on hMp hB (lt_of_heap hMp)
            replace hMd := box_on hMd hB (lt_of_heap hMd)
            replace hMk := box_on hMk hB (lt_of_heap hMk)
            replace hMn := box_on hMn hB (lt_of_heap hMn)
            replace hMk2 := box_on hMk2 hB (lt_of_heap hMk2)
            replace hMm := box_on hMm hB (lt_of_heap hMm)
            replace hMt := box_on hMt hB (lt_of_heap hMt)
            replace Ra := RB.on Ra hB
            replace Rb := RB.on Rb hB
            replace Ru := RB.on Ru hB
            replace Rv := RB.on Rv hB
            replace Rp := RB.on Rp hB
            replace Rd := RB.on Rd hB
            replace Rn := RB.on Rn hB
            replace Rk := RB.on Rk hB
            replace Rm := RB.on Rm hB
            replace Rt := RB.on Rt hB
            replace Tk2 := TB.on Tk2 hB
            replace a_ := Amid.on a_ hB
            clear hB
            have zz0 : w.heap.size + 1 + 1 ≤ w_4.heap.size := by omega
            have zz1 : w_4.heap.size ≤ g9 := by omega
            have zz2 : w_4.heap.size ≤ g10 := by omega
            have zz3 : g9 + 1 ≤ hi0 := by omega
            have zz4 : g10 + 1 ≤ hi0 := by omega
            have zz5 : hi0 ≤ w_62.heap.size := by omega
            have zz6 : w_62.heap.size ≤ w_65.heap.size := by omega
            have zz7 : w_65.heap.size + 1 ≤ w_70.heap.size := by omega
            have zz8 : w_70.heap.size ≤ w_73.heap.size := by omega
            have zz9 : w_73.heap.size + 1 ≤ w_78.heap.size := by omega
            have zz10 : w_78.heap.size ≤ B := by omega
            have zz11 : B ≤ w_80.heap.size := by omega
            have zz12 : w_80.heap.size + 2 ≤ w_81.heap.size := by omega
            have zz13 : w_81.heap.size ≤ w_83.heap.size := by omega
            have zz14 : w_83.heap.size + 2 ≤ w_84.heap.size := by omega
            have zz15 : w_84.heap.size ≤ w_85.heap.size := by omega
            have zz16 : w_85.heap.size + 1 ≤ w_88.heap.size := by omega
            have zz17 : w_88.heap.size ≤ w_90.heap.size := by omega
            have zz18 : w_90.heap.size + 1 ≤ w_125.heap.size := by omega
            clear lw_2 lw_4 lw_62 lw_65 mw_66 lw_66 lw_69 mw_70 lw_70 lw_73 mw_74 lw_74 lw_77 mw_78 lw_78 lw_80 mw_81 lw_81 lw_83 mw_84 lw_84 lw_85 mw_86 lw_86 lw_87 mw_88 lw_88 lw_90 mw_91 lw_91 lw_107 lw_125 lo1 hi1 lg9 lg10 lu lv lh1 lh2 lb1 lb2
            have q_126 := MBox.cells hMn
            go_wp2_with fail
            refine (spoilM_any w_125 n (w_78.heap.size) (B) Rn.rows (isM_n Rn.rows in_.out MK.out.2) Rn.le (by omega)).mono ?_
            rintro e' w_127 ⟨rfl, hB, hF⟩
            clear q_126
            clear Rn
            have lw_127 : w_125.heap.size ≤ w_127.heap.size := hB.size
            replace hMa := box_spoilt hMa hB hF (by omega)
            replace hMb := box_spoilt hMb hB hF (by omega)
            replace hMu := box_spoilt hMu hB hF (by omega)
            replace hMv := box_spoilt hMv hB hF (by omega)
            replace hMp := box_spoilt hMp hB hF (by omega)
            replace hMd := box_spoilt hMd hB hF (by omega)
            replace hMk := box_spoilt hMk hB hF (by omega)
            replace hMn := box_spoilt hMn hB hF (by omega)
            replace hMk2 := box_spoilt hMk2 hB hF (by omega)
            replace hMm := box_spoilt hMm hB hF (by omega)
            replace hMt := box_spoilt hMt hB hF (by omega)
            replace Ra := RB.spoilt Ra hB hF (by omega)
            replace Rb := RB.spoilt Rb hB hF (by omega)
            replace Ru := RB.spoilt Ru hB hF (by omega)
            replace Rv := RB.spoilt Rv hB hF (by omega)
            replace Rp := RB.spoilt Rp hB hF (by omega)
            replace Rd := RB.spoilt Rd hB hF (by omega)
            replace Rk := RB.spoilt Rk hB hF (by omega)
            replace Rm := RB.spoilt Rm hB hF (by omega)
            replace Rt := RB.spoilt Rt hB hF (by omega)
            replace Tk2 := TB.spoilt Tk2 hB hF (by omega) (by omega)
            replace a_ := amid_spoilt a_ hB (by omega) (by omega)
            clear hB hF
            clear hMn
            have q_128 := MBox.cells hMk
            have q_129 := MBox.cells hMk2
            go_wp2_with fail
            refine (RSame_any w_127 k k2 Rk.all Tk2.all true (ik.out.same ik2.out)).mono ?_
            rintro e' w_130 ⟨rfl, hB⟩
            clear q_128 q_129
            have lw_130 : w_127.heap.size ≤ w_130.heap.size := hB.size
            replace hMa := box_on hMa hB (lt_of_heap hMa)
            replace hMb := box_on hMb hB (lt_of_heap hMb)
            replace hMu := box_on hMu hB (lt_of_heap hMu)
            replace hMv := box_on hMv hB (lt_of_heap hMv)
            replace hMp := box_on hMp hB (lt_of_heap hMp)
            replace hMd := box_on hMd hB (lt_of_heap hMd)
            replace hMk := box_on hMk hB (lt_of_heap hMk)
            replace hMk2 := box_on hMk2 hB (lt_of_heap hMk2)
            replace hMm := box_on hMm hB (lt_of_heap hMm)
            replace hMt := box_on hMt hB (lt_of_heap hMt)
            replace Ra := RB.on Ra hB
            replace Rb := RB.on Rb hB
            replace Ru := RB.on Ru hB
            replace Rv := RB.on Rv hB
            replace Rp := RB.on Rp hB
            replace Rd := RB.on Rd hB
            replace Rk := RB.on Rk hB
            replace Rm := RB.on Rm hB
            replace Rt := RB.on Rt hB
            replace Tk2 := TB.on Tk2 hB
            replace a_ := Amid.on a_ hB
            try clear he_
            clear hB
            clear hMk2
            clear Tk2
            have q_131 := MBox.cells hMp
            go_wp2_with fail
            refine (spoilM_any w_130 p (w_62.heap.size) (w_65.heap.size) Rp.rows (isM_n Rp.rows ip.out MX.out) Rp.le (by omega)).mono ?_
            rintro e' w_132 ⟨rfl, hB, hF⟩
            clear q_131
            clear Rp
            have lw_132 : w_130.heap.size ≤ w_132.heap.size := hB.size
            replace hMa := box_spoilt hMa hB hF (by omega)
            replace hMb := box_spoilt hMb hB hF (by omega)
            replace hMu := box_spoilt hMu hB hF (by omega)
            replace hMv := box_spoilt hMv hB hF (by omega)
            replace hMp := box_spoilt hMp hB hF (by omega)
            replace hMd := box_spoilt hMd hB hF (by omega)
            replace hMk := box_spoilt hMk hB hF (by omega)
            replace hMm := box_spoilt hMm hB hF (by omega)
            replace hMt := box_spoilt hMt hB hF (by omega)
            replace Ra := RB.spoilt Ra hB hF (by omega)
            replace Rb := RB.spoilt Rb hB hF (by omega)
            replace Ru := RB.spoilt Ru hB hF (by omega)
            replace Rv := RB.spoilt Rv hB hF (by omega)
            replace Rd := RB.spoilt Rd hB hF (by omega)
            replace Rk := RB.spoilt Rk hB hF (by omega)
            replace Rm := RB.spoilt Rm hB hF (by omega)
            replace Rt := RB.spoilt Rt hB hF (by omega)
            replace a_ := amid_spoilt a_ hB (by omega) (by omega)
            clear hB hF
            clear hMp
            have q_133 := MBox.cells hMd
            go_wp2_with fail
            refine (spoilM_any w_132 d (w_70.heap.size) (w_73.heap.size) Rd.rows (isM_n Rd.rows id_.out MD.out) Rd.le (by omega)).mono ?_
            rintro e' w_134 ⟨rfl, hB, hF⟩
            clear q_133
            clear Rd
            have lw_134 : w_132.heap.size ≤ w_134.heap.size := hB.size
            replace hMa := box_spoilt hMa hB hF (by omega)
            replace hMb := box_spoilt hMb hB hF (by omega)
            replace hMu := box_spoilt hMu hB hF (by omega)
            replace hMv := box_spoilt hMv hB hF (by omega)
            replace hMd := box_spoilt hMd hB hF (by omega)
            replace hMk := box_spoilt hMk hB hF (by omega)
            replace hMm := box_spoilt hMm hB hF (by omega)
            replace hMt := box_spoilt hMt hB hF (by omega)
            replace Ra := RB.spoilt Ra hB hF (by omega)
            replace Rb := RB.spoilt Rb hB hF (by omega)
            replace Ru := RB.spoilt Ru hB hF (by omega)
            replace Rv := RB.spoilt Rv hB hF (by omega)
            replace Rk := RB.spoilt Rk hB hF (by omega)
            replace Rm := RB.spoilt Rm hB hF (by omega)
            replace Rt := RB.spoilt Rt hB hF (by omega)
            replace a_ := amid_spoilt a_ hB (by omega) (by omega)
            clear hB hF
            clear hMd
            have q_135 := MBox.cells hMk
            go_wp2_with fail
            refine (spoilM_any w_134 k (B) (w_80.heap.size) Rk.rows (isM_n Rk.rows ik.out MK.out.1) Rk.le (by omega)).mono ?_
            rintro e' w_136 ⟨rfl, hB, hF⟩
            clear q_135
            clear Rk
            have lw_136 : w_134.heap.size ≤ w_136.heap.size := hB.size
            replace hMa := box_spoilt hMa hB hF (by omega)
            replace hMb := box_spoilt hMb hB hF (by omega)
            replace hMu := box_spoilt hMu hB hF (by omega)
            replace hMv := box_spoilt hMv hB hF (by omega)
            replace hMk := box_spoilt hMk hB hF (by omega)
            replace hMm := box_spoilt hMm hB hF (by omega)
            replace hMt := box_spoilt hMt hB hF (by omega)
            replace Ra := RB.spoilt Ra hB hF (by omega)
            replace Rb := RB.spoilt Rb hB hF (by omega)
            replace Ru := RB.spoilt Ru hB hF (by omega)
            replace Rv := RB.spoilt Rv hB hF (by omega)
            replace Rm := RB.spoilt Rm hB hF (by omega)
            replace Rt := RB.spoilt Rt hB hF (by omega)
            replace a_ := amid_spoilt a_ hB (by omega) (by omega)
            clear hB hF
            clear hMk
            have q_137 := MBox.cells hMt
            go_wp2_with fail
            refine (spoilM_any w_136 t (w_88.heap.size) (w_90.heap.size) Rt.rows (fun x hx => Nat.le_trans (twin_refl_n tt.out na.out x hx) (by decide)) Rt.le (by omega)).mono ?_
            rintro e' w_138 ⟨rfl, hB, hF⟩
            clear q_137
            clear Rt
            have lw_138 : w_136.heap.size ≤ w_138.heap.size := hB.size
            replace hMa := box_spoilt hMa hB hF (by omega)
            replace hMb := box_spoilt hMb hB hF (by omega)
            replace hMu := box_spoilt hMu hB hF (by omega)
            replace hMv := box_spoilt hMv hB hF (by omega)
            replace hMm := box_spoilt hMm hB hF (by omega)
            replace hMt := box_spoilt hMt hB hF (by omega)
            replace Ra := RB.spoilt Ra hB hF (by omega)
            replace Rb := RB.spoilt Rb hB hF (by omega)
            replace Ru := RB.spoilt Ru hB hF (by omega)
            replace Rv := RB.spoilt Rv hB hF (by omega)
            replace Rm := RB.spoilt Rm hB hF (by omega)
            replace a_ := amid_spoilt a_ hB (by omega) (by omega)
            clear hB hF
            clear hMt
            have q_139 := MBox.cells hMm
            go_wp2_with fail
            refine (spoilM_any w_138 m (w_84.heap.size) (w_85.heap.size) Rm.rows (isM_n Rm.rows im.out MM.out) Rm.le (by omega)).mono ?_
            rintro e' w_140 ⟨rfl, hB, hF⟩
            clear q_139
            clear Rm
            have lw_140 : w_138.heap.size ≤ w_140.heap.size := hB.size
            replace hMa := box_spoilt hMa hB hF (by omega)
            replace hMb := box_spoilt hMb hB hF (by omega)
            replace hMu := box_spoilt hMu hB hF (by omega)
            replace hMv := box_spoilt hMv hB hF (by omega)
            replace hMm := box_spoilt hMm hB hF (by omega)
            replace Ra := RB.spoilt Ra hB hF (by omega)
            replace Rb := RB.spoilt Rb hB hF (by omega)
            replace Ru := RB.spoilt Ru hB hF (by omega)
            replace Rv := RB.spoilt Rv hB hF (by omega)
            replace a_ := amid_spoilt a_ hB (by omega) (by omega)
            clear hB hF
            clear hMm
            have q_141 := MBox.cells hMu
            have q_142 := MBox.cells hMa
            go_wp2_with fail
            refine (RSame_any w_140 u a Ru.all Ra.all true (twin_same tu.out)).mono ?_
            rintro e' w_143 ⟨rfl, hB⟩
            clear q_141 q_142
            have lw_143 : w_140.heap.size ≤ w_143.heap.size := hB.size
            replace hMa := box_on hMa hB (lt_of_heap hMa)
            replace hMb := box_on hMb hB (lt_of_heap hMb)
            replace hMu := box_on hMu hB (lt_of_heap hMu)
            replace hMv := box_on hMv hB (lt_of_heap hMv)
            replace Ra := RB.on Ra hB
            replace Rb := RB.on Rb hB
            replace Ru := RB.on Ru hB
            replace Rv := RB.on Rv hB
            replace a_ := Amid.on a_ hB
            try clear he_
            clear hB
            have q_144 := MBox.cells hMv
            have q_145 := MBox.cells hMb
            go_wp2_with fail
            refine (RSame_any w_143 v b Rv.all Rb.all true (twin_same tv.out)).mono ?_
            rintro e' w_146 ⟨rfl, hB⟩
            clear q_144 q_145
            have lw_146 : w_143.heap.size ≤ w_146.heap.size := hB.size
            replace hMa := box_on hMa hB (lt_of_heap hMa)
            replace hMb := box_on hMb hB (lt_of_heap hMb)
            replace hMu := box_on hMu hB (lt_of_heap hMu)
            replace hMv := box_on hMv hB (lt_of_heap hMv)
            replace Ra := RB.on Ra hB
            replace Rb := RB.on Rb hB
            replace Ru := RB.on Ru hB
            replace Rv := RB.on Rv hB
            replace a_ := Amid.on a_ hB
            try clear he_
            clear hB
            go_wp2
            go_ret
            exact ⟨rfl, a_.below⟩
end Ma
end Go.Proofs.YtlbkepiflhchdaaDoor
