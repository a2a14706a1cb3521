/- headcountref25.Tells: a walk (printed by a program of mine). -/
/- headcountref25.Tells: kind 1: a walk (printed by a program of mine). -/
/- headcountref25.Tells: kind 2: a walk (printed by a program of mine). -/
/- headcountref25.Tells: kind 3: a walk (printed by a program of mine). -/
/- headcountref25.Tells: kind 4: a walk (printed by a program of mine). -/
/- headcountref25.Tells: kind 5: a walk (printed by a program of mine). -/
/- headcountref25.Tells: kind 6: a walk (printed by a program of mine). -/
/- headcountref25.Tells: all kinds. -/
/- headcountref25.Ask: a walk (printed by a program of mine). -/
import Derived.Test.YtmbppgjhdcmckaaGreatDoorQuR2
import Derived.Test.YtmbppgjhdcmckaaGreatDoorQuW6
import Derived.Test.YtmbppgjhdcmckaaGreatDoorRegionC2
namespace Go.Proofs.YtmbppgjhdcmckaaGreatDoor
open Go.RowKit
namespace Ma
open Dp Dy
theorem MBox.rS {w : World} {g : Nat} {m : Mv} (h : MBox w g m) : w.rangeAt g 0 (cells3D m.S) := fun j v hj => by
  have hl : j < 3 := by
    rcases Nat.lt_or_ge j 3 with h' | h'
    · exact h'
    · rw [List.getElem?_eq_none (by simpa [cells3D] using h')] at hj
      cases hj
  have hc : j = 0 ∨ j = 1 ∨ j = 2 := by omega
  rcases hc with rfl | rfl | rfl
  · exact (MBox.rangeM h 0 v hj)
  · exact (MBox.rangeM h 1 v hj)
  · exact (MBox.rangeM h 2 v hj)
theorem MBox.rW {w : World} {g : Nat} {m : Mv} (h : MBox w g m) : w.rangeAt g 3 (cells3D m.W) := fun j v hj => by
  have hl : j < 3 := by
    rcases Nat.lt_or_ge j 3 with h' | h'
    · exact h'
    · rw [List.getElem?_eq_none (by simpa [cells3D] using h')] at hj
      cases hj
  have hc : j = 0 ∨ j = 1 ∨ j = 2 := by omega
  rcases hc with rfl | rfl | rfl
  · exact (MBox.rangeM h 3 v hj)
  · exact (MBox.rangeM h 4 v hj)
  · exact (MBox.rangeM h 5 v hj)
theorem MBox.rC {w : World} {g : Nat} {m : Mv} (h : MBox w g m) : w.rangeAt g 6 (cells3D m.C) := fun j v hj => by
  have hl : j < 3 := by
    rcases Nat.lt_or_ge j 3 with h' | h'
    · exact h'
    · rw [List.getElem?_eq_none (by simpa [cells3D] using h')] at hj
      cases hj
  have hc : j = 0 ∨ j = 1 ∨ j = 2 := by omega
  rcases hc with rfl | rfl | rfl
  · exact (MBox.rangeM h 6 v hj)
  · exact (MBox.rangeM h 7 v hj)
  · exact (MBox.rangeM h 8 v hj)
theorem MBox.rA {w : World} {g : Nat} {m : Mv} (h : MBox w g m) : w.rangeAt g 9 (cells3D m.A) := fun j v hj => by
  have hl : j < 3 := by
    rcases Nat.lt_or_ge j 3 with h' | h'
    · exact h'
    · rw [List.getElem?_eq_none (by simpa [cells3D] using h')] at hj
      cases hj
  have hc : j = 0 ∨ j = 1 ∨ j = 2 := by omega
  rcases hc with rfl | rfl | rfl
  · exact (MBox.rangeM h 9 v hj)
  · exact (MBox.rangeM h 10 v hj)
  · exact (MBox.rangeM h 11 v hj)
theorem toX_codes {s1 : Bool} {xs1 : List Int} {e1 : Int} {s2 : Bool} {xs2 : List Int} {e2 k : Int} (away : Bool) : (askX s1 xs1 e1 s2 xs2 e2 k = 0 ∧ ((toX s1 xs1 e1 s2 xs2 e2 k away).2 = 0 ∨ (toX s1 xs1 e1 s2 xs2 e2 k away).2 = 10)) ∨ (0 < askX s1 xs1 e1 s2 xs2 e2 k ∧ (toX s1 xs1 e1 s2 xs2 e2 k away).2 = askX s1 xs1 e1 s2 xs2 e2 k) := by
  by_cases h : askX s1 xs1 e1 s2 xs2 e2 k = 0
  · refine .inl ⟨h, ?_⟩
    unfold toX
    rw [if_pos h]
    unfold toD
    rcases formed_cases (dn s1 xs1 e1).neg ((quoN (dn s1 xs1 e1) (dn s2 xs2 e2) k.toNat).1 + if (quoN (dn s1 xs1 e1) (dn s2 xs2 e2) k.toNat).2 ≠ 0 ∧ away = true then 1 else 0) k.toNat with h' | h'
    · exact .inl h'
    · rw [h']
      exact .inr rfl
  · refine .inr ⟨?_, ?_⟩
    · unfold askX at h ⊢
      split
      · split
        · omega
        · rename_i h1 h2
          rw [if_pos h1, if_neg h2] at h
          exact absurd rfl h
      · omega
    · unfold toX
      rw [if_neg h]
/-- Both errors' greatest one is the first one. -/
theorem band_parts {a b : Dv} {k : Int} (h : aboveV b = true) : bandX a b k = partsX a b k := by
  unfold bandX partsX
  simp only [h, Bool.true_eq_false, if_false]
  have c1 := toX_codes (s1 := a.s) (xs1 := a.xs) (e1 := a.e) (s2 := b.s) (xs2 := b.xs) (e2 := b.e) (k := k) a.s
  have c2 := toX_codes (s1 := a.s) (xs1 := a.xs) (e1 := a.e) (s2 := b.s) (xs2 := b.xs) (e2 := b.e) (k := k) (!a.s)
  generalize toX a.s a.xs a.e b.s b.xs b.e k a.s = p at *
  generalize toX a.s a.xs a.e b.s b.xs b.e k (!a.s) = q at *
  generalize askX a.s a.xs a.e b.s b.xs b.e k = t at *
  by_cases hp : p.2 = 0
  · by_cases hq : q.2 = 0
    · rw [if_pos (by omega), if_neg (by omega), if_neg (by omega)]
    · have e : max p.2 q.2 = q.2 := by omega
      rw [e, if_neg hq, if_neg (show ¬ p.2 ≠ 0 by omega), if_pos (show q.2 ≠ 0 from hq)]
  · have e : max p.2 q.2 = p.2 := by omega
    rw [e, if_neg hp, if_pos (show p.2 ≠ 0 from hp)]
end Ma
end Go.Proofs.YtmbppgjhdcmckaaGreatDoor
namespace Go.Proofs.YtmbppgjhdcmckaaGreatDoor
open Go.RowKit
namespace Ma
open Dp Dy
set_option maxHeartbeats 51200000 in
set_option maxRecDepth 100000 in
/-- headcountref25.Tells. -/
theorem RTells1_any (w : World) (p : Pv) (hR : PRows w 0 w.heap.size p) (hT : Tab w) (k : Int) (hm : mayP p = true) (lo hi : Dn) (code : Int) (h : kindX p 1 k = (lo, hi, code)) :
    Calls Tryz.prog 42 #[.agg #[.bool p.M.S.s, .slice p.M.S.A p.M.S.n p.M.S.c, .int .i64 p.M.S.e, .bool p.M.W.s, .slice p.M.W.A p.M.W.n p.M.W.c, .int .i64 p.M.W.e, .bool p.M.C.s, .slice p.M.C.A p.M.C.n p.M.C.c, .int .i64 p.M.C.e, .bool p.M.A.s, .slice p.M.A.A p.M.A.n p.M.A.c, .int .i64 p.M.A.e, .bool p.h, .int .i64 p.mn, .int .i64 p.mx, .slice p.A p.n p.c], .int .u8 1, .int .i64 k] w (RToldR w lo hi code) := by
  obtain ⟨w1, hw1, bP, ja, S1⟩ := alloc_p w p
  obtain ⟨w2, hw2, bT, jb, S2⟩ := alloc_zt w1
  have s1 := ja.size
  have s2 := jb.size
  have z1 : w1.heap.size = w.heap.size + 1 := by rw [← hw1]; simp
  have jw : Below w.heap.size w w2 := later ja jb
  have SP : w.heap.size < w2.heap.size := by omega
  replace bP : PBox w2 w.heap.size p := (jb.block _ S1).trans bP
  subst hw1
  rw [z1] at bT S2
  have HH := Lib.hid h
  have HE := Lib.hid (mayP_ends hm)
  obtain ⟨u, hu, bM, ju, Su⟩ := alloc_m w2 p.M
  have rM := PBox.mass bP
  clear h ja jb hm S1 s1 s2 z1
  go_enter Tryz.func42, Tryz.ntmps42
  go_upto_region 2 with (first
    | (refine wpList_load_mid rfl 26 (.tmp 18) rfl w.heap.size 0 rfl [.bool p.M.S.s, .slice p.M.S.A p.M.S.n p.M.S.c, .int .i64 p.M.S.e, .bool p.M.W.s, .slice p.M.W.A p.M.W.n p.M.W.c, .int .i64 p.M.W.e, .bool p.M.C.s, .slice p.M.C.A p.M.C.n p.M.C.c, .int .i64 p.M.C.e, .bool p.M.A.s, .slice p.M.A.A p.M.A.n p.M.A.c, .int .i64 p.M.A.e] _ rM Tryz.underlying26 rfl (by kernel_rfl) ?_)
    | (refine wpList_store_nw rfl 26 (.tmp 8) (.tmp 19) rfl _ #[.bool p.M.S.s, .slice p.M.S.A p.M.S.n p.M.S.c, .int .i64 p.M.S.e, .bool p.M.W.s, .slice p.M.W.A p.M.W.n p.M.W.c, .int .i64 p.M.W.e, .bool p.M.C.s, .slice p.M.C.A p.M.C.n p.M.C.c, .int .i64 p.M.C.e, .bool p.M.A.s, .slice p.M.A.A p.M.A.n p.M.A.c, .int .i64 p.M.A.e] rfl rfl (by kernel_rfl) rfl (all_oneCell_toArray (cells12P_one p.M)) ?_; rw [hu]))
  try rw [hu]
  try clear hu
  try clear hw2
  clear rM
  obtain ⟨b, hb⟩ : ∃ b, aboveV p.M.C = b := ⟨_, rfl⟩
  have HB_ := Lib.hid hb
  clear hb
  have rf := MBox.rC bM
  go_wp2_with (first
    | (refine wpList_load_midG (by rfl) 24 (.tmp 27) rfl (w2.heap.size) 6 rfl [.bool p.M.C.s, .slice p.M.C.A p.M.C.n p.M.C.c, .int .i64 p.M.C.e] _ rf Tryz.underlying24 rfl (by kernel_rfl) ?_))
  refine (rabove_any u p.M.C b HB_.out).mono ?_
  rintro e' v1 ⟨rfl, j2⟩
  try clear hw
  clear rf
  cases b
  · skip
    have he := HH.out
    replace he : countX p.M.C = _ := he
    unfold countX at he
    rw [if_pos HB_.out] at he
    injection he with he1 he2
    injection he2 with he2 he3
    subst he1 he2 he3
    clear HH
    go_upto_region 4 with fail
    have u3_b : TBox v1 ((w.heap.size + 1)) ZDv ZDv := (box_later bT (later ju j2) S2)
    obtain ⟨u3, h4, bTu3, h4_b, h4_f, h4_l, h4_m⟩ := told_into u3_b ZDv ZDv
    have h4_t := TBox.there u3_b
    replace h4 : v1.setCells ((w.heap.size + 1)) 0 (#[.bool false, .slice none 0 0, .int .i64 0, .bool false, .slice none 0 0, .int .i64 0] : Array Value).toList = u3 := h4
    have h4_H := Lib.hid h4
    clear h4
    have fin_ := h4_b _ _ (later jw (later ju j2)) (by omega)
    go_wp2_with (first
      | (refine wpList_store_mid rfl 32 (.tmp 6) (.tmp 67) rfl ((w.heap.size + 1)) 0 #[.bool false, .slice none 0 0, .int .i64 0, .bool false, .slice none 0 0, .int .i64 0] rfl rfl h4_t (by kernel_rfl) (all_oneCell_toArray (cells6D_one ZDv ZDv)) ?_; rw [h4_H.out]))
    exact bodyPost_ret (results_row_slot Tryz.results42 _ _ (w.heap.size + 1) 32 #[.bool false, .slice none 0 0, .int .i64 0, .bool false, .slice none 0 0, .int .i64 0] (0, 0) _ (.int .i64 6) rfl rfl bTu3 Tryz.underlying32 rfl (by kernel_rfl)) rfl ⟨ZDv, ZDv, rfl, isZ, isZ, fin_, rowZ _ _ _, rowZ _ _ _⟩
  · skip
    obtain ⟨r, c, hr⟩ : ∃ r c, nearX false (canon 4294967296 1) 0 p.M.C.s p.M.C.xs p.M.C.e = (r, c) := ⟨_, _, rfl⟩
    have HN := Lib.hid hr
    have HK : Hid ((if c = 0 then (r, r, (0 : Int)) else (Dn.zero, Dn.zero, c)) = (lo, hi, code)) := Lib.hid (by
      have he := HH.out
      replace he : countX p.M.C = _ := he
      unfold countX at he
      rw [if_neg (by rw [HB_.out]; simp), hr] at he
      exact he)
    have HMy := Lib.hid (nearX_may hr)
    clear hr HH
    go_upto_region 7 with fail
    try clear hw
    refine region_E (Keeps v1) [] (m := 10) (L := #[false, false, false, false, false, false, false, false, false, false]) (by kernel_rfl) (by rfl) (by rfl) ?_
    have j6 : Below v1.heap.size v1 v1.drew := (Below.refl _ _).drew
    generalize v1.drew = v5 at *
    refine pureE (i := 1) (L := #[false, true, false, false, false, false, false, false, false, false]) (v := ?_) rfl (by rfl) (by kernel_rfl) (by kernel_rfl) (by kernel_rfl) (fun _ _ _ h => h) (by rfl) ?hy1 ?rest1
    case hy1 => intro w; go_simp; (try with_reducible rfl)
    try simp only [Act.put, List.setIfInBounds_toArray, List.set_cons_zero, List.set_cons_succ]
    have kpy7 : Keeps v1 v5 := fun p hp => Below.block j6 p hp
    refine readE (i := 2) (L := #[false, true, true, false, false, false, false, false, false, false]) (v := .agg #[.bool p.M.C.s, .slice p.M.C.A p.M.C.n p.M.C.c, .int .i64 p.M.C.e]) rfl (by rfl) (by kernel_rfl) (by kernel_rfl) (by kernel_rfl) (fun _ _ _ h => h) (by assumption) (by rfl) ?y7 ?z8
    case y7 =>
      intro w' h1
      exact run_load_op 24 (.tmp 73) rfl (w2.heap.size) 6 rfl [.bool p.M.C.s, .slice p.M.C.A p.M.C.n p.M.C.c, .int .i64 p.M.C.e] _ (MBox.rC ((h1 _ (Nat.lt_of_lt_of_le Su (Below.size j2))).trans (box_later bM j2 Su))) Tryz.underlying24 rfl (by kernel_rfl)
    try simp only [Act.put, List.setIfInBounds_toArray, List.set_cons_zero, List.set_cons_succ]
    refine E_of_C (fun (A : Act) a' w' => ∃ (v72 v75 v71 : Value) (X : Dv) (g10 l_ h_ : Nat), a' = ((((((A.put (some 72) (v72)).put (some 75) (v75)).put (some 71) (v71)).put (some 76) (.agg #[.bool X.s, .slice X.A X.n X.c, .int .i64 X.e])).put (some 77) (.int .i64 c)).put (some 10) (.pointer (some ⟨g10, 0, none⟩))) ∧ v1.heap.size ≤ g10 ∧ v1.heap.size ≤ l_ ∧ h_ ≤ w'.heap.size ∧ (g10 < l_ ∨ h_ ≤ g10) ∧ QBox w' g10 ZDv ∧ Below v1.heap.size v1 w' ∧ Hid (Is r X) ∧ DRow w' l_ h_ X) #[true, true, true, true, true, true, true, true, false, false] 2 ?leaf ?tree
    case tree =>
      have zv5 : v1.heap.size ≤ v5.heap.size := Below.size j6
      
      refine stepC2 (i := 0) (j := 7) (Li := #[true, true, true, false, false, false, false, false, false, false]) (Lj := #[false, true, true, false, false, false, false, true, false, false]) rfl rfl (by rfl) (by rfl) (by kernel_rfl) (by rfl) (by rfl) (fun K hK => ?o1_0) (fun K hK => ?o1_7)
      case o1_0 =>
        
        go_simp
        go_at_call 88
        refine (rOf_dv v5 1 (by decide) (by decide)).mono ?_
        rintro e' v9 ⟨O, rfl, iO, j10, dO⟩
        replace iO := Lib.hid iO
        replace dO := ints_all dO
        have zv9 : v5.heap.size ≤ v9.heap.size := Below.size j10
        refine hK _ _ ⟨fun _ _ => fun p hp => Below.block (later j6 j10) p hp, ?_⟩
        clear hK K
        try simp only [Act.put, List.setIfInBounds_toArray, List.set_cons_zero, List.set_cons_succ]
        refine stepC2 (i := 3) (j := 7) (Li := #[true, true, true, true, false, false, false, false, false, false]) (Lj := #[true, true, true, false, false, false, false, true, false, false]) rfl rfl (by rfl) (by rfl) (by kernel_rfl) (by rfl) (by rfl) (fun K hK => ?o2_3) (fun K hK => ?o2_7)
        case o2_3 =>
          
          go_simp
          go_at_call 87
          refine (rNear_dv v9 O p.M.C dO (PRows.on hR (later jw (later ju (later j2 (later j6 j10))))).1.C r c (by rw [iO.out.1, iO.out.2.1, iO.out.2.2]; exact HN.out)).mono ?_
          rintro e' v11 ⟨X, rfl, iX, j12, eX⟩
          replace iX := Lib.hid iX
          have zv11 : v9.heap.size ≤ v11.heap.size := Below.size j12
          refine hK _ _ ⟨fun _ _ => fun p hp => Below.block (later j6 (later j10 j12)) p hp, ?_⟩
          clear hK K
          try simp only [Act.put, List.setIfInBounds_toArray, List.set_cons_zero, List.set_cons_succ]
          refine pureC (i := 4) (L := #[true, true, true, true, true, false, false, false, false, false]) (v := ?_) rfl (by rfl) (by kernel_rfl) (by kernel_rfl) (by kernel_rfl) (fun _ _ _ h => h) (by rfl) ?hy3 ?rest3
          case hy3 => intro w; go_simp; (try with_reducible rfl)
          try simp only [Act.put, List.setIfInBounds_toArray, List.set_cons_zero, List.set_cons_succ]
          refine pureC (i := 5) (L := #[true, true, true, true, true, true, false, false, false, false]) (v := ?_) rfl (by rfl) (by kernel_rfl) (by kernel_rfl) (by kernel_rfl) (fun _ _ _ h => h) (by rfl) ?hy4 ?rest4
          case hy4 => intro w; go_simp; (try with_reducible rfl)
          try simp only [Act.put, List.setIfInBounds_toArray, List.set_cons_zero, List.set_cons_succ]
          refine pureC (i := 6) (L := #[true, true, true, true, true, true, true, false, false, false]) (v := ?_) rfl (by rfl) (by kernel_rfl) (by kernel_rfl) (by kernel_rfl) (fun _ _ _ h => h) (by rfl) ?hy5 ?rest5
          case hy5 => intro w; go_simp; (try with_reducible rfl)
          try simp only [Act.put, List.setIfInBounds_toArray, List.set_cons_zero, List.set_cons_succ]
          refine stepC (i := 7) (L := #[true, true, true, true, true, true, true, true, false, false]) rfl (by rfl) (by kernel_rfl) (by rfl) (fun K hK => ?_)
          go_simp
          obtain ⟨v13, hc_, bQ, j14, s15⟩ := alloc_zq v11
          rw [hc_]
          clear hc_
          have zv13 : v11.heap.size ≤ v13.heap.size := Below.size j14
          refine hK _ _ ⟨fun _ _ => fun p hp => Below.block (later j6 (later j10 (later j12 j14))) p hp, ?_⟩
          clear hK K
          try simp only [Act.put, List.setIfInBounds_toArray, List.set_cons_zero, List.set_cons_succ]
          exact leafC ⟨_, _, _, X, v11.heap.size, v9.heap.size, v11.heap.size, rfl, by omega, by omega, by omega, by omega, bQ, (later j6 (later j10 (later j12 j14))), iX, (Ints.below eX j14 (Nat.le_refl _))⟩
        case o2_7 =>
          
          go_simp
          obtain ⟨v16, hc_, bQ, j17, s18⟩ := alloc_zq v9
          rw [hc_]
          clear hc_
          have zv16 : v9.heap.size ≤ v16.heap.size := Below.size j17
          refine hK _ _ ⟨fun _ _ => fun p hp => Below.block (later j6 (later j10 j17)) p hp, ?_⟩
          clear hK K
          try simp only [Act.put, List.setIfInBounds_toArray, List.set_cons_zero, List.set_cons_succ]
          refine stepC (i := 3) (L := #[true, true, true, true, false, false, false, true, false, false]) rfl (by rfl) (by kernel_rfl) (by rfl) (fun K hK => ?_)
          go_simp
          go_at_call 87
          refine (rNear_dv v16 O p.M.C (ints_on dO j17) (PRows.on hR (later jw (later ju (later j2 (later j6 (later j10 j17)))))).1.C r c (by rw [iO.out.1, iO.out.2.1, iO.out.2.2]; exact HN.out)).mono ?_
          rintro e' v19 ⟨X, rfl, iX, j20, eX⟩
          replace iX := Lib.hid iX
          have zv19 : v16.heap.size ≤ v19.heap.size := Below.size j20
          refine hK _ _ ⟨fun _ _ => fun p hp => Below.block (later j6 (later j10 (later j17 j20))) p hp, ?_⟩
          clear hK K
          try simp only [Act.put, List.setIfInBounds_toArray, List.set_cons_zero, List.set_cons_succ]
          refine pureC (i := 4) (L := #[true, true, true, true, true, false, false, true, false, false]) (v := ?_) rfl (by rfl) (by kernel_rfl) (by kernel_rfl) (by kernel_rfl) (fun _ _ _ h => h) (by rfl) ?hy8 ?rest8
          case hy8 => intro w; go_simp; (try with_reducible rfl)
          try simp only [Act.put, List.setIfInBounds_toArray, List.set_cons_zero, List.set_cons_succ]
          refine pureC (i := 5) (L := #[true, true, true, true, true, true, false, true, false, false]) (v := ?_) rfl (by rfl) (by kernel_rfl) (by kernel_rfl) (by kernel_rfl) (fun _ _ _ h => h) (by rfl) ?hy9 ?rest9
          case hy9 => intro w; go_simp; (try with_reducible rfl)
          try simp only [Act.put, List.setIfInBounds_toArray, List.set_cons_zero, List.set_cons_succ]
          refine pureC (i := 6) (L := #[true, true, true, true, true, true, true, true, false, false]) (v := ?_) rfl (by rfl) (by kernel_rfl) (by kernel_rfl) (by kernel_rfl) (fun _ _ _ h => h) (by rfl) ?hy10 ?rest10
          case hy10 => intro w; go_simp; (try with_reducible rfl)
          try simp only [Act.put, List.setIfInBounds_toArray, List.set_cons_zero, List.set_cons_succ]
          exact leafC ⟨_, _, _, X, v9.heap.size, v16.heap.size, v19.heap.size, rfl, by omega, by omega, by omega, by omega, (box_later bQ j20 s18), (later j6 (later j10 (later j17 j20))), iX, eX⟩
      case o1_7 =>
        
        go_simp
        obtain ⟨v21, hc_, bQ, j22, s23⟩ := alloc_zq v5
        rw [hc_]
        clear hc_
        have zv21 : v5.heap.size ≤ v21.heap.size := Below.size j22
        refine hK _ _ ⟨fun _ _ => fun p hp => Below.block (later j6 j22) p hp, ?_⟩
        clear hK K
        try simp only [Act.put, List.setIfInBounds_toArray, List.set_cons_zero, List.set_cons_succ]
        refine stepC (i := 0) (L := #[true, true, true, false, false, false, false, true, false, false]) rfl (by rfl) (by kernel_rfl) (by rfl) (fun K hK => ?_)
        go_simp
        go_at_call 88
        refine (rOf_dv v21 1 (by decide) (by decide)).mono ?_
        rintro e' v24 ⟨O, rfl, iO, j25, dO⟩
        replace iO := Lib.hid iO
        replace dO := ints_all dO
        have zv24 : v21.heap.size ≤ v24.heap.size := Below.size j25
        refine hK _ _ ⟨fun _ _ => fun p hp => Below.block (later j6 (later j22 j25)) p hp, ?_⟩
        clear hK K
        try simp only [Act.put, List.setIfInBounds_toArray, List.set_cons_zero, List.set_cons_succ]
        refine stepC (i := 3) (L := #[true, true, true, true, false, false, false, true, false, false]) rfl (by rfl) (by kernel_rfl) (by rfl) (fun K hK => ?_)
        go_simp
        go_at_call 87
        refine (rNear_dv v24 O p.M.C dO (PRows.on hR (later jw (later ju (later j2 (later j6 (later j22 j25)))))).1.C r c (by rw [iO.out.1, iO.out.2.1, iO.out.2.2]; exact HN.out)).mono ?_
        rintro e' v26 ⟨X, rfl, iX, j27, eX⟩
        replace iX := Lib.hid iX
        have zv26 : v24.heap.size ≤ v26.heap.size := Below.size j27
        refine hK _ _ ⟨fun _ _ => fun p hp => Below.block (later j6 (later j22 (later j25 j27))) p hp, ?_⟩
        clear hK K
        try simp only [Act.put, List.setIfInBounds_toArray, List.set_cons_zero, List.set_cons_succ]
        refine pureC (i := 4) (L := #[true, true, true, true, true, false, false, true, false, false]) (v := ?_) rfl (by rfl) (by kernel_rfl) (by kernel_rfl) (by kernel_rfl) (fun _ _ _ h => h) (by rfl) ?hy13 ?rest13
        case hy13 => intro w; go_simp; (try with_reducible rfl)
        try simp only [Act.put, List.setIfInBounds_toArray, List.set_cons_zero, List.set_cons_succ]
        refine pureC (i := 5) (L := #[true, true, true, true, true, true, false, true, false, false]) (v := ?_) rfl (by rfl) (by kernel_rfl) (by kernel_rfl) (by kernel_rfl) (fun _ _ _ h => h) (by rfl) ?hy14 ?rest14
        case hy14 => intro w; go_simp; (try with_reducible rfl)
        try simp only [Act.put, List.setIfInBounds_toArray, List.set_cons_zero, List.set_cons_succ]
        refine pureC (i := 6) (L := #[true, true, true, true, true, true, true, true, false, false]) (v := ?_) rfl (by rfl) (by kernel_rfl) (by kernel_rfl) (by kernel_rfl) (fun _ _ _ h => h) (by rfl) ?hy15 ?rest15
        case hy15 => intro w; go_simp; (try with_reducible rfl)
        try simp only [Act.put, List.setIfInBounds_toArray, List.set_cons_zero, List.set_cons_succ]
        exact leafC ⟨_, _, _, X, v5.heap.size, v24.heap.size, v26.heap.size, rfl, by omega, by omega, by omega, by omega, (box_later bQ (later j25 j27) s23), (later j6 (later j22 (later j25 j27))), iX, eX⟩
    case leaf =>
      rintro a' w' ⟨v72, v75, v71, X, g10, l_, h_, rfl, l8, l9, l10, l11, bQ, bw, iX, rX⟩
      try simp only [Act.put, List.setIfInBounds_toArray, List.set_cons_zero, List.set_cons_succ]
      have lt8 := lt_of_heap bQ
      
      have kp_ : Keeps v1 w' := fun p hp => Below.block bw p hp
      obtain ⟨U, hc_, bU, hb_, hf_, q5, q5'⟩ := dyad_into bQ X
      refine stepK (i := 8) (L := #[true, true, true, true, true, true, true, true, true, false]) rfl (by rfl) (by kernel_rfl) (by rfl) (fun K hK => ?_)
      refine wp_store_mid 24 (.tmp 10) (.tmp 76) rfl g10 0 #[.bool X.s, .slice X.A X.n X.c, .int .i64 X.e] rfl rfl bQ.there (by kernel_rfl) (all_oneCell_toArray (cells3D_one X)) ?_
      rw [show w'.setCells g10 0 (#[.bool X.s, .slice X.A X.n X.c, .int .i64 X.e] : Array Value).toList = U from hc_]
      clear hc_
      replace kp_ : Keeps v1 U := fun p hp => (hf_ p (by omega)).trans (kp_ p hp)
      refine hK _ _ ⟨fun _ _ => kp_, ?_⟩
      clear hK K kp_
      try simp only [Act.put, List.setIfInBounds_toArray, List.set_cons_zero, List.set_cons_succ]
      refine pureE (i := 9) (L := #[true, true, true, true, true, true, true, true, true, true]) (v := ?_) rfl (by rfl) (by kernel_rfl) (by kernel_rfl) (by kernel_rfl) (fun _ _ _ h => h) (by rfl) ?hy17 ?rest17
      case hy17 => intro w; go_simp; (try with_reducible rfl)
      try simp only [Act.put, List.setIfInBounds_toArray, List.set_cons_zero, List.set_cons_succ]
      refine doneE (by kernel_rfl) ?_ _
      have jU := hb_ _ _ bw l8
      have dX : DRow U 0 U.heap.size X := (intsR rX (w' := U) (fun b h1 h2 => hf_ b (by omega))).more (Nat.zero_le _) (by omega)
      have sU : g10 < U.heap.size := by omega
      clear hb_ hf_ bQ bw rX l9 l10 l11
      by_cases c0 : c = 0
      · skip
        subst c0
        have he := HK.out
        rw [if_pos rfl] at he
        injection he with he1 he2
        injection he2 with he2 he3
        subst he1
        subst he2 he3
        clear HK
        have rq : U.rangeAt (g10) 0 [.bool X.s, .slice X.A X.n X.c, .int .i64 X.e] := QBox.range (x := X) bU
        go_wp2_with (first
          | (refine wpList_load_mid rfl 24 (.tmp 10) rfl (g10) 0 rfl [.bool X.s, .slice X.A X.n X.c, .int .i64 X.e] _ rq Tryz.underlying24 rfl (by kernel_rfl) ?_))
        refine (both25_any U X dX (is_big iX.out HMy.out dX)).mono ?_
        rintro e' v28 ⟨Y1, Y2, rfl, iY, j29, eY1, eY2⟩
        try clear hw
        clear rq
        have iY1 := Lib.hid (iY _ iX.out).1
        have iY2 := Lib.hid (iY _ iX.out).2
        clear iY
        have s8 : w2.heap.size ≤ U.heap.size := Below.size (later ju (later j2 jU))
        have eY1_ : DRow v28 w2.heap.size v28.heap.size Y1 := Ints.more eY1 s8 (Nat.le_refl _)
        have eY2_ : DRow v28 w2.heap.size v28.heap.size Y2 := Ints.more eY2 s8 (Nat.le_refl _)
        have u30_b : TBox v28 ((w.heap.size + 1)) ZDv ZDv := (box_later bT (later ju (later j2 (later jU j29))) S2)
        obtain ⟨u30, h31, bTu30, h31_b, h31_f, h31_l, h31_m⟩ := told_into u30_b Y1 Y2
        have h31_t := TBox.there u30_b
        replace h31 : v28.setCells ((w.heap.size + 1)) 0 (#[.bool Y1.s, .slice Y1.A Y1.n Y1.c, .int .i64 Y1.e, .bool Y2.s, .slice Y2.A Y2.n Y2.c, .int .i64 Y2.e] : Array Value).toList = u30 := h31
        have h31_H := Lib.hid h31
        clear h31
        have fin_ := h31_b _ _ (later jw (later ju (later j2 (later jU j29)))) (by omega)
        go_wp2_with (first
          | (refine wpList_store_mid rfl 32 (.tmp 6) (.tmp 83) rfl ((w.heap.size + 1)) 0 #[.bool Y1.s, .slice Y1.A Y1.n Y1.c, .int .i64 Y1.e, .bool Y2.s, .slice Y2.A Y2.n Y2.c, .int .i64 Y2.e] rfl rfl h31_t (by kernel_rfl) (all_oneCell_toArray (cells6D_one Y1 Y2)) ?_; rw [h31_H.out]))
        exact bodyPost_ret (results_row_slot Tryz.results42 _ _ (w.heap.size + 1) 32 #[.bool Y1.s, .slice Y1.A Y1.n Y1.c, .int .i64 Y1.e, .bool Y2.s, .slice Y2.A Y2.n Y2.c, .int .i64 Y2.e] (0, 0) _ (.int .i64 0) rfl rfl bTu30 Tryz.underlying32 rfl (by kernel_rfl)) rfl ⟨Y1, Y2, rfl, iY1.out, iY2.out, fin_, (intsR eY1_ (w' := u30) (fun b h1 h2 => h31_f b (by omega))).more (by omega) (by omega), (intsR eY2_ (w' := u30) (fun b h1 h2 => h31_f b (by omega))).more (by omega) (by omega)⟩
      · skip
        have he := HK.out
        rw [if_neg c0] at he
        injection he with he1 he2
        injection he2 with he2 he3
        subst he1 he2 he3
        clear HK
        have u32_b : TBox U ((w.heap.size + 1)) ZDv ZDv := (box_later bT (later ju (later j2 jU)) S2)
        obtain ⟨u32, h33, bTu32, h33_b, h33_f, h33_l, h33_m⟩ := told_into u32_b ZDv ZDv
        have h33_t := TBox.there u32_b
        replace h33 : U.setCells ((w.heap.size + 1)) 0 (#[.bool false, .slice none 0 0, .int .i64 0, .bool false, .slice none 0 0, .int .i64 0] : Array Value).toList = u32 := h33
        have h33_H := Lib.hid h33
        clear h33
        have fin_ := h33_b _ _ (later jw (later ju (later j2 jU))) (by omega)
        go_wp2_with (first
          | (refine wpList_store_mid rfl 32 (.tmp 6) (.tmp 80) rfl ((w.heap.size + 1)) 0 #[.bool false, .slice none 0 0, .int .i64 0, .bool false, .slice none 0 0, .int .i64 0] rfl rfl h33_t (by kernel_rfl) (all_oneCell_toArray (cells6D_one ZDv ZDv)) ?_; rw [h33_H.out]))
        exact bodyPost_ret (results_row_slot Tryz.results42 _ _ (w.heap.size + 1) 32 #[.bool false, .slice none 0 0, .int .i64 0, .bool false, .slice none 0 0, .int .i64 0] (0, 0) _ (.int .i64 c) rfl rfl bTu32 Tryz.underlying32 rfl (by kernel_rfl)) rfl ⟨ZDv, ZDv, rfl, isZ, isZ, fin_, rowZ _ _ _, rowZ _ _ _⟩
end Ma
end Go.Proofs.YtmbppgjhdcmckaaGreatDoor
namespace Go.Proofs.YtmbppgjhdcmckaaGreatDoor
open Go.RowKit
namespace Ma
open Dp Dy
set_option maxHeartbeats 51200000 in
set_option maxRecDepth 100000 in
/-- headcountref25.Tells. -/
theorem RTells2_any (w : World) (p : Pv) (hR : PRows w 0 w.heap.size p) (hT : Tab w) (k : Int) (hm : mayP p = true) (lo hi : Dn) (code : Int) (h : kindX p 2 k = (lo, hi, code)) :
    Calls Tryz.prog 42 #[.agg #[.bool p.M.S.s, .slice p.M.S.A p.M.S.n p.M.S.c, .int .i64 p.M.S.e, .bool p.M.W.s, .slice p.M.W.A p.M.W.n p.M.W.c, .int .i64 p.M.W.e, .bool p.M.C.s, .slice p.M.C.A p.M.C.n p.M.C.c, .int .i64 p.M.C.e, .bool p.M.A.s, .slice p.M.A.A p.M.A.n p.M.A.c, .int .i64 p.M.A.e, .bool p.h, .int .i64 p.mn, .int .i64 p.mx, .slice p.A p.n p.c], .int .u8 2, .int .i64 k] w (RToldR w lo hi code) := by
  obtain ⟨w1, hw1, bP, ja, S1⟩ := alloc_p w p
  obtain ⟨w2, hw2, bT, jb, S2⟩ := alloc_zt w1
  have s1 := ja.size
  have s2 := jb.size
  have z1 : w1.heap.size = w.heap.size + 1 := by rw [← hw1]; simp
  have jw : Below w.heap.size w w2 := later ja jb
  have SP : w.heap.size < w2.heap.size := by omega
  replace bP : PBox w2 w.heap.size p := (jb.block _ S1).trans bP
  subst hw1
  rw [z1] at bT S2
  have HH := Lib.hid h
  have HE := Lib.hid (mayP_ends hm)
  obtain ⟨u, hu, bM, ju, Su⟩ := alloc_m w2 p.M
  have rM := PBox.mass bP
  clear h ja jb hm S1 s1 s2 z1
  go_enter Tryz.func42, Tryz.ntmps42
  go_upto_region 2 with (first
    | (refine wpList_load_mid rfl 26 (.tmp 18) rfl w.heap.size 0 rfl [.bool p.M.S.s, .slice p.M.S.A p.M.S.n p.M.S.c, .int .i64 p.M.S.e, .bool p.M.W.s, .slice p.M.W.A p.M.W.n p.M.W.c, .int .i64 p.M.W.e, .bool p.M.C.s, .slice p.M.C.A p.M.C.n p.M.C.c, .int .i64 p.M.C.e, .bool p.M.A.s, .slice p.M.A.A p.M.A.n p.M.A.c, .int .i64 p.M.A.e] _ rM Tryz.underlying26 rfl (by kernel_rfl) ?_)
    | (refine wpList_store_nw rfl 26 (.tmp 8) (.tmp 19) rfl _ #[.bool p.M.S.s, .slice p.M.S.A p.M.S.n p.M.S.c, .int .i64 p.M.S.e, .bool p.M.W.s, .slice p.M.W.A p.M.W.n p.M.W.c, .int .i64 p.M.W.e, .bool p.M.C.s, .slice p.M.C.A p.M.C.n p.M.C.c, .int .i64 p.M.C.e, .bool p.M.A.s, .slice p.M.A.A p.M.A.n p.M.A.c, .int .i64 p.M.A.e] rfl rfl (by kernel_rfl) rfl (all_oneCell_toArray (cells12P_one p.M)) ?_; rw [hu]))
  try rw [hu]
  try clear hu
  try clear hw2
  clear rM
  obtain ⟨b, hb⟩ : ∃ b, aboveV p.M.C = b := ⟨_, rfl⟩
  have HB_ := Lib.hid hb
  clear hb
  have rf := MBox.rC bM
  go_wp2_with (first
    | (refine wpList_load_midG (by rfl) 24 (.tmp 27) rfl (w2.heap.size) 6 rfl [.bool p.M.C.s, .slice p.M.C.A p.M.C.n p.M.C.c, .int .i64 p.M.C.e] _ rf Tryz.underlying24 rfl (by kernel_rfl) ?_))
  refine (rabove_any u p.M.C b HB_.out).mono ?_
  rintro e' v34 ⟨rfl, j35⟩
  try clear hw
  clear rf
  cases b
  · skip
    have he := HH.out
    replace he : partsX p.M.A p.M.C k = _ := he
    unfold partsX at he
    rw [if_pos HB_.out] at he
    injection he with he1 he2
    injection he2 with he2 he3
    subst he1 he2 he3
    clear HH
    go_upto_region 4 with fail
    have u36_b : TBox v34 ((w.heap.size + 1)) ZDv ZDv := (box_later bT (later ju j35) S2)
    obtain ⟨u36, h37, bTu36, h37_b, h37_f, h37_l, h37_m⟩ := told_into u36_b ZDv ZDv
    have h37_t := TBox.there u36_b
    replace h37 : v34.setCells ((w.heap.size + 1)) 0 (#[.bool false, .slice none 0 0, .int .i64 0, .bool false, .slice none 0 0, .int .i64 0] : Array Value).toList = u36 := h37
    have h37_H := Lib.hid h37
    clear h37
    have fin_ := h37_b _ _ (later jw (later ju j35)) (by omega)
    go_wp2_with (first
      | (refine wpList_store_mid rfl 32 (.tmp 6) (.tmp 67) rfl ((w.heap.size + 1)) 0 #[.bool false, .slice none 0 0, .int .i64 0, .bool false, .slice none 0 0, .int .i64 0] rfl rfl h37_t (by kernel_rfl) (all_oneCell_toArray (cells6D_one ZDv ZDv)) ?_; rw [h37_H.out]))
    exact bodyPost_ret (results_row_slot Tryz.results42 _ _ (w.heap.size + 1) 32 #[.bool false, .slice none 0 0, .int .i64 0, .bool false, .slice none 0 0, .int .i64 0] (0, 0) _ (.int .i64 6) rfl rfl bTu36 Tryz.underlying32 rfl (by kernel_rfl)) rfl ⟨ZDv, ZDv, rfl, isZ, isZ, fin_, rowZ _ _ _, rowZ _ _ _⟩
  · skip
    go_upto_region 12 with fail
    have HX := Lib.hid ((band_parts (a := p.M.A) (b := p.M.C) (k := k) HB_.out).trans HH.out)
    have ra := MBox.rA (box_later bM j35 Su)
    have rb := MBox.rC (box_later bM j35 Su)
    go_wp2_with (first
      | (refine wpList_load_mid rfl 24 (.tmp 87) rfl (w2.heap.size) 9 rfl [.bool p.M.A.s, .slice p.M.A.A p.M.A.n p.M.A.c, .int .i64 p.M.A.e] _ ra Tryz.underlying24 rfl (by kernel_rfl) ?_)
      | (refine wpList_load_mid rfl 24 (.tmp 89) rfl (w2.heap.size) 6 rfl [.bool p.M.C.s, .slice p.M.C.A p.M.C.n p.M.C.c, .int .i64 p.M.C.e] _ rb Tryz.underlying24 rfl (by kernel_rfl) ?_))
    refine (banded_any v34 p.M.A p.M.C k (PRows.on hR (later jw (later ju j35))).1.A (PRows.on hR (later jw (later ju j35))).1.C lo hi code HX.out).mono ?_
    rintro e' v38 ⟨X, Y, rfl, iX, iY, j39, eX, eY⟩
    try clear hw
    replace iX := Lib.hid iX
    replace iY := Lib.hid iY
    clear ra rb
    obtain ⟨u40, h43, bN, j41, s42⟩ := alloc_t v38 X Y
    have s8 : w2.heap.size ≤ v34.heap.size := Below.size (later ju j35)
    have eX_ : DRow u40 w2.heap.size u40.heap.size X := Ints.more (Ints.below eX j41 (Nat.le_refl _)) s8 (Below.size j41)
    have eY_ : DRow u40 w2.heap.size u40.heap.size Y := Ints.more (Ints.below eY j41 (Nat.le_refl _)) s8 (Below.size j41)
    have rN := TBox.range bN
    have u44_b : TBox u40 ((w.heap.size + 1)) ZDv ZDv := (box_later bT (later ju (later j35 (later j39 j41))) S2)
    obtain ⟨u44, h45, bTu44, h45_b, h45_f, h45_l, h45_m⟩ := told_into u44_b X Y
    have h45_t := TBox.there u44_b
    replace h45 : u40.setCells ((w.heap.size + 1)) 0 (#[.bool X.s, .slice X.A X.n X.c, .int .i64 X.e, .bool Y.s, .slice Y.A Y.n Y.c, .int .i64 Y.e] : Array Value).toList = u44 := h45
    have h45_H := Lib.hid h45
    clear h45
    have fin_ := h45_b _ _ (later jw (later ju (later j35 (later j39 j41)))) (by omega)
    go_wp2_with (first
      | (refine wpList_store_nw rfl 32 (.tmp 12) (.tmp 93) rfl _ #[.bool X.s, .slice X.A X.n X.c, .int .i64 X.e, .bool Y.s, .slice Y.A Y.n Y.c, .int .i64 Y.e] rfl rfl (by kernel_rfl) rfl (all_oneCell_toArray (cells6D_one X Y)) ?_; rw [h43])
      | (refine wpList_load_mid rfl 32 (.tmp 12) rfl (v38.heap.size) 0 rfl [.bool X.s, .slice X.A X.n X.c, .int .i64 X.e, .bool Y.s, .slice Y.A Y.n Y.c, .int .i64 Y.e] _ rN Tryz.underlying32 rfl (by kernel_rfl) ?_)
      | (refine wpList_store_mid rfl 32 (.tmp 6) (.tmp 95) rfl ((w.heap.size + 1)) 0 #[.bool X.s, .slice X.A X.n X.c, .int .i64 X.e, .bool Y.s, .slice Y.A Y.n Y.c, .int .i64 Y.e] rfl rfl h45_t (by kernel_rfl) (all_oneCell_toArray (cells6D_one X Y)) ?_; rw [h45_H.out]))
    exact bodyPost_ret (results_row_slot Tryz.results42 _ _ (w.heap.size + 1) 32 #[.bool X.s, .slice X.A X.n X.c, .int .i64 X.e, .bool Y.s, .slice Y.A Y.n Y.c, .int .i64 Y.e] (0, 0) _ (.int .i64 code) rfl rfl bTu44 Tryz.underlying32 rfl (by kernel_rfl)) rfl ⟨X, Y, rfl, iX.out, iY.out, fin_, (intsR eX_ (w' := u44) (fun b h1 h2 => h45_f b (by omega))).more (by omega) (by omega), (intsR eY_ (w' := u44) (fun b h1 h2 => h45_f b (by omega))).more (by omega) (by omega)⟩
end Ma
end Go.Proofs.YtmbppgjhdcmckaaGreatDoor
namespace Go.Proofs.YtmbppgjhdcmckaaGreatDoor
open Go.RowKit
namespace Ma
open Dp Dy
set_option maxHeartbeats 51200000 in
set_option maxRecDepth 100000 in
/-- headcountref25.Tells. -/
theorem RTells3_any (w : World) (p : Pv) (hR : PRows w 0 w.heap.size p) (hT : Tab w) (k : Int) (hm : mayP p = true) (lo hi : Dn) (code : Int) (h : kindX p 3 k = (lo, hi, code)) :
    Calls Tryz.prog 42 #[.agg #[.bool p.M.S.s, .slice p.M.S.A p.M.S.n p.M.S.c, .int .i64 p.M.S.e, .bool p.M.W.s, .slice p.M.W.A p.M.W.n p.M.W.c, .int .i64 p.M.W.e, .bool p.M.C.s, .slice p.M.C.A p.M.C.n p.M.C.c, .int .i64 p.M.C.e, .bool p.M.A.s, .slice p.M.A.A p.M.A.n p.M.A.c, .int .i64 p.M.A.e, .bool p.h, .int .i64 p.mn, .int .i64 p.mx, .slice p.A p.n p.c], .int .u8 3, .int .i64 k] w (RToldR w lo hi code) := by
  obtain ⟨w1, hw1, bP, ja, S1⟩ := alloc_p w p
  obtain ⟨w2, hw2, bT, jb, S2⟩ := alloc_zt w1
  have s1 := ja.size
  have s2 := jb.size
  have z1 : w1.heap.size = w.heap.size + 1 := by rw [← hw1]; simp
  have jw : Below w.heap.size w w2 := later ja jb
  have SP : w.heap.size < w2.heap.size := by omega
  replace bP : PBox w2 w.heap.size p := (jb.block _ S1).trans bP
  subst hw1
  rw [z1] at bT S2
  have HH := Lib.hid h
  have HE := Lib.hid (mayP_ends hm)
  obtain ⟨u, hu, bM, ju, Su⟩ := alloc_m w2 p.M
  have rM := PBox.mass bP
  clear h ja jb hm S1 s1 s2 z1
  go_enter Tryz.func42, Tryz.ntmps42
  go_upto_region 2 with (first
    | (refine wpList_load_mid rfl 26 (.tmp 18) rfl w.heap.size 0 rfl [.bool p.M.S.s, .slice p.M.S.A p.M.S.n p.M.S.c, .int .i64 p.M.S.e, .bool p.M.W.s, .slice p.M.W.A p.M.W.n p.M.W.c, .int .i64 p.M.W.e, .bool p.M.C.s, .slice p.M.C.A p.M.C.n p.M.C.c, .int .i64 p.M.C.e, .bool p.M.A.s, .slice p.M.A.A p.M.A.n p.M.A.c, .int .i64 p.M.A.e] _ rM Tryz.underlying26 rfl (by kernel_rfl) ?_)
    | (refine wpList_store_nw rfl 26 (.tmp 8) (.tmp 19) rfl _ #[.bool p.M.S.s, .slice p.M.S.A p.M.S.n p.M.S.c, .int .i64 p.M.S.e, .bool p.M.W.s, .slice p.M.W.A p.M.W.n p.M.W.c, .int .i64 p.M.W.e, .bool p.M.C.s, .slice p.M.C.A p.M.C.n p.M.C.c, .int .i64 p.M.C.e, .bool p.M.A.s, .slice p.M.A.A p.M.A.n p.M.A.c, .int .i64 p.M.A.e] rfl rfl (by kernel_rfl) rfl (all_oneCell_toArray (cells12P_one p.M)) ?_; rw [hu]))
  try rw [hu]
  try clear hu
  try clear hw2
  clear rM
  obtain ⟨b, hb⟩ : ∃ b, aboveV p.M.W = b := ⟨_, rfl⟩
  have HB_ := Lib.hid hb
  clear hb
  have rf := MBox.rW bM
  go_wp2_with (first
    | (refine wpList_load_midG (by rfl) 24 (.tmp 40) rfl (w2.heap.size) 3 rfl [.bool p.M.W.s, .slice p.M.W.A p.M.W.n p.M.W.c, .int .i64 p.M.W.e] _ rf Tryz.underlying24 rfl (by kernel_rfl) ?_))
  refine (rabove_any u p.M.W b HB_.out).mono ?_
  rintro e' v46 ⟨rfl, j47⟩
  try clear hw
  clear rf
  cases b
  · skip
    have he := HH.out
    replace he : partsX p.M.S p.M.W k = _ := he
    unfold partsX at he
    rw [if_pos HB_.out] at he
    injection he with he1 he2
    injection he2 with he2 he3
    subst he1 he2 he3
    clear HH
    go_upto_region 4 with fail
    have u48_b : TBox v46 ((w.heap.size + 1)) ZDv ZDv := (box_later bT (later ju j47) S2)
    obtain ⟨u48, h49, bTu48, h49_b, h49_f, h49_l, h49_m⟩ := told_into u48_b ZDv ZDv
    have h49_t := TBox.there u48_b
    replace h49 : v46.setCells ((w.heap.size + 1)) 0 (#[.bool false, .slice none 0 0, .int .i64 0, .bool false, .slice none 0 0, .int .i64 0] : Array Value).toList = u48 := h49
    have h49_H := Lib.hid h49
    clear h49
    have fin_ := h49_b _ _ (later jw (later ju j47)) (by omega)
    go_wp2_with (first
      | (refine wpList_store_mid rfl 32 (.tmp 6) (.tmp 67) rfl ((w.heap.size + 1)) 0 #[.bool false, .slice none 0 0, .int .i64 0, .bool false, .slice none 0 0, .int .i64 0] rfl rfl h49_t (by kernel_rfl) (all_oneCell_toArray (cells6D_one ZDv ZDv)) ?_; rw [h49_H.out]))
    exact bodyPost_ret (results_row_slot Tryz.results42 _ _ (w.heap.size + 1) 32 #[.bool false, .slice none 0 0, .int .i64 0, .bool false, .slice none 0 0, .int .i64 0] (0, 0) _ (.int .i64 6) rfl rfl bTu48 Tryz.underlying32 rfl (by kernel_rfl)) rfl ⟨ZDv, ZDv, rfl, isZ, isZ, fin_, rowZ _ _ _, rowZ _ _ _⟩
  · skip
    go_upto_region 15 with fail
    have HX := Lib.hid ((band_parts (a := p.M.S) (b := p.M.W) (k := k) HB_.out).trans HH.out)
    have ra := MBox.rS (box_later bM j47 Su)
    have rb := MBox.rW (box_later bM j47 Su)
    go_wp2_with (first
      | (refine wpList_load_mid rfl 24 (.tmp 100) rfl (w2.heap.size) 0 rfl [.bool p.M.S.s, .slice p.M.S.A p.M.S.n p.M.S.c, .int .i64 p.M.S.e] _ ra Tryz.underlying24 rfl (by kernel_rfl) ?_)
      | (refine wpList_load_mid rfl 24 (.tmp 102) rfl (w2.heap.size) 3 rfl [.bool p.M.W.s, .slice p.M.W.A p.M.W.n p.M.W.c, .int .i64 p.M.W.e] _ rb Tryz.underlying24 rfl (by kernel_rfl) ?_))
    refine (banded_any v46 p.M.S p.M.W k (PRows.on hR (later jw (later ju j47))).1.S (PRows.on hR (later jw (later ju j47))).1.W lo hi code HX.out).mono ?_
    rintro e' v50 ⟨X, Y, rfl, iX, iY, j51, eX, eY⟩
    try clear hw
    replace iX := Lib.hid iX
    replace iY := Lib.hid iY
    clear ra rb
    obtain ⟨u52, h55, bN, j53, s54⟩ := alloc_t v50 X Y
    have s8 : w2.heap.size ≤ v46.heap.size := Below.size (later ju j47)
    have eX_ : DRow u52 w2.heap.size u52.heap.size X := Ints.more (Ints.below eX j53 (Nat.le_refl _)) s8 (Below.size j53)
    have eY_ : DRow u52 w2.heap.size u52.heap.size Y := Ints.more (Ints.below eY j53 (Nat.le_refl _)) s8 (Below.size j53)
    have rN := TBox.range bN
    have u56_b : TBox u52 ((w.heap.size + 1)) ZDv ZDv := (box_later bT (later ju (later j47 (later j51 j53))) S2)
    obtain ⟨u56, h57, bTu56, h57_b, h57_f, h57_l, h57_m⟩ := told_into u56_b X Y
    have h57_t := TBox.there u56_b
    replace h57 : u52.setCells ((w.heap.size + 1)) 0 (#[.bool X.s, .slice X.A X.n X.c, .int .i64 X.e, .bool Y.s, .slice Y.A Y.n Y.c, .int .i64 Y.e] : Array Value).toList = u56 := h57
    have h57_H := Lib.hid h57
    clear h57
    have fin_ := h57_b _ _ (later jw (later ju (later j47 (later j51 j53)))) (by omega)
    go_wp2_with (first
      | (refine wpList_store_nw rfl 32 (.tmp 14) (.tmp 106) rfl _ #[.bool X.s, .slice X.A X.n X.c, .int .i64 X.e, .bool Y.s, .slice Y.A Y.n Y.c, .int .i64 Y.e] rfl rfl (by kernel_rfl) rfl (all_oneCell_toArray (cells6D_one X Y)) ?_; rw [h55])
      | (refine wpList_load_mid rfl 32 (.tmp 14) rfl (v50.heap.size) 0 rfl [.bool X.s, .slice X.A X.n X.c, .int .i64 X.e, .bool Y.s, .slice Y.A Y.n Y.c, .int .i64 Y.e] _ rN Tryz.underlying32 rfl (by kernel_rfl) ?_)
      | (refine wpList_store_mid rfl 32 (.tmp 6) (.tmp 108) rfl ((w.heap.size + 1)) 0 #[.bool X.s, .slice X.A X.n X.c, .int .i64 X.e, .bool Y.s, .slice Y.A Y.n Y.c, .int .i64 Y.e] rfl rfl h57_t (by kernel_rfl) (all_oneCell_toArray (cells6D_one X Y)) ?_; rw [h57_H.out]))
    exact bodyPost_ret (results_row_slot Tryz.results42 _ _ (w.heap.size + 1) 32 #[.bool X.s, .slice X.A X.n X.c, .int .i64 X.e, .bool Y.s, .slice Y.A Y.n Y.c, .int .i64 Y.e] (0, 0) _ (.int .i64 code) rfl rfl bTu56 Tryz.underlying32 rfl (by kernel_rfl)) rfl ⟨X, Y, rfl, iX.out, iY.out, fin_, (intsR eX_ (w' := u56) (fun b h1 h2 => h57_f b (by omega))).more (by omega) (by omega), (intsR eY_ (w' := u56) (fun b h1 h2 => h57_f b (by omega))).more (by omega) (by omega)⟩
end Ma
end Go.Proofs.YtmbppgjhdcmckaaGreatDoor
namespace Go.Proofs.YtmbppgjhdcmckaaGreatDoor
open Go.RowKit
namespace Ma
open Dp Dy
set_option maxHeartbeats 51200000 in
set_option maxRecDepth 100000 in
/-- headcountref25.Tells. -/
theorem RTells4_any (w : World) (p : Pv) (hR : PRows w 0 w.heap.size p) (hT : Tab w) (k : Int) (hm : mayP p = true) (lo hi : Dn) (code : Int) (h : kindX p 4 k = (lo, hi, code)) :
    Calls Tryz.prog 42 #[.agg #[.bool p.M.S.s, .slice p.M.S.A p.M.S.n p.M.S.c, .int .i64 p.M.S.e, .bool p.M.W.s, .slice p.M.W.A p.M.W.n p.M.W.c, .int .i64 p.M.W.e, .bool p.M.C.s, .slice p.M.C.A p.M.C.n p.M.C.c, .int .i64 p.M.C.e, .bool p.M.A.s, .slice p.M.A.A p.M.A.n p.M.A.c, .int .i64 p.M.A.e, .bool p.h, .int .i64 p.mn, .int .i64 p.mx, .slice p.A p.n p.c], .int .u8 4, .int .i64 k] w (RToldR w lo hi code) := by
  obtain ⟨w1, hw1, bP, ja, S1⟩ := alloc_p w p
  obtain ⟨w2, hw2, bT, jb, S2⟩ := alloc_zt w1
  have s1 := ja.size
  have s2 := jb.size
  have z1 : w1.heap.size = w.heap.size + 1 := by rw [← hw1]; simp
  have jw : Below w.heap.size w w2 := later ja jb
  have SP : w.heap.size < w2.heap.size := by omega
  replace bP : PBox w2 w.heap.size p := (jb.block _ S1).trans bP
  subst hw1
  rw [z1] at bT S2
  have HH := Lib.hid h
  have HE := Lib.hid (mayP_ends hm)
  obtain ⟨u, hu, bM, ju, Su⟩ := alloc_m w2 p.M
  have rM := PBox.mass bP
  clear h ja jb hm S1 s1 s2 z1
  go_enter Tryz.func42, Tryz.ntmps42
  go_upto_region 2 with (first
    | (refine wpList_load_mid rfl 26 (.tmp 18) rfl w.heap.size 0 rfl [.bool p.M.S.s, .slice p.M.S.A p.M.S.n p.M.S.c, .int .i64 p.M.S.e, .bool p.M.W.s, .slice p.M.W.A p.M.W.n p.M.W.c, .int .i64 p.M.W.e, .bool p.M.C.s, .slice p.M.C.A p.M.C.n p.M.C.c, .int .i64 p.M.C.e, .bool p.M.A.s, .slice p.M.A.A p.M.A.n p.M.A.c, .int .i64 p.M.A.e] _ rM Tryz.underlying26 rfl (by kernel_rfl) ?_)
    | (refine wpList_store_nw rfl 26 (.tmp 8) (.tmp 19) rfl _ #[.bool p.M.S.s, .slice p.M.S.A p.M.S.n p.M.S.c, .int .i64 p.M.S.e, .bool p.M.W.s, .slice p.M.W.A p.M.W.n p.M.W.c, .int .i64 p.M.W.e, .bool p.M.C.s, .slice p.M.C.A p.M.C.n p.M.C.c, .int .i64 p.M.C.e, .bool p.M.A.s, .slice p.M.A.A p.M.A.n p.M.A.c, .int .i64 p.M.A.e] rfl rfl (by kernel_rfl) rfl (all_oneCell_toArray (cells12P_one p.M)) ?_; rw [hu]))
  try rw [hu]
  try clear hu
  try clear hw2
  clear rM
  obtain ⟨b, hb⟩ : ∃ b, aboveV p.M.W = b := ⟨_, rfl⟩
  have HB_ := Lib.hid hb
  clear hb
  have rf := MBox.rW bM
  go_wp2_with (first
    | (refine wpList_load_midG (by rfl) 24 (.tmp 40) rfl (w2.heap.size) 3 rfl [.bool p.M.W.s, .slice p.M.W.A p.M.W.n p.M.W.c, .int .i64 p.M.W.e] _ rf Tryz.underlying24 rfl (by kernel_rfl) ?_))
  refine (rabove_any u p.M.W b HB_.out).mono ?_
  rintro e' v58 ⟨rfl, j59⟩
  try clear hw
  clear rf
  cases b
  · skip
    have he := HH.out
    replace he : evenX p.M k = _ := he
    unfold evenX at he
    rw [if_pos HB_.out] at he
    injection he with he1 he2
    injection he2 with he2 he3
    subst he1 he2 he3
    clear HH
    go_upto_region 4 with fail
    have u60_b : TBox v58 ((w.heap.size + 1)) ZDv ZDv := (box_later bT (later ju j59) S2)
    obtain ⟨u60, h61, bTu60, h61_b, h61_f, h61_l, h61_m⟩ := told_into u60_b ZDv ZDv
    have h61_t := TBox.there u60_b
    replace h61 : v58.setCells ((w.heap.size + 1)) 0 (#[.bool false, .slice none 0 0, .int .i64 0, .bool false, .slice none 0 0, .int .i64 0] : Array Value).toList = u60 := h61
    have h61_H := Lib.hid h61
    clear h61
    have fin_ := h61_b _ _ (later jw (later ju j59)) (by omega)
    go_wp2_with (first
      | (refine wpList_store_mid rfl 32 (.tmp 6) (.tmp 67) rfl ((w.heap.size + 1)) 0 #[.bool false, .slice none 0 0, .int .i64 0, .bool false, .slice none 0 0, .int .i64 0] rfl rfl h61_t (by kernel_rfl) (all_oneCell_toArray (cells6D_one ZDv ZDv)) ?_; rw [h61_H.out]))
    exact bodyPost_ret (results_row_slot Tryz.results42 _ _ (w.heap.size + 1) 32 #[.bool false, .slice none 0 0, .int .i64 0, .bool false, .slice none 0 0, .int .i64 0] (0, 0) _ (.int .i64 6) rfl rfl bTu60 Tryz.underlying32 rfl (by kernel_rfl)) rfl ⟨ZDv, ZDv, rfl, isZ, isZ, fin_, rowZ _ _ _, rowZ _ _ _⟩
  · skip
    have HX : Hid (bandX p.M.A ⟨false, none, 1, 1, 0, canon 4294967296 1⟩ k = (lo, hi, code)) := Lib.hid (by
      refine (band_parts rfl).trans ?_
      have he := HH.out
      replace he : evenX p.M k = _ := he
      unfold evenX at he
      rw [if_neg (by rw [HB_.out]; simp)] at he
      exact he)
    clear HH
    go_upto_region 18 with fail
    try clear hw
    refine region_E (Keeps v58) [] (m := 11) (L := #[false, false, false, false, false, false, false, false, false, false, false]) (by kernel_rfl) (by rfl) (by rfl) ?_
    have j63 : Below v58.heap.size v58 v58.drew := (Below.refl _ _).drew
    generalize v58.drew = v62 at *
    refine pureE (i := 0) (L := #[true, false, false, false, false, false, false, false, false, false, false]) (v := ?_) rfl (by rfl) (by kernel_rfl) (by kernel_rfl) (by kernel_rfl) (fun _ _ _ h => h) (by rfl) ?hy18 ?rest18
    case hy18 => intro w; go_simp; (try with_reducible rfl)
    try simp only [Act.put, List.setIfInBounds_toArray, List.set_cons_zero, List.set_cons_succ]
    have kpy64 : Keeps v58 v62 := fun p hp => Below.block j63 p hp
    refine readE (i := 1) (L := #[true, true, false, false, false, false, false, false, false, false, false]) (v := .agg #[.bool p.M.A.s, .slice p.M.A.A p.M.A.n p.M.A.c, .int .i64 p.M.A.e]) rfl (by rfl) (by kernel_rfl) (by kernel_rfl) (by kernel_rfl) (fun _ _ _ h => h) (by assumption) (by rfl) ?y64 ?z65
    case y64 =>
      intro w' h1
      exact run_load_op 24 (.tmp 113) rfl (w2.heap.size) 9 rfl [.bool p.M.A.s, .slice p.M.A.A p.M.A.n p.M.A.c, .int .i64 p.M.A.e] _ (MBox.rA ((h1 _ (Nat.lt_of_lt_of_le Su (Below.size j59))).trans (box_later bM j59 Su))) Tryz.underlying24 rfl (by kernel_rfl)
    try simp only [Act.put, List.setIfInBounds_toArray, List.set_cons_zero, List.set_cons_succ]
    refine pureE (i := 3) (L := #[true, true, false, true, false, false, false, false, false, false, false]) (v := ?_) rfl (by rfl) (by kernel_rfl) (by kernel_rfl) (by kernel_rfl) (fun _ _ _ h => h) (by rfl) ?hy20 ?rest20
    case hy20 => intro w; go_simp; (try with_reducible rfl)
    try simp only [Act.put, List.setIfInBounds_toArray, List.set_cons_zero, List.set_cons_succ]
    refine E_of_C (fun (A : Act) a' w' => ∃ (v115 v117 v112 : Value) (X Y : Dv) (g16 l_ h_ : Nat), a' = ((((((A.put (some 115) (v115)).put (some 117) (v117)).put (some 112) (v112)).put (some 118) (.agg #[.bool X.s, .slice X.A X.n X.c, .int .i64 X.e, .bool Y.s, .slice Y.A Y.n Y.c, .int .i64 Y.e])).put (some 119) (.int .i64 code)).put (some 16) (.pointer (some ⟨g16, 0, none⟩))) ∧ v58.heap.size ≤ g16 ∧ v58.heap.size ≤ l_ ∧ h_ ≤ w'.heap.size ∧ (g16 < l_ ∨ h_ ≤ g16) ∧ TBox w' g16 ZDv ZDv ∧ Below v58.heap.size v58 w' ∧ Hid (Is lo X ∧ Is hi Y) ∧ DRow w' l_ h_ X ∧ DRow w' l_ h_ Y) #[true, true, true, true, true, true, true, true, true, false, false] 2 ?leaf ?tree
    case tree =>
      have zv62 : v58.heap.size ≤ v62.heap.size := Below.size j63
      
      refine stepC2 (i := 2) (j := 8) (Li := #[true, true, true, true, false, false, false, false, false, false, false]) (Lj := #[true, true, false, true, false, false, false, false, true, false, false]) rfl rfl (by rfl) (by rfl) (by kernel_rfl) (by rfl) (by rfl) (fun K hK => ?o3_2) (fun K hK => ?o3_8)
      case o3_2 =>
        
        go_simp
        go_at_call 88
        refine (rOf_dv v62 1 (by decide) (by decide)).mono ?_
        rintro e' v66 ⟨O, rfl, iO, j67, dO⟩
        replace iO := Lib.hid iO
        replace dO := ints_all dO
        have zv66 : v62.heap.size ≤ v66.heap.size := Below.size j67
        refine hK _ _ ⟨fun _ _ => fun p hp => Below.block (later j63 j67) p hp, ?_⟩
        clear hK K
        try simp only [Act.put, List.setIfInBounds_toArray, List.set_cons_zero, List.set_cons_succ]
        refine stepC2 (i := 4) (j := 8) (Li := #[true, true, true, true, true, false, false, false, false, false, false]) (Lj := #[true, true, true, true, false, false, false, false, true, false, false]) rfl rfl (by rfl) (by rfl) (by kernel_rfl) (by rfl) (by rfl) (fun K hK => ?o4_4) (fun K hK => ?o4_8)
        case o4_4 =>
          
          go_simp
          have HO : bandX p.M.A O k = (lo, hi, code) := by
            have h := HX.out
            unfold bandX at h ⊢
            rw [iO.out.1, iO.out.2.1, iO.out.2.2]
            exact h
          go_at_call 90
          refine (banded_any v66 p.M.A O k (PRows.on hR (later jw (later ju (later j59 (later j63 j67))))).1.A dO lo hi code HO).mono ?_
          rintro e' v68 ⟨X, Y, rfl, iX, iY, j69, eX, eY⟩
          clear HO
          have zv68 : v66.heap.size ≤ v68.heap.size := Below.size j69
          refine hK _ _ ⟨fun _ _ => fun p hp => Below.block (later j63 (later j67 j69)) p hp, ?_⟩
          clear hK K
          try simp only [Act.put, List.setIfInBounds_toArray, List.set_cons_zero, List.set_cons_succ]
          refine pureC (i := 5) (L := #[true, true, true, true, true, true, false, false, false, false, false]) (v := ?_) rfl (by rfl) (by kernel_rfl) (by kernel_rfl) (by kernel_rfl) (fun _ _ _ h => h) (by rfl) ?hy21 ?rest21
          case hy21 => intro w; go_simp; (try with_reducible rfl)
          try simp only [Act.put, List.setIfInBounds_toArray, List.set_cons_zero, List.set_cons_succ]
          refine pureC (i := 6) (L := #[true, true, true, true, true, true, true, false, false, false, false]) (v := ?_) rfl (by rfl) (by kernel_rfl) (by kernel_rfl) (by kernel_rfl) (fun _ _ _ h => h) (by rfl) ?hy22 ?rest22
          case hy22 => intro w; go_simp; (try with_reducible rfl)
          try simp only [Act.put, List.setIfInBounds_toArray, List.set_cons_zero, List.set_cons_succ]
          refine pureC (i := 7) (L := #[true, true, true, true, true, true, true, true, false, false, false]) (v := ?_) rfl (by rfl) (by kernel_rfl) (by kernel_rfl) (by kernel_rfl) (fun _ _ _ h => h) (by rfl) ?hy23 ?rest23
          case hy23 => intro w; go_simp; (try with_reducible rfl)
          try simp only [Act.put, List.setIfInBounds_toArray, List.set_cons_zero, List.set_cons_succ]
          refine stepC (i := 8) (L := #[true, true, true, true, true, true, true, true, true, false, false]) rfl (by rfl) (by kernel_rfl) (by rfl) (fun K hK => ?_)
          go_simp
          obtain ⟨v70, hc_, bQ, j71, s72⟩ := alloc_zt v68
          rw [hc_]
          clear hc_
          have zv70 : v68.heap.size ≤ v70.heap.size := Below.size j71
          refine hK _ _ ⟨fun _ _ => fun p hp => Below.block (later j63 (later j67 (later j69 j71))) p hp, ?_⟩
          clear hK K
          try simp only [Act.put, List.setIfInBounds_toArray, List.set_cons_zero, List.set_cons_succ]
          exact leafC ⟨_, _, _, X, Y, v68.heap.size, v66.heap.size, v68.heap.size, rfl, by omega, by omega, by omega, by omega, bQ, (later j63 (later j67 (later j69 j71))), Lib.hid ⟨iX, iY⟩, (Ints.below eX j71 (Nat.le_refl _)), (Ints.below eY j71 (Nat.le_refl _))⟩
        case o4_8 =>
          
          go_simp
          obtain ⟨v73, hc_, bQ, j74, s75⟩ := alloc_zt v66
          rw [hc_]
          clear hc_
          have zv73 : v66.heap.size ≤ v73.heap.size := Below.size j74
          refine hK _ _ ⟨fun _ _ => fun p hp => Below.block (later j63 (later j67 j74)) p hp, ?_⟩
          clear hK K
          try simp only [Act.put, List.setIfInBounds_toArray, List.set_cons_zero, List.set_cons_succ]
          refine stepC (i := 4) (L := #[true, true, true, true, true, false, false, false, true, false, false]) rfl (by rfl) (by kernel_rfl) (by rfl) (fun K hK => ?_)
          go_simp
          have HO : bandX p.M.A O k = (lo, hi, code) := by
            have h := HX.out
            unfold bandX at h ⊢
            rw [iO.out.1, iO.out.2.1, iO.out.2.2]
            exact h
          go_at_call 90
          refine (banded_any v73 p.M.A O k (PRows.on hR (later jw (later ju (later j59 (later j63 (later j67 j74)))))).1.A (ints_on dO j74) lo hi code HO).mono ?_
          rintro e' v76 ⟨X, Y, rfl, iX, iY, j77, eX, eY⟩
          clear HO
          have zv76 : v73.heap.size ≤ v76.heap.size := Below.size j77
          refine hK _ _ ⟨fun _ _ => fun p hp => Below.block (later j63 (later j67 (later j74 j77))) p hp, ?_⟩
          clear hK K
          try simp only [Act.put, List.setIfInBounds_toArray, List.set_cons_zero, List.set_cons_succ]
          refine pureC (i := 5) (L := #[true, true, true, true, true, true, false, false, true, false, false]) (v := ?_) rfl (by rfl) (by kernel_rfl) (by kernel_rfl) (by kernel_rfl) (fun _ _ _ h => h) (by rfl) ?hy26 ?rest26
          case hy26 => intro w; go_simp; (try with_reducible rfl)
          try simp only [Act.put, List.setIfInBounds_toArray, List.set_cons_zero, List.set_cons_succ]
          refine pureC (i := 6) (L := #[true, true, true, true, true, true, true, false, true, false, false]) (v := ?_) rfl (by rfl) (by kernel_rfl) (by kernel_rfl) (by kernel_rfl) (fun _ _ _ h => h) (by rfl) ?hy27 ?rest27
          case hy27 => intro w; go_simp; (try with_reducible rfl)
          try simp only [Act.put, List.setIfInBounds_toArray, List.set_cons_zero, List.set_cons_succ]
          refine pureC (i := 7) (L := #[true, true, true, true, true, true, true, true, true, false, false]) (v := ?_) rfl (by rfl) (by kernel_rfl) (by kernel_rfl) (by kernel_rfl) (fun _ _ _ h => h) (by rfl) ?hy28 ?rest28
          case hy28 => intro w; go_simp; (try with_reducible rfl)
          try simp only [Act.put, List.setIfInBounds_toArray, List.set_cons_zero, List.set_cons_succ]
          exact leafC ⟨_, _, _, X, Y, v66.heap.size, v73.heap.size, v76.heap.size, rfl, by omega, by omega, by omega, by omega, (box_later bQ j77 s75), (later j63 (later j67 (later j74 j77))), Lib.hid ⟨iX, iY⟩, eX, eY⟩
      case o3_8 =>
        
        go_simp
        obtain ⟨v78, hc_, bQ, j79, s80⟩ := alloc_zt v62
        rw [hc_]
        clear hc_
        have zv78 : v62.heap.size ≤ v78.heap.size := Below.size j79
        refine hK _ _ ⟨fun _ _ => fun p hp => Below.block (later j63 j79) p hp, ?_⟩
        clear hK K
        try simp only [Act.put, List.setIfInBounds_toArray, List.set_cons_zero, List.set_cons_succ]
        refine stepC (i := 2) (L := #[true, true, true, true, false, false, false, false, true, false, false]) rfl (by rfl) (by kernel_rfl) (by rfl) (fun K hK => ?_)
        go_simp
        go_at_call 88
        refine (rOf_dv v78 1 (by decide) (by decide)).mono ?_
        rintro e' v81 ⟨O, rfl, iO, j82, dO⟩
        replace iO := Lib.hid iO
        replace dO := ints_all dO
        have zv81 : v78.heap.size ≤ v81.heap.size := Below.size j82
        refine hK _ _ ⟨fun _ _ => fun p hp => Below.block (later j63 (later j79 j82)) p hp, ?_⟩
        clear hK K
        try simp only [Act.put, List.setIfInBounds_toArray, List.set_cons_zero, List.set_cons_succ]
        refine stepC (i := 4) (L := #[true, true, true, true, true, false, false, false, true, false, false]) rfl (by rfl) (by kernel_rfl) (by rfl) (fun K hK => ?_)
        go_simp
        have HO : bandX p.M.A O k = (lo, hi, code) := by
          have h := HX.out
          unfold bandX at h ⊢
          rw [iO.out.1, iO.out.2.1, iO.out.2.2]
          exact h
        go_at_call 90
        refine (banded_any v81 p.M.A O k (PRows.on hR (later jw (later ju (later j59 (later j63 (later j79 j82)))))).1.A dO lo hi code HO).mono ?_
        rintro e' v83 ⟨X, Y, rfl, iX, iY, j84, eX, eY⟩
        clear HO
        have zv83 : v81.heap.size ≤ v83.heap.size := Below.size j84
        refine hK _ _ ⟨fun _ _ => fun p hp => Below.block (later j63 (later j79 (later j82 j84))) p hp, ?_⟩
        clear hK K
        try simp only [Act.put, List.setIfInBounds_toArray, List.set_cons_zero, List.set_cons_succ]
        refine pureC (i := 5) (L := #[true, true, true, true, true, true, false, false, true, false, false]) (v := ?_) rfl (by rfl) (by kernel_rfl) (by kernel_rfl) (by kernel_rfl) (fun _ _ _ h => h) (by rfl) ?hy31 ?rest31
        case hy31 => intro w; go_simp; (try with_reducible rfl)
        try simp only [Act.put, List.setIfInBounds_toArray, List.set_cons_zero, List.set_cons_succ]
        refine pureC (i := 6) (L := #[true, true, true, true, true, true, true, false, true, false, false]) (v := ?_) rfl (by rfl) (by kernel_rfl) (by kernel_rfl) (by kernel_rfl) (fun _ _ _ h => h) (by rfl) ?hy32 ?rest32
        case hy32 => intro w; go_simp; (try with_reducible rfl)
        try simp only [Act.put, List.setIfInBounds_toArray, List.set_cons_zero, List.set_cons_succ]
        refine pureC (i := 7) (L := #[true, true, true, true, true, true, true, true, true, false, false]) (v := ?_) rfl (by rfl) (by kernel_rfl) (by kernel_rfl) (by kernel_rfl) (fun _ _ _ h => h) (by rfl) ?hy33 ?rest33
        case hy33 => intro w; go_simp; (try with_reducible rfl)
        try simp only [Act.put, List.setIfInBounds_toArray, List.set_cons_zero, List.set_cons_succ]
        exact leafC ⟨_, _, _, X, Y, v62.heap.size, v81.heap.size, v83.heap.size, rfl, by omega, by omega, by omega, by omega, (box_later bQ (later j82 j84) s80), (later j63 (later j79 (later j82 j84))), Lib.hid ⟨iX, iY⟩, eX, eY⟩
    case leaf =>
      rintro a' w' ⟨v115, v117, v112, X, Y, g16, l_, h_, rfl, l8, l9, l10, l11, bQ, bw, hXY, rX, rY⟩
      try simp only [Act.put, List.setIfInBounds_toArray, List.set_cons_zero, List.set_cons_succ]
      have lt8 := lt_of_heap bQ
      
      have kp_ : Keeps v58 w' := fun p hp => Below.block bw p hp
      obtain ⟨U, hc_, bN, hb_, hf_, q5, q5'⟩ := told_into bQ X Y
      refine stepK (i := 9) (L := #[true, true, true, true, true, true, true, true, true, true, false]) rfl (by rfl) (by kernel_rfl) (by rfl) (fun K hK => ?_)
      refine wp_store_mid 32 (.tmp 16) (.tmp 118) rfl g16 0 #[.bool X.s, .slice X.A X.n X.c, .int .i64 X.e, .bool Y.s, .slice Y.A Y.n Y.c, .int .i64 Y.e] rfl rfl bQ.there (by kernel_rfl) (all_oneCell_toArray (cells6D_one X Y)) ?_
      rw [show w'.setCells g16 0 (#[.bool X.s, .slice X.A X.n X.c, .int .i64 X.e, .bool Y.s, .slice Y.A Y.n Y.c, .int .i64 Y.e] : Array Value).toList = U from hc_]
      clear hc_
      replace kp_ : Keeps v58 U := fun p hp => (hf_ p (by omega)).trans (kp_ p hp)
      refine hK _ _ ⟨fun _ _ => kp_, ?_⟩
      clear hK K kp_
      try simp only [Act.put, List.setIfInBounds_toArray, List.set_cons_zero, List.set_cons_succ]
      refine pureE (i := 10) (L := #[true, true, true, true, true, true, true, true, true, true, true]) (v := ?_) rfl (by rfl) (by kernel_rfl) (by kernel_rfl) (by kernel_rfl) (fun _ _ _ h => h) (by rfl) ?hy35 ?rest35
      case hy35 => intro w; go_simp; (try with_reducible rfl)
      try simp only [Act.put, List.setIfInBounds_toArray, List.set_cons_zero, List.set_cons_succ]
      refine doneE (by kernel_rfl) ?_ _
      have jU := hb_ _ _ bw l8
      have s8 : w2.heap.size ≤ v58.heap.size := Below.size (later ju j59)
      have eX_ : DRow U w2.heap.size U.heap.size X := (intsR rX (w' := U) (fun b h1 h2 => hf_ b (by omega))).more (by omega) (by omega)
      have eY_ : DRow U w2.heap.size U.heap.size Y := (intsR rY (w' := U) (fun b h1 h2 => hf_ b (by omega))).more (by omega) (by omega)
      have sU : g16 < U.heap.size := by omega
      have iX := Lib.hid hXY.out.1
      have iY := Lib.hid hXY.out.2
      clear hb_ hf_ bQ bw rX rY l9 l10 l11
      have rN := TBox.range bN
      have u85_b : TBox U ((w.heap.size + 1)) ZDv ZDv := (box_later bT (later ju (later j59 jU)) S2)
      obtain ⟨u85, h86, bTu85, h86_b, h86_f, h86_l, h86_m⟩ := told_into u85_b X Y
      have h86_t := TBox.there u85_b
      replace h86 : U.setCells ((w.heap.size + 1)) 0 (#[.bool X.s, .slice X.A X.n X.c, .int .i64 X.e, .bool Y.s, .slice Y.A Y.n Y.c, .int .i64 Y.e] : Array Value).toList = u85 := h86
      have h86_H := Lib.hid h86
      clear h86
      have fin_ := h86_b _ _ (later jw (later ju (later j59 jU))) (by omega)
      go_wp2_with (first
        | (refine wpList_load_mid rfl 32 (.tmp 16) rfl (g16) 0 rfl [.bool X.s, .slice X.A X.n X.c, .int .i64 X.e, .bool Y.s, .slice Y.A Y.n Y.c, .int .i64 Y.e] _ rN Tryz.underlying32 rfl (by kernel_rfl) ?_)
        | (refine wpList_store_mid rfl 32 (.tmp 6) (.tmp 120) rfl ((w.heap.size + 1)) 0 #[.bool X.s, .slice X.A X.n X.c, .int .i64 X.e, .bool Y.s, .slice Y.A Y.n Y.c, .int .i64 Y.e] rfl rfl h86_t (by kernel_rfl) (all_oneCell_toArray (cells6D_one X Y)) ?_; rw [h86_H.out]))
      exact bodyPost_ret (results_row_slot Tryz.results42 _ _ (w.heap.size + 1) 32 #[.bool X.s, .slice X.A X.n X.c, .int .i64 X.e, .bool Y.s, .slice Y.A Y.n Y.c, .int .i64 Y.e] (0, 0) _ (.int .i64 code) rfl rfl bTu85 Tryz.underlying32 rfl (by kernel_rfl)) rfl ⟨X, Y, rfl, iX.out, iY.out, fin_, (intsR eX_ (w' := u85) (fun b h1 h2 => h86_f b (by omega))).more (by omega) (by omega), (intsR eY_ (w' := u85) (fun b h1 h2 => h86_f b (by omega))).more (by omega) (by omega)⟩
end Ma
end Go.Proofs.YtmbppgjhdcmckaaGreatDoor
namespace Go.Proofs.YtmbppgjhdcmckaaGreatDoor
open Go.RowKit
namespace Ma
open Dp Dy
set_option maxHeartbeats 51200000 in
set_option maxRecDepth 100000 in
/-- headcountref25.Tells. -/
theorem RTells5_any (w : World) (p : Pv) (hR : PRows w 0 w.heap.size p) (hT : Tab w) (k : Int) (hm : mayP p = true) (lo hi : Dn) (code : Int) (h : kindX p 5 k = (lo, hi, code)) :
    Calls Tryz.prog 42 #[.agg #[.bool p.M.S.s, .slice p.M.S.A p.M.S.n p.M.S.c, .int .i64 p.M.S.e, .bool p.M.W.s, .slice p.M.W.A p.M.W.n p.M.W.c, .int .i64 p.M.W.e, .bool p.M.C.s, .slice p.M.C.A p.M.C.n p.M.C.c, .int .i64 p.M.C.e, .bool p.M.A.s, .slice p.M.A.A p.M.A.n p.M.A.c, .int .i64 p.M.A.e, .bool p.h, .int .i64 p.mn, .int .i64 p.mx, .slice p.A p.n p.c], .int .u8 5, .int .i64 k] w (RToldR w lo hi code) := by
  obtain ⟨w1, hw1, bP, ja, S1⟩ := alloc_p w p
  obtain ⟨w2, hw2, bT, jb, S2⟩ := alloc_zt w1
  have s1 := ja.size
  have s2 := jb.size
  have z1 : w1.heap.size = w.heap.size + 1 := by rw [← hw1]; simp
  have jw : Below w.heap.size w w2 := later ja jb
  have SP : w.heap.size < w2.heap.size := by omega
  replace bP : PBox w2 w.heap.size p := (jb.block _ S1).trans bP
  subst hw1
  rw [z1] at bT S2
  have HH := Lib.hid h
  have HE := Lib.hid (mayP_ends hm)
  obtain ⟨u, hu, bM, ju, Su⟩ := alloc_m w2 p.M
  have rM := PBox.mass bP
  clear h ja jb hm S1 s1 s2 z1
  go_enter Tryz.func42, Tryz.ntmps42
  go_upto_region 2 with (first
    | (refine wpList_load_mid rfl 26 (.tmp 18) rfl w.heap.size 0 rfl [.bool p.M.S.s, .slice p.M.S.A p.M.S.n p.M.S.c, .int .i64 p.M.S.e, .bool p.M.W.s, .slice p.M.W.A p.M.W.n p.M.W.c, .int .i64 p.M.W.e, .bool p.M.C.s, .slice p.M.C.A p.M.C.n p.M.C.c, .int .i64 p.M.C.e, .bool p.M.A.s, .slice p.M.A.A p.M.A.n p.M.A.c, .int .i64 p.M.A.e] _ rM Tryz.underlying26 rfl (by kernel_rfl) ?_)
    | (refine wpList_store_nw rfl 26 (.tmp 8) (.tmp 19) rfl _ #[.bool p.M.S.s, .slice p.M.S.A p.M.S.n p.M.S.c, .int .i64 p.M.S.e, .bool p.M.W.s, .slice p.M.W.A p.M.W.n p.M.W.c, .int .i64 p.M.W.e, .bool p.M.C.s, .slice p.M.C.A p.M.C.n p.M.C.c, .int .i64 p.M.C.e, .bool p.M.A.s, .slice p.M.A.A p.M.A.n p.M.A.c, .int .i64 p.M.A.e] rfl rfl (by kernel_rfl) rfl (all_oneCell_toArray (cells12P_one p.M)) ?_; rw [hu]))
  try rw [hu]
  try clear hu
  try clear hw2
  clear rM
  obtain ⟨hb, hhb⟩ : ∃ b, p.h = b := ⟨_, rfl⟩
  have HB_ := Lib.hid hhb
  have cP := PBox.cell (box_later bP ju SP)
  obtain ⟨⟨c0, c1, c2, c3, c4, c5, c6, c7, c8, c9, c10, c11, c12, c13, c14, c15⟩, cf⟩ := cP
  rw [hhb] at c12
  clear hhb c0 c1 c2 c3 c4 c5 c6 c7 c8 c9 c10 c11 c15 cf
  cases hb
  · skip
    have he := HH.out
    replace he : endsX p.h p.mn p.mx = _ := he
    unfold endsX at he
    rw [if_pos HB_.out] at he
    injection he with he1 he2
    injection he2 with he2 he3
    subst he1 he2 he3
    clear HH
    go_upto_region 4 with fail
    have u87_b : TBox u ((w.heap.size + 1)) ZDv ZDv := (box_later bT ju S2)
    obtain ⟨u87, h88, bTu87, h88_b, h88_f, h88_l, h88_m⟩ := told_into u87_b ZDv ZDv
    have h88_t := TBox.there u87_b
    replace h88 : u.setCells ((w.heap.size + 1)) 0 (#[.bool false, .slice none 0 0, .int .i64 0, .bool false, .slice none 0 0, .int .i64 0] : Array Value).toList = u87 := h88
    have h88_H := Lib.hid h88
    clear h88
    have fin_ := h88_b _ _ (later jw ju) (by omega)
    go_wp2_with (first
      | (refine wpList_store_mid rfl 32 (.tmp 6) (.tmp 67) rfl ((w.heap.size + 1)) 0 #[.bool false, .slice none 0 0, .int .i64 0, .bool false, .slice none 0 0, .int .i64 0] rfl rfl h88_t (by kernel_rfl) (all_oneCell_toArray (cells6D_one ZDv ZDv)) ?_; rw [h88_H.out]))
    exact bodyPost_ret (results_row_slot Tryz.results42 _ _ (w.heap.size + 1) 32 #[.bool false, .slice none 0 0, .int .i64 0, .bool false, .slice none 0 0, .int .i64 0] (0, 0) _ (.int .i64 6) rfl rfl bTu87 Tryz.underlying32 rfl (by kernel_rfl)) rfl ⟨ZDv, ZDv, rfl, isZ, isZ, fin_, rowZ _ _ _, rowZ _ _ _⟩
  · skip
    have he := HH.out
    replace he : endsX p.h p.mn p.mx = _ := he
    unfold endsX at he
    rw [if_neg (by rw [HB_.out]; simp)] at he
    injection he with he1 he2
    injection he2 with he2 he3
    subst he1 he2 he3
    clear HH
    go_upto_region 21 with fail
    have c13_ : ∀ w', Keeps u w' → w'.cell? ⟨w.heap.size, 13, none⟩ = some (.int .i64 p.mn) := fun w' h1 => (World.cell?_of_block (h1 _ (Nat.lt_of_lt_of_le SP (Below.size ju)))).trans c13
    have c14_ : ∀ w', Keeps u w' → w'.cell? ⟨w.heap.size, 14, none⟩ = some (.int .i64 p.mx) := fun w' h1 => (World.cell?_of_block (h1 _ (Nat.lt_of_lt_of_le SP (Below.size ju)))).trans c14
    try clear hw
    refine region_E (Keeps u) [9] (m := 11) (L := #[false, false, false, false, false, false, false, false, false, false, false]) (by kernel_rfl) (by rfl) (by rfl) ?_
    have j90 : Below u.heap.size u u.drew := (Below.refl _ _).drew
    generalize u.drew = v89 at *
    refine pureE (i := 0) (L := #[true, false, false, false, false, false, false, false, false, false, false]) (v := ?_) rfl (by rfl) (by kernel_rfl) (by kernel_rfl) (by kernel_rfl) (fun _ _ _ h => h) (by rfl) ?hy36 ?rest36
    case hy36 => intro w; go_simp; (try with_reducible rfl)
    try simp only [Act.put, List.setIfInBounds_toArray, List.set_cons_zero, List.set_cons_succ]
    refine pureE (i := 1) (L := #[true, true, false, false, false, false, false, false, false, false, false]) (v := ?_) rfl (by rfl) (by kernel_rfl) (by kernel_rfl) (by kernel_rfl) (fun _ _ _ h => h) (by rfl) ?hy37 ?rest37
    case hy37 => intro w; go_simp; (try with_reducible rfl)
    try simp only [Act.put, List.setIfInBounds_toArray, List.set_cons_zero, List.set_cons_succ]
    have kpy91 : Keeps u v89 := fun p hp => Below.block j90 p hp
    refine readE (i := 2) (L := #[true, true, true, false, false, false, false, false, false, false, false]) (v := .int .i64 p.mn) rfl (by rfl) (by kernel_rfl) (by kernel_rfl) (by kernel_rfl) (fun _ _ _ h => h) (by assumption) (by rfl) ?y91 ?z92
    case y91 =>
      intro w' h1
      have k_ := c13_ w' h1
      go_simp
    try simp only [Act.put, List.setIfInBounds_toArray, List.set_cons_zero, List.set_cons_succ]
    refine pureE (i := 4) (L := #[true, true, true, false, true, false, false, false, false, false, false]) (v := ?_) rfl (by rfl) (by kernel_rfl) (by kernel_rfl) (by kernel_rfl) (fun _ _ _ h => h) (by rfl) ?hy39 ?rest39
    case hy39 => intro w; go_simp; (try with_reducible rfl)
    try simp only [Act.put, List.setIfInBounds_toArray, List.set_cons_zero, List.set_cons_succ]
    refine pureE (i := 5) (L := #[true, true, true, false, true, true, false, false, false, false, false]) (v := ?_) rfl (by rfl) (by kernel_rfl) (by kernel_rfl) (by kernel_rfl) (fun _ _ _ h => h) (by rfl) ?hy40 ?rest40
    case hy40 => intro w; go_simp; (try with_reducible rfl)
    try simp only [Act.put, List.setIfInBounds_toArray, List.set_cons_zero, List.set_cons_succ]
    have kpy93 : Keeps u v89 := fun p hp => Below.block j90 p hp
    refine readE (i := 6) (L := #[true, true, true, false, true, true, true, false, false, false, false]) (v := .int .i64 p.mx) rfl (by rfl) (by kernel_rfl) (by kernel_rfl) (by kernel_rfl) (fun _ _ _ h => h) (by assumption) (by rfl) ?y93 ?z94
    case y93 =>
      intro w' h1
      have k_ := c14_ w' h1
      go_simp
    try simp only [Act.put, List.setIfInBounds_toArray, List.set_cons_zero, List.set_cons_succ]
    refine stepK (i := 3) (L := #[true, true, true, true, true, true, true, false, false, false, false]) rfl (by rfl) (by kernel_rfl) (by rfl) (fun K hK => ?_)
    go_simp
    go_at_call 88
    refine (rOf_dv v89 p.mn HE.out.1.1 HE.out.1.2).mono ?_
    rintro e' v95 ⟨X, rfl, iX, j96, dX⟩
    replace iX := Lib.hid iX
    refine hK _ _ ⟨fun _ _ => fun p hp => Below.block (later j90 j96) p hp, ?_⟩
    clear hK K
    try simp only [Act.put, List.setIfInBounds_toArray, List.set_cons_zero, List.set_cons_succ]
    refine stepK (i := 7) (L := #[true, true, true, true, true, true, true, true, false, false, false]) rfl (by rfl) (by kernel_rfl) (by rfl) (fun K hK => ?_)
    go_simp
    go_at_call 88
    refine (rOf_dv v95 p.mx HE.out.2.1.1 HE.out.2.1.2).mono ?_
    rintro e' v97 ⟨Y, rfl, iY, j98, dY⟩
    replace iY := Lib.hid iY
    refine hK _ _ ⟨fun _ _ => fun p hp => Below.block (later j90 (later j96 j98)) p hp, ?_⟩
    clear hK K
    try simp only [Act.put, List.setIfInBounds_toArray, List.set_cons_zero, List.set_cons_succ]
    refine pureE (i := 8) (L := #[true, true, true, true, true, true, true, true, true, false, false]) (v := ?_) rfl (by rfl) (by kernel_rfl) (by kernel_rfl) (by kernel_rfl) (fun _ _ _ h => h) (by rfl) ?hy44 ?rest44
    case hy44 => intro w; go_simp; (try with_reducible rfl)
    try simp only [Act.put, List.setIfInBounds_toArray, List.set_cons_zero, List.set_cons_succ]
    have bT_ : TBox v97 (w.heap.size + 1) ZDv ZDv := (box_later bT (later ju (later j90 (later j96 j98))) S2)
    have s3 : w2.heap.size ≤ v97.heap.size := Below.size (later ju (later j90 (later j96 j98)))
    have s4 : w2.heap.size ≤ v95.heap.size := Below.size (later ju (later j90 j96))
    have s5 : w2.heap.size ≤ v89.heap.size := Below.size (later ju j90)
    have eX_ : DRow v97 w2.heap.size v97.heap.size X := Ints.more (Ints.below dX j98 (Nat.le_refl _)) s5 (Below.size j98)
    have eY_ : DRow v97 w2.heap.size v97.heap.size Y := Ints.more dY s4 (Nat.le_refl _)
    obtain ⟨U, hU, bU, hb_, hf_, l5, l6⟩ := told_into bT_ X Y
    have fin_ := hb_ _ _ (later jw (later ju (later j90 (later j96 j98)))) (by omega)
    refine stepK (i := 9) (L := #[true, true, true, true, true, true, true, true, true, true, false]) rfl (by rfl) (by kernel_rfl) (by rfl) (fun K hK => ?_)
    refine wp_store_mid 32 (.tmp 6) (.tmp 132) rfl (w.heap.size + 1) 0 #[.bool X.s, .slice X.A X.n X.c, .int .i64 X.e, .bool Y.s, .slice Y.A Y.n Y.c, .int .i64 Y.e] rfl rfl bT_.there (by kernel_rfl) (all_oneCell_toArray (cells6D_one X Y)) ?_
    rw [show v97.setCells (w.heap.size + 1) 0 (#[.bool X.s, .slice X.A X.n X.c, .int .i64 X.e, .bool Y.s, .slice Y.A Y.n Y.c, .int .i64 Y.e] : Array Value).toList = U from hU]
    refine hK _ _ ⟨fun h => absurd h (by decide), ?_⟩
    clear hK K
    try simp only [Act.put, List.setIfInBounds_toArray, List.set_cons_zero, List.set_cons_succ]
    refine pureE (i := 10) (L := #[true, true, true, true, true, true, true, true, true, true, true]) (v := ?_) rfl (by rfl) (by kernel_rfl) (by kernel_rfl) (by kernel_rfl) (fun _ _ _ h => h) (by rfl) ?hy46 ?rest46
    case hy46 => intro w; go_simp; (try with_reducible rfl)
    try simp only [Act.put, List.setIfInBounds_toArray, List.set_cons_zero, List.set_cons_succ]
    refine doneE (by kernel_rfl) ?_ _
    go_wp2
    exact bodyPost_ret (results_row_slot Tryz.results42 _ _ (w.heap.size + 1) 32 #[.bool X.s, .slice X.A X.n X.c, .int .i64 X.e, .bool Y.s, .slice Y.A Y.n Y.c, .int .i64 Y.e] (0, 0) _ (.int .i64 0) rfl rfl bU Tryz.underlying32 rfl (by kernel_rfl)) rfl ⟨X, Y, rfl, iX.out, iY.out, fin_, (intsR eX_ (w' := U) (fun b h1 h2 => hf_ b (by omega))).more (by omega) (by omega), (intsR eY_ (w' := U) (fun b h1 h2 => hf_ b (by omega))).more (by omega) (by omega)⟩
end Ma
end Go.Proofs.YtmbppgjhdcmckaaGreatDoor
namespace Go.Proofs.YtmbppgjhdcmckaaGreatDoor
open Go.RowKit
namespace Ma
open Dp Dy
set_option maxHeartbeats 51200000 in
set_option maxRecDepth 100000 in
/-- headcountref25.Tells. -/
theorem RTells6_any (w : World) (p : Pv) (hR : PRows w 0 w.heap.size p) (hT : Tab w) (k : Int) (hm : mayP p = true) (lo hi : Dn) (code : Int) (h : kindX p 6 k = (lo, hi, code)) :
    Calls Tryz.prog 42 #[.agg #[.bool p.M.S.s, .slice p.M.S.A p.M.S.n p.M.S.c, .int .i64 p.M.S.e, .bool p.M.W.s, .slice p.M.W.A p.M.W.n p.M.W.c, .int .i64 p.M.W.e, .bool p.M.C.s, .slice p.M.C.A p.M.C.n p.M.C.c, .int .i64 p.M.C.e, .bool p.M.A.s, .slice p.M.A.A p.M.A.n p.M.A.c, .int .i64 p.M.A.e, .bool p.h, .int .i64 p.mn, .int .i64 p.mx, .slice p.A p.n p.c], .int .u8 6, .int .i64 k] w (RToldR w lo hi code) := by
  obtain ⟨w1, hw1, bP, ja, S1⟩ := alloc_p w p
  obtain ⟨w2, hw2, bT, jb, S2⟩ := alloc_zt w1
  have s1 := ja.size
  have s2 := jb.size
  have z1 : w1.heap.size = w.heap.size + 1 := by rw [← hw1]; simp
  have jw : Below w.heap.size w w2 := later ja jb
  have SP : w.heap.size < w2.heap.size := by omega
  replace bP : PBox w2 w.heap.size p := (jb.block _ S1).trans bP
  subst hw1
  rw [z1] at bT S2
  have HH := Lib.hid h
  have HE := Lib.hid (mayP_ends hm)
  obtain ⟨u, hu, bM, ju, Su⟩ := alloc_m w2 p.M
  have rM := PBox.mass bP
  clear h ja jb hm S1 s1 s2 z1
  go_enter Tryz.func42, Tryz.ntmps42
  go_upto_region 2 with (first
    | (refine wpList_load_mid rfl 26 (.tmp 18) rfl w.heap.size 0 rfl [.bool p.M.S.s, .slice p.M.S.A p.M.S.n p.M.S.c, .int .i64 p.M.S.e, .bool p.M.W.s, .slice p.M.W.A p.M.W.n p.M.W.c, .int .i64 p.M.W.e, .bool p.M.C.s, .slice p.M.C.A p.M.C.n p.M.C.c, .int .i64 p.M.C.e, .bool p.M.A.s, .slice p.M.A.A p.M.A.n p.M.A.c, .int .i64 p.M.A.e] _ rM Tryz.underlying26 rfl (by kernel_rfl) ?_)
    | (refine wpList_store_nw rfl 26 (.tmp 8) (.tmp 19) rfl _ #[.bool p.M.S.s, .slice p.M.S.A p.M.S.n p.M.S.c, .int .i64 p.M.S.e, .bool p.M.W.s, .slice p.M.W.A p.M.W.n p.M.W.c, .int .i64 p.M.W.e, .bool p.M.C.s, .slice p.M.C.A p.M.C.n p.M.C.c, .int .i64 p.M.C.e, .bool p.M.A.s, .slice p.M.A.A p.M.A.n p.M.A.c, .int .i64 p.M.A.e] rfl rfl (by kernel_rfl) rfl (all_oneCell_toArray (cells12P_one p.M)) ?_; rw [hu]))
  try rw [hu]
  try clear hu
  try clear hw2
  clear rM
  have c15 := (PBox.cell (box_later bP ju SP)).1.2.2.2.2.2.2.2.2.2.2.2.2.2.2.2
  have hlen : p.xs.length = p.n := (PRows.on hR (later jw ju)).L.len
  obtain ⟨b6, hb6⟩ : ∃ b, (((p.n : Nat) : Int) == 0) = b := ⟨_, rfl⟩
  cases b6
  case true =>
    have HZ6 := Lib.hid (eq_of_beq hb6)
    have he := HH.out
    replace he : guessX p.xs = _ := he
    unfold guessX at he
    rw [if_pos (by have := HZ6.out; omega)] at he
    injection he with he1 he2
    injection he2 with he2 he3
    subst he1 he2 he3
    clear HH
    clear hlen
    go_upto_region 4 with fail
    have u99_b : TBox u ((w.heap.size + 1)) ZDv ZDv := (box_later bT ju S2)
    obtain ⟨u99, h100, bTu99, h100_b, h100_f, h100_l, h100_m⟩ := told_into u99_b ZDv ZDv
    have h100_t := TBox.there u99_b
    replace h100 : u.setCells ((w.heap.size + 1)) 0 (#[.bool false, .slice none 0 0, .int .i64 0, .bool false, .slice none 0 0, .int .i64 0] : Array Value).toList = u99 := h100
    have h100_H := Lib.hid h100
    clear h100
    have fin_ := h100_b _ _ (later jw ju) (by omega)
    go_wp2_with (first
      | (refine wpList_store_mid rfl 32 (.tmp 6) (.tmp 67) rfl ((w.heap.size + 1)) 0 #[.bool false, .slice none 0 0, .int .i64 0, .bool false, .slice none 0 0, .int .i64 0] rfl rfl h100_t (by kernel_rfl) (all_oneCell_toArray (cells6D_one ZDv ZDv)) ?_; rw [h100_H.out]))
    exact bodyPost_ret (results_row_slot Tryz.results42 _ _ (w.heap.size + 1) 32 #[.bool false, .slice none 0 0, .int .i64 0, .bool false, .slice none 0 0, .int .i64 0] (0, 0) _ (.int .i64 6) rfl rfl bTu99 Tryz.underlying32 rfl (by kernel_rfl)) rfl ⟨ZDv, ZDv, rfl, isZ, isZ, fin_, rowZ _ _ _, rowZ _ _ _⟩
  case false =>
    have HZ6 := Lib.hid (ne_of_beq_false hb6)
    have he := HH.out
    replace he : guessX p.xs = _ := he
    unfold guessX at he
    rw [if_neg (by have := HZ6.out; omega)] at he
    injection he with he1 he2
    injection he2 with he2 he3
    subst he1 he2 he3
    clear HH
    clear hlen
    obtain ⟨n0, n1⟩ := guessS_bound HE.out.2.2 (fun x hx => by have := (PRows.on hR (later jw ju)).L.wf x hx; simp [IntKind.min, IntKind.max, IntKind.signed, IntKind.bits] at this; omega)
    obtain ⟨G, hG⟩ : ∃ g, Least.guessS p.xs = g := ⟨_, rfl⟩
    rw [hG] at n0 n1
    have HG := Lib.hid hG
    have cg : Calls Tryz.prog 92 #[.slice p.A p.n p.c] u fun e w' => e = .returned (.int .i64 G) ∧ u = w' := by
      rw [← hG]
      exact Least.Guessed_any u 0 u.heap.size p.A p.n p.c p.xs (PRows.on hR (later jw ju)).L HE.out.2.2
    clear hG
    go_wp2_with fail
    refine cg.mono ?_
    rintro e' w' ⟨rfl, rfl⟩
    clear cg
    go_wp2_with fail
    refine (quarter_any u G (by omega) (by omega)).mono ?_
    rintro e' v101 ⟨X, rfl, iX, j102, dX⟩
    try clear hw
    replace iX := Lib.hid (by rw [← HG.out] at iX; exact iX)
    replace dX := ints_all dX
    go_wp2_with fail
    refine (both25_any v101 X dX (is_big iX.out (half_may _) dX)).mono ?_
    rintro e' v103 ⟨Y1, Y2, rfl, iY, j104, eY1, eY2⟩
    try clear hw
    have iY1 := Lib.hid (iY _ iX.out).1
    have iY2 := Lib.hid (iY _ iX.out).2
    clear iY
    have s8 : w2.heap.size ≤ v101.heap.size := Below.size (later ju j102)
    have eY1_ : DRow v103 w2.heap.size v103.heap.size Y1 := Ints.more eY1 s8 (Nat.le_refl _)
    have eY2_ : DRow v103 w2.heap.size v103.heap.size Y2 := Ints.more eY2 s8 (Nat.le_refl _)
    have u105_b : TBox v103 ((w.heap.size + 1)) ZDv ZDv := (box_later bT (later ju (later j102 j104)) S2)
    obtain ⟨u105, h106, bTu105, h106_b, h106_f, h106_l, h106_m⟩ := told_into u105_b Y1 Y2
    have h106_t := TBox.there u105_b
    replace h106 : v103.setCells ((w.heap.size + 1)) 0 (#[.bool Y1.s, .slice Y1.A Y1.n Y1.c, .int .i64 Y1.e, .bool Y2.s, .slice Y2.A Y2.n Y2.c, .int .i64 Y2.e] : Array Value).toList = u105 := h106
    have h106_H := Lib.hid h106
    clear h106
    have fin_ := h106_b _ _ (later jw (later ju (later j102 j104))) (by omega)
    go_wp2_with (first
      | (refine wpList_store_mid rfl 32 (.tmp 6) (.tmp 137) rfl ((w.heap.size + 1)) 0 #[.bool Y1.s, .slice Y1.A Y1.n Y1.c, .int .i64 Y1.e, .bool Y2.s, .slice Y2.A Y2.n Y2.c, .int .i64 Y2.e] rfl rfl h106_t (by kernel_rfl) (all_oneCell_toArray (cells6D_one Y1 Y2)) ?_; rw [h106_H.out]))
    exact bodyPost_ret (results_row_slot Tryz.results42 _ _ (w.heap.size + 1) 32 #[.bool Y1.s, .slice Y1.A Y1.n Y1.c, .int .i64 Y1.e, .bool Y2.s, .slice Y2.A Y2.n Y2.c, .int .i64 Y2.e] (0, 0) _ (.int .i64 0) rfl rfl bTu105 Tryz.underlying32 rfl (by kernel_rfl)) rfl ⟨Y1, Y2, rfl, iY1.out, iY2.out, fin_, (intsR eY1_ (w' := u105) (fun b h1 h2 => h106_f b (by omega))).more (by omega) (by omega), (intsR eY2_ (w' := u105) (fun b h1 h2 => h106_f b (by omega))).more (by omega) (by omega)⟩
end Ma
end Go.Proofs.YtmbppgjhdcmckaaGreatDoor
namespace Go.Proofs.YtmbppgjhdcmckaaGreatDoor
open Go.RowKit
namespace Ma
open Dp Dy
/-- headcountref25.Tells. -/
theorem RTells_any (w : World) (p : Pv) (hR : PRows w 0 w.heap.size p) (hT : Tab w) (kind k : Int) (hm : mayP p = true) (k0 : 1 ≤ kind) (k1 : kind ≤ 6) (lo hi : Dn) (code : Int) (h : kindX p kind k = (lo, hi, code)) :
    Calls Tryz.prog 42 #[.agg #[.bool p.M.S.s, .slice p.M.S.A p.M.S.n p.M.S.c, .int .i64 p.M.S.e, .bool p.M.W.s, .slice p.M.W.A p.M.W.n p.M.W.c, .int .i64 p.M.W.e, .bool p.M.C.s, .slice p.M.C.A p.M.C.n p.M.C.c, .int .i64 p.M.C.e, .bool p.M.A.s, .slice p.M.A.A p.M.A.n p.M.A.c, .int .i64 p.M.A.e, .bool p.h, .int .i64 p.mn, .int .i64 p.mx, .slice p.A p.n p.c], .int .u8 kind, .int .i64 k] w (RToldR w lo hi code) := by
  have hk : kind = 1 ∨ kind = 2 ∨ kind = 3 ∨ kind = 4 ∨ kind = 5 ∨ kind = 6 := by omega
  rcases hk with rfl | rfl | rfl | rfl | rfl | rfl
  · exact RTells1_any w p hR hT k hm lo hi code h
  · exact RTells2_any w p hR hT k hm lo hi code h
  · exact RTells3_any w p hR hT k hm lo hi code h
  · exact RTells4_any w p hR hT k hm lo hi code h
  · exact RTells5_any w p hR hT k hm lo hi code h
  · exact RTells6_any w p hR hT k hm lo hi code h
end Ma
end Go.Proofs.YtmbppgjhdcmckaaGreatDoor
namespace Go.Proofs.YtmbppgjhdcmckaaGreatDoor
open Go.RowKit
namespace Ma
open Dp Dy
theorem ask_atR {p : Pv} {kind k : Int} (hm : mayP p = true) (h0 : 0 ≤ k) (h1 : k ≤ 64) : askQ p kind k = kindX p kind k := by
  unfold askQ
  rw [if_neg (by rw [hm]; simp), if_neg (by omega)]
theorem ask_bad {p : Pv} {kind k : Int} (hm : mayP p = true) (h : kind < 1 ∨ 6 < kind ∨ k < 0 ∨ 64 < k) : askQ p kind k = (Dn.zero, Dn.zero, 2) := by
  unfold askQ
  rw [if_neg (by rw [hm]; simp)]
  split
  · rfl
  · unfold kindX
    rw [if_neg (by omega), if_neg (by omega), if_neg (by omega), if_neg (by omega), if_neg (by omega), if_neg (by omega)]
set_option maxHeartbeats 25600000 in
set_option maxRecDepth 100000 in
/-- headcountref25.Ask. -/
theorem RAsk_any (w : World) (p : Pv) (hR : PRows w 0 w.heap.size p) (hT : Tab w) (kind k : Int) (lo hi : Dn) (code : Int) (h : askQ p kind k = (lo, hi, code)) :
    Calls Tryz.prog 11 #[.agg #[.bool p.M.S.s, .slice p.M.S.A p.M.S.n p.M.S.c, .int .i64 p.M.S.e, .bool p.M.W.s, .slice p.M.W.A p.M.W.n p.M.W.c, .int .i64 p.M.W.e, .bool p.M.C.s, .slice p.M.C.A p.M.C.n p.M.C.c, .int .i64 p.M.C.e, .bool p.M.A.s, .slice p.M.A.A p.M.A.n p.M.A.c, .int .i64 p.M.A.e, .bool p.h, .int .i64 p.mn, .int .i64 p.mx, .slice p.A p.n p.c], .int .u8 kind, .int .i64 k] w (RToldR w lo hi code) := by
  obtain ⟨w1, hw1, bP, ja, S1⟩ := alloc_p w p
  obtain ⟨w2, hw2, bT, jb, S2⟩ := alloc_zt w1
  have s1 := ja.size
  have s2 := jb.size
  have z1 : w1.heap.size = w.heap.size + 1 := by rw [← hw1]; simp
  have jw : Below w.heap.size w w2 := later ja jb
  have SP : w.heap.size < w2.heap.size := by omega
  replace bP : PBox w2 w.heap.size p := (jb.block _ S1).trans bP
  subst hw1
  rw [z1] at bT S2
  obtain ⟨m, hm⟩ : ∃ m, mayP p = m := ⟨_, rfl⟩
  have HM := Lib.hid hm
  have HH := Lib.hid h
  clear h hm ja jb S1 s1 s2 z1
  go_enter Tryz.func11, Tryz.ntmps11
  have rP := PBox.range bP
  go_wp2_with (first
    | (refine wpList_load_mid rfl 30 (.tmp 3) rfl (w.heap.size) 0 rfl [.bool p.M.S.s, .slice p.M.S.A p.M.S.n p.M.S.c, .int .i64 p.M.S.e, .bool p.M.W.s, .slice p.M.W.A p.M.W.n p.M.W.c, .int .i64 p.M.W.e, .bool p.M.C.s, .slice p.M.C.A p.M.C.n p.M.C.c, .int .i64 p.M.C.e, .bool p.M.A.s, .slice p.M.A.A p.M.A.n p.M.A.c, .int .i64 p.M.A.e, .bool p.h, .int .i64 p.mn, .int .i64 p.mx, .slice p.A p.n p.c] _ rP Tryz.underlying30 rfl (by kernel_rfl) ?_))
  refine (MayPart_any w2 p (PRows.on hR jw) m HM.out).mono ?_
  rintro e' v107 ⟨rfl, j108⟩
  try clear hw
  clear rP
  try clear hw2
  cases m
  · skip
    have he := HH.out
    unfold askQ at he
    rw [if_pos HM.out] at he
    injection he with he1 he2
    injection he2 with he2 he3
    subst he1 he2 he3
    clear HH
    have u109_b : TBox v107 ((w.heap.size + 1)) ZDv ZDv := (box_later bT j108 S2)
    obtain ⟨u109, h110, bTu109, h110_b, h110_f, h110_l, h110_m⟩ := told_into u109_b ZDv ZDv
    have h110_t := TBox.there u109_b
    replace h110 : v107.setCells ((w.heap.size + 1)) 0 (#[.bool false, .slice none 0 0, .int .i64 0, .bool false, .slice none 0 0, .int .i64 0] : Array Value).toList = u109 := h110
    have h110_H := Lib.hid h110
    clear h110
    have fin_ := h110_b _ _ (later jw j108) (by omega)
    go_wp2_with (first
      | (refine wpList_store_mid rfl 32 (.tmp 6) (.tmp 13) rfl ((w.heap.size + 1)) 0 #[.bool false, .slice none 0 0, .int .i64 0, .bool false, .slice none 0 0, .int .i64 0] rfl rfl h110_t (by kernel_rfl) (all_oneCell_toArray (cells6D_one ZDv ZDv)) ?_; rw [h110_H.out]))
    exact bodyPost_ret (results_row_slot Tryz.results11 _ _ (w.heap.size + 1) 32 #[.bool false, .slice none 0 0, .int .i64 0, .bool false, .slice none 0 0, .int .i64 0] (0, 0) _ (.int .i64 8) rfl rfl bTu109 Tryz.underlying32 rfl (by kernel_rfl)) rfl ⟨ZDv, ZDv, rfl, isZ, isZ, fin_, rowZ _ _ _, rowZ _ _ _⟩
  by_cases q0 : kind < 1
  · skip
    have he := HH.out
    rw [ask_bad HM.out ((.inl q0))] at he
    injection he with he1 he2
    injection he2 with he2 he3
    subst he1 he2 he3
    clear HH
    have u111_b : TBox v107 ((w.heap.size + 1)) ZDv ZDv := (box_later bT j108 S2)
    obtain ⟨u111, h112, bTu111, h112_b, h112_f, h112_l, h112_m⟩ := told_into u111_b ZDv ZDv
    have h112_t := TBox.there u111_b
    replace h112 : v107.setCells ((w.heap.size + 1)) 0 (#[.bool false, .slice none 0 0, .int .i64 0, .bool false, .slice none 0 0, .int .i64 0] : Array Value).toList = u111 := h112
    have h112_H := Lib.hid h112
    clear h112
    have fin_ := h112_b _ _ (later jw j108) (by omega)
    go_wp2_with (first
      | (refine wpList_store_mid rfl 32 (.tmp 6) (.tmp 28) rfl ((w.heap.size + 1)) 0 #[.bool false, .slice none 0 0, .int .i64 0, .bool false, .slice none 0 0, .int .i64 0] rfl rfl h112_t (by kernel_rfl) (all_oneCell_toArray (cells6D_one ZDv ZDv)) ?_; rw [h112_H.out]))
    exact bodyPost_ret (results_row_slot Tryz.results11 _ _ (w.heap.size + 1) 32 #[.bool false, .slice none 0 0, .int .i64 0, .bool false, .slice none 0 0, .int .i64 0] (0, 0) _ (.int .i64 2) rfl rfl bTu111 Tryz.underlying32 rfl (by kernel_rfl)) rfl ⟨ZDv, ZDv, rfl, isZ, isZ, fin_, rowZ _ _ _, rowZ _ _ _⟩
  by_cases q1 : 6 < kind
  · skip
    have he := HH.out
    rw [ask_bad HM.out ((.inr (.inl q1)))] at he
    injection he with he1 he2
    injection he2 with he2 he3
    subst he1 he2 he3
    clear HH
    have u113_b : TBox v107 ((w.heap.size + 1)) ZDv ZDv := (box_later bT j108 S2)
    obtain ⟨u113, h114, bTu113, h114_b, h114_f, h114_l, h114_m⟩ := told_into u113_b ZDv ZDv
    have h114_t := TBox.there u113_b
    replace h114 : v107.setCells ((w.heap.size + 1)) 0 (#[.bool false, .slice none 0 0, .int .i64 0, .bool false, .slice none 0 0, .int .i64 0] : Array Value).toList = u113 := h114
    have h114_H := Lib.hid h114
    clear h114
    have fin_ := h114_b _ _ (later jw j108) (by omega)
    go_wp2_with (first
      | (refine wpList_store_mid rfl 32 (.tmp 6) (.tmp 28) rfl ((w.heap.size + 1)) 0 #[.bool false, .slice none 0 0, .int .i64 0, .bool false, .slice none 0 0, .int .i64 0] rfl rfl h114_t (by kernel_rfl) (all_oneCell_toArray (cells6D_one ZDv ZDv)) ?_; rw [h114_H.out]))
    exact bodyPost_ret (results_row_slot Tryz.results11 _ _ (w.heap.size + 1) 32 #[.bool false, .slice none 0 0, .int .i64 0, .bool false, .slice none 0 0, .int .i64 0] (0, 0) _ (.int .i64 2) rfl rfl bTu113 Tryz.underlying32 rfl (by kernel_rfl)) rfl ⟨ZDv, ZDv, rfl, isZ, isZ, fin_, rowZ _ _ _, rowZ _ _ _⟩
  by_cases q2 : k < 0
  · skip
    have he := HH.out
    rw [ask_bad HM.out ((.inr (.inr (.inl q2))))] at he
    injection he with he1 he2
    injection he2 with he2 he3
    subst he1 he2 he3
    clear HH
    have u115_b : TBox v107 ((w.heap.size + 1)) ZDv ZDv := (box_later bT j108 S2)
    obtain ⟨u115, h116, bTu115, h116_b, h116_f, h116_l, h116_m⟩ := told_into u115_b ZDv ZDv
    have h116_t := TBox.there u115_b
    replace h116 : v107.setCells ((w.heap.size + 1)) 0 (#[.bool false, .slice none 0 0, .int .i64 0, .bool false, .slice none 0 0, .int .i64 0] : Array Value).toList = u115 := h116
    have h116_H := Lib.hid h116
    clear h116
    have fin_ := h116_b _ _ (later jw j108) (by omega)
    go_wp2_with (first
      | (refine wpList_store_mid rfl 32 (.tmp 6) (.tmp 28) rfl ((w.heap.size + 1)) 0 #[.bool false, .slice none 0 0, .int .i64 0, .bool false, .slice none 0 0, .int .i64 0] rfl rfl h116_t (by kernel_rfl) (all_oneCell_toArray (cells6D_one ZDv ZDv)) ?_; rw [h116_H.out]))
    exact bodyPost_ret (results_row_slot Tryz.results11 _ _ (w.heap.size + 1) 32 #[.bool false, .slice none 0 0, .int .i64 0, .bool false, .slice none 0 0, .int .i64 0] (0, 0) _ (.int .i64 2) rfl rfl bTu115 Tryz.underlying32 rfl (by kernel_rfl)) rfl ⟨ZDv, ZDv, rfl, isZ, isZ, fin_, rowZ _ _ _, rowZ _ _ _⟩
  by_cases q3 : 64 < k
  · skip
    have he := HH.out
    rw [ask_bad HM.out ((.inr (.inr (.inr q3))))] at he
    injection he with he1 he2
    injection he2 with he2 he3
    subst he1 he2 he3
    clear HH
    have u117_b : TBox v107 ((w.heap.size + 1)) ZDv ZDv := (box_later bT j108 S2)
    obtain ⟨u117, h118, bTu117, h118_b, h118_f, h118_l, h118_m⟩ := told_into u117_b ZDv ZDv
    have h118_t := TBox.there u117_b
    replace h118 : v107.setCells ((w.heap.size + 1)) 0 (#[.bool false, .slice none 0 0, .int .i64 0, .bool false, .slice none 0 0, .int .i64 0] : Array Value).toList = u117 := h118
    have h118_H := Lib.hid h118
    clear h118
    have fin_ := h118_b _ _ (later jw j108) (by omega)
    go_wp2_with (first
      | (refine wpList_store_mid rfl 32 (.tmp 6) (.tmp 28) rfl ((w.heap.size + 1)) 0 #[.bool false, .slice none 0 0, .int .i64 0, .bool false, .slice none 0 0, .int .i64 0] rfl rfl h118_t (by kernel_rfl) (all_oneCell_toArray (cells6D_one ZDv ZDv)) ?_; rw [h118_H.out]))
    exact bodyPost_ret (results_row_slot Tryz.results11 _ _ (w.heap.size + 1) 32 #[.bool false, .slice none 0 0, .int .i64 0, .bool false, .slice none 0 0, .int .i64 0] (0, 0) _ (.int .i64 2) rfl rfl bTu117 Tryz.underlying32 rfl (by kernel_rfl)) rfl ⟨ZDv, ZDv, rfl, isZ, isZ, fin_, rowZ _ _ _, rowZ _ _ _⟩
  replace HH := Lib.hid (show kindX p kind k = (lo, hi, code) by have h := HH.out; rw [ask_atR HM.out (by omega) (by omega)] at h; exact h)
  have rP := PBox.range (box_later bP j108 SP)
  go_wp2_with (first
    | (refine wpList_load_mid rfl 30 (.tmp 3) rfl (w.heap.size) 0 rfl [.bool p.M.S.s, .slice p.M.S.A p.M.S.n p.M.S.c, .int .i64 p.M.S.e, .bool p.M.W.s, .slice p.M.W.A p.M.W.n p.M.W.c, .int .i64 p.M.W.e, .bool p.M.C.s, .slice p.M.C.A p.M.C.n p.M.C.c, .int .i64 p.M.C.e, .bool p.M.A.s, .slice p.M.A.A p.M.A.n p.M.A.c, .int .i64 p.M.A.e, .bool p.h, .int .i64 p.mn, .int .i64 p.mx, .slice p.A p.n p.c] _ rP Tryz.underlying30 rfl (by kernel_rfl) ?_))
  refine (RTells_any v107 p (PRows.on hR (later jw j108)) (tab_later hT (later jw j108)) kind k HM.out (by omega) (by omega) lo hi code HH.out).mono ?_
  rintro e' v119 ⟨X, Y, rfl, iX, iY, j120, eX, eY⟩
  try clear hw
  replace iX := Lib.hid iX
  replace iY := Lib.hid iY
  clear rP
  obtain ⟨u121, h124, bN, j122, s123⟩ := alloc_t v119 X Y
  have s8 : w2.heap.size ≤ v107.heap.size := Below.size j108
  have eX_ : DRow u121 w2.heap.size u121.heap.size X := Ints.more (Ints.below eX j122 (Nat.le_refl _)) s8 (Below.size j122)
  have eY_ : DRow u121 w2.heap.size u121.heap.size Y := Ints.more (Ints.below eY j122 (Nat.le_refl _)) s8 (Below.size j122)
  have rN := TBox.range bN
  have u125_b : TBox u121 ((w.heap.size + 1)) ZDv ZDv := (box_later bT (later j108 (later j120 j122)) S2)
  obtain ⟨u125, h126, bTu125, h126_b, h126_f, h126_l, h126_m⟩ := told_into u125_b X Y
  have h126_t := TBox.there u125_b
  replace h126 : u121.setCells ((w.heap.size + 1)) 0 (#[.bool X.s, .slice X.A X.n X.c, .int .i64 X.e, .bool Y.s, .slice Y.A Y.n Y.c, .int .i64 Y.e] : Array Value).toList = u125 := h126
  have h126_H := Lib.hid h126
  clear h126
  have fin_ := h126_b _ _ (later jw (later j108 (later j120 j122))) (by omega)
  go_wp2_with (first
    | (refine wpList_store_nw rfl 32 (.tmp 8) (.tmp 34) rfl _ #[.bool X.s, .slice X.A X.n X.c, .int .i64 X.e, .bool Y.s, .slice Y.A Y.n Y.c, .int .i64 Y.e] rfl rfl (by kernel_rfl) rfl (all_oneCell_toArray (cells6D_one X Y)) ?_; rw [h124])
    | (refine wpList_load_mid rfl 32 (.tmp 8) rfl (v119.heap.size) 0 rfl [.bool X.s, .slice X.A X.n X.c, .int .i64 X.e, .bool Y.s, .slice Y.A Y.n Y.c, .int .i64 Y.e] _ rN Tryz.underlying32 rfl (by kernel_rfl) ?_)
    | (refine wpList_store_mid rfl 32 (.tmp 6) (.tmp 36) rfl ((w.heap.size + 1)) 0 #[.bool X.s, .slice X.A X.n X.c, .int .i64 X.e, .bool Y.s, .slice Y.A Y.n Y.c, .int .i64 Y.e] rfl rfl h126_t (by kernel_rfl) (all_oneCell_toArray (cells6D_one X Y)) ?_; rw [h126_H.out]))
  exact bodyPost_ret (results_row_slot Tryz.results11 _ _ (w.heap.size + 1) 32 #[.bool X.s, .slice X.A X.n X.c, .int .i64 X.e, .bool Y.s, .slice Y.A Y.n Y.c, .int .i64 Y.e] (0, 0) _ (.int .i64 code) rfl rfl bTu125 Tryz.underlying32 rfl (by kernel_rfl)) rfl ⟨X, Y, rfl, iX.out, iY.out, fin_, (intsR eX_ (w' := u125) (fun b h1 h2 => h126_f b (by omega))).more (by omega) (by omega), (intsR eY_ (w' := u125) (fun b h1 h2 => h126_f b (by omega))).more (by omega) (by omega)⟩
end Ma
end Go.Proofs.YtmbppgjhdcmckaaGreatDoor
