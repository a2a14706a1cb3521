/- query.Ask: a walk (printed by a program of mine). -/
/- headcountlaw25: over, told: walks (printed by a program of mine). -/
/- What the chapter's part tells: numbers. No program in sight. -/
/- headcountlaw25.held and alive: walks (printed by a program of mine). -/
import Derived.Test.YtmbppgjhdcmckaaGreatDoorBi19
import Derived.Test.YtmbppgjhdcmckaaGreatDoorBi16
namespace Go.Proofs.YtmbppgjhdcmckaaGreatDoor
open Go.RowKit
namespace Ma
open Dp Dy
/-- What a part tells that may be. -/
noncomputable def kindX (p : Pv) (kind k : Int) : Dn × Dn × Int :=
 if kind = 1 then countX p.M.C else if kind = 2 then partsX p.M.A p.M.C k else if kind = 3 then partsX p.M.S p.M.W k else
 if kind = 4 then evenX p.M k else if kind = 5 then endsX p.h p.mn p.mx else if kind = 6 then guessX p.xs else (Dn.zero, Dn.zero, 2)
/-- What a part tells. -/
noncomputable def askQ (p : Pv) (kind k : Int) : Dn × Dn × Int :=
 if mayP p = false then (Dn.zero, Dn.zero, 8) else if k < 0 ∨ 64 < k then (Dn.zero, Dn.zero, 2) else kindX p kind k
theorem mayP_ends {p : Pv} (h : mayP p = true) : (-9223372036854775808 ≤ p.mn ∧ p.mn ≤ 9223372036854775807) ∧ (-9223372036854775808 ≤ p.mx ∧ p.mx ≤ 9223372036854775807) ∧ Least.checkCode p.xs = 0 := by
 unfold mayP at h
 simp only [Bool.and_eq_true, decide_eq_true_eq] at h
 obtain ⟨_, h1, h2⟩ := h
 refine ⟨?_, ?_, h2⟩ <;> (unfold mayE at h1; split at h1 <;> simp only [decide_eq_true_eq] at h1 <;> omega)
theorem MBox.rangeM {w : World} {g : Nat} {m : Mv} (h : MBox w g m) : w.rangeAt g 0 (cells12P m) := fun j v hj => by
 rw [Nat.zero_add, cell_of_row w g j _ _ _ h]
 simpa [cells12P] using hj
set_option maxHeartbeats 25600000 in
set_option maxRecDepth 100000 in
/-- query.Ask. -/
theorem Ask_any (w : World) (p : Pv) (hR : PRows w 0 w.heap.size p) (hT : Tab w) (kind k : Int) (lo hi : Dn) (code : Int) (h : askQ p kind k = (lo, hi, code)) :
  Calls Tryz.prog 10 #[.agg #[.bool p.M.S.s, .slice p.M.S.A p.M.S.n p.M.S.c, .int .i64 p.M.S.e, .bool p.M.W.s, .slice p.M.W.A p.M.W.n p.M.W.c, .int .i64 p.M.W.e, .bool p.M.C.s, .slice p.M.C.A p.M.C.n p.M.C.c, .int .i64 p.M.C.e, .bool p.M.A.s, .slice p.M.A.A p.M.A.n p.M.A.c, .int .i64 p.M.A.e, .bool p.h, .int .i64 p.mn, .int .i64 p.mx, .slice p.A p.n p.c], .int .u8 kind, .int .i64 k] w (ToldR w lo hi code) := by
 obtain ⟨w1, hw1, bP, j1, S1⟩ := alloc_p w p
 obtain ⟨w2, hw2, bT, j2, S2⟩ := alloc_zt w1
 have s1 := j1.size
 have s2 := j2.size
 have z1 : w1.heap.size = w.heap.size + 1 := by rw [← hw1]; simp
 have jw : Below w.heap.size w w2 := j1.trans (j2.mono s1)
 have S1' : w.heap.size < w2.heap.size := by omega
 replace bP : PBox w2 w.heap.size p := (j2.block _ S1).trans bP
 subst hw1
 rw [z1] at bT S2
 obtain ⟨m, hm⟩ : ∃ m, mayP p = m := ⟨_, rfl⟩
 have HM := Lib.hid hm
 have HH := Lib.hid h
 clear hm h j1 j2
 go_enter Tryz.func10, Tryz.ntmps10
 have rP := PBox.range bP
 go_wp2_with (first | (refine wpList_load_mid rfl 30 (.tmp 3) rfl w.heap.size 0 rfl [.bool p.M.S.s, .slice p.M.S.A p.M.S.n p.M.S.c, .int .i64 p.M.S.e, .bool p.M.W.s, .slice p.M.W.A p.M.W.n p.M.W.c, .int .i64 p.M.W.e, .bool p.M.C.s, .slice p.M.C.A p.M.C.n p.M.C.c, .int .i64 p.M.C.e, .bool p.M.A.s, .slice p.M.A.A p.M.A.n p.M.A.c, .int .i64 p.M.A.e, .bool p.h, .int .i64 p.mn, .int .i64 p.mx, .slice p.A p.n p.c] _ rP Tryz.underlying30 rfl (by kernel_rfl) ?_))
 clear rP
 refine (CheckPart_any w2 p (PRows.on hR jw) m HM.out).mono ?_
 rintro e' v1 ⟨rfl, j2⟩
 try clear hw
 cases m
 · skip
   have h := HH.out
   unfold askQ at h
   rw [if_pos HM.out] at h
   injection h with h1 h2
   injection h2 with h2 h3
   subst h1 h2 h3
   clear HH HM
   have bz_ : TBox v1 (w.heap.size + 1) ZDv ZDv := (box_later bT j2 S2)
   obtain ⟨U_, hU_, bU_, hb_, hf_, l5_, l5'_⟩ := told_into bz_ ZDv ZDv
   have th_ := TBox.there bz_
   replace hU_ : v1.setCells ((w.heap.size + 1)) 0 (#[.bool false, .slice none 0 0, .int .i64 0, .bool false, .slice none 0 0, .int .i64 0] : Array Value).toList = U_ := hU_
   have HU_ := Lib.hid hU_
   clear hU_
   have fin_ := hb_ _ _ (later jw j2) (by omega)
   go_wp2_with (first | (refine wpList_store_mid rfl 32 (.tmp 6) (.tmp 15) rfl (w.heap.size + 1) 0 #[.bool false, .slice none 0 0, .int .i64 0, .bool false, .slice none 0 0, .int .i64 0] rfl rfl th_ (by kernel_rfl) (all_oneCell_toArray (cells6D_one ZDv ZDv)) ?_; rw [HU_.out]))
   exact bodyPost_ret (results_row_slot Tryz.results10 _ _ (w.heap.size + 1) 32 #[.bool false, .slice none 0 0, .int .i64 0, .bool false, .slice none 0 0, .int .i64 0] (0, 0) _ (.int .i64 8) rfl rfl bU_ Tryz.underlying32 rfl (by kernel_rfl)) rfl (told_zero _ _ _ fin_)
 · skip
   by_cases k0 : k < 0
   · skip
     have h := HH.out
     unfold askQ at h
     rw [if_neg (by rw [HM.out]; simp), if_pos (.inl k0)] at h
     injection h with h1 h2
     injection h2 with h2 h3
     subst h1 h2 h3
     clear HH HM
     have bz_ : TBox v1 (w.heap.size + 1) ZDv ZDv := (box_later bT j2 S2)
     obtain ⟨U_, hU_, bU_, hb_, hf_, l5_, l5'_⟩ := told_into bz_ ZDv ZDv
     have th_ := TBox.there bz_
     replace hU_ : v1.setCells ((w.heap.size + 1)) 0 (#[.bool false, .slice none 0 0, .int .i64 0, .bool false, .slice none 0 0, .int .i64 0] : Array Value).toList = U_ := hU_
     have HU_ := Lib.hid hU_
     clear hU_
     have fin_ := hb_ _ _ (later jw j2) (by omega)
     go_wp2_with (first | (refine wpList_store_mid rfl 32 (.tmp 6) (.tmp 23) rfl (w.heap.size + 1) 0 #[.bool false, .slice none 0 0, .int .i64 0, .bool false, .slice none 0 0, .int .i64 0] rfl rfl th_ (by kernel_rfl) (all_oneCell_toArray (cells6D_one ZDv ZDv)) ?_; rw [HU_.out]))
     exact bodyPost_ret (results_row_slot Tryz.results10 _ _ (w.heap.size + 1) 32 #[.bool false, .slice none 0 0, .int .i64 0, .bool false, .slice none 0 0, .int .i64 0] (0, 0) _ (.int .i64 2) rfl rfl bU_ Tryz.underlying32 rfl (by kernel_rfl)) rfl (told_zero _ _ _ fin_)
   · skip
     by_cases k1 : 64 < k
     · skip
       have h := HH.out
       unfold askQ at h
       rw [if_neg (by rw [HM.out]; simp), if_pos (.inr k1)] at h
       injection h with h1 h2
       injection h2 with h2 h3
       subst h1 h2 h3
       clear HH HM
       have bz_ : TBox v1 (w.heap.size + 1) ZDv ZDv := (box_later bT j2 S2)
       obtain ⟨U_, hU_, bU_, hb_, hf_, l5_, l5'_⟩ := told_into bz_ ZDv ZDv
       have th_ := TBox.there bz_
       replace hU_ : v1.setCells ((w.heap.size + 1)) 0 (#[.bool false, .slice none 0 0, .int .i64 0, .bool false, .slice none 0 0, .int .i64 0] : Array Value).toList = U_ := hU_
       have HU_ := Lib.hid hU_
       clear hU_
       have fin_ := hb_ _ _ (later jw j2) (by omega)
       go_wp2_with (first | (refine wpList_store_mid rfl 32 (.tmp 6) (.tmp 23) rfl (w.heap.size + 1) 0 #[.bool false, .slice none 0 0, .int .i64 0, .bool false, .slice none 0 0, .int .i64 0] rfl rfl th_ (by kernel_rfl) (all_oneCell_toArray (cells6D_one ZDv ZDv)) ?_; rw [HU_.out]))
       exact bodyPost_ret (results_row_slot Tryz.results10 _ _ (w.heap.size + 1) 32 #[.bool false, .slice none 0 0, .int .i64 0, .bool false, .slice none 0 0, .int .i64 0] (0, 0) _ (.int .i64 2) rfl rfl bU_ Tryz.underlying32 rfl (by kernel_rfl)) rfl (told_zero _ _ _ fin_)
     · skip
       replace HH := Lib.hid (show kindX p kind k = (lo, hi, code) by have h := HH.out; unfold askQ at h; rw [if_neg (by rw [HM.out]; simp), if_neg (by omega)] at h; exact h)
       have HE := Lib.hid (mayP_ends HM.out)
       clear HM
       have rM := PBox.mass (box_later bP j2 S1')
       obtain ⟨w3, hw3, bM, j3, S3⟩ := alloc_m v1 p.M
       go_upto_region 7 with (first
        | (refine wpList_load_mid rfl 26 (.tmp 24) rfl w.heap.size 0 rfl [.bool p.M.S.s, .slice p.M.S.A p.M.S.n p.M.S.c, .int .i64 p.M.S.e, .bool p.M.W.s, .slice p.M.W.A p.M.W.n p.M.W.c, .int .i64 p.M.W.e, .bool p.M.C.s, .slice p.M.C.A p.M.C.n p.M.C.c, .int .i64 p.M.C.e, .bool p.M.A.s, .slice p.M.A.A p.M.A.n p.M.A.c, .int .i64 p.M.A.e] _ rM Tryz.underlying26 rfl (by kernel_rfl) ?_)
        | (refine wpList_store_nw rfl 26 (.tmp 9) (.tmp 25) rfl _ #[.bool p.M.S.s, .slice p.M.S.A p.M.S.n p.M.S.c, .int .i64 p.M.S.e, .bool p.M.W.s, .slice p.M.W.A p.M.W.n p.M.W.c, .int .i64 p.M.W.e, .bool p.M.C.s, .slice p.M.C.A p.M.C.n p.M.C.c, .int .i64 p.M.C.e, .bool p.M.A.s, .slice p.M.A.A p.M.A.n p.M.A.c, .int .i64 p.M.A.e] rfl rfl (by kernel_rfl) rfl (all_oneCell_toArray (cells12P_one p.M)) ?_))
       try rw [hw3]
       try clear hw3
       clear rM
       by_cases c1 : kind = 1
       · skip
         subst c1
         obtain ⟨⟨q3_0, q3_1, q3_2, q3_3, q3_4, q3_5, q3_6, q3_7, q3_8, q3_9, q3_10, q3_11⟩, q3f⟩ := MBox.cells bM
         go_wp2_with fail
         refine (qcount_any w3 p.M.C (PRows.on hR (later jw (later j2 j3))).M.C).mono ?_
         rintro e' v4 ⟨V, rfl, TV, j5⟩
         clear q3_0 q3_1 q3_2 q3_3 q3_4 q3_5 q3_6 q3_7 q3_8 q3_9 q3_10 q3_11 q3f
         try clear hw
         obtain ⟨cs, rfl, hV⟩ := TV
         rw [show countX p.M.C = kindX p 1 k by unfold kindX; rw [if_pos rfl], HH.out] at hV
         clear HH HE
         have sz_ := Below.size (later j2 (later j3 j5))
         have szA_ := Below.size (later jw (later j2 (later j3 j5)))
         have bT_ : TBox v4 (w.heap.size + 1) ZDv ZDv := (box_later bT (later j2 (later j3 j5)) S2)
         have bl_ : Below w.heap.size w v4 := (later jw (later j2 (later j3 j5)))
         go_wp2_with fail
         refine (hV v4 (Below.refl _ _)).mono ?_
         rintro e' u ⟨x, y, B, rfl, ix, iy, ju, l1, l2, rx, ry⟩
         have su := ju.size
         have bTu : TBox u (w.heap.size + 1) ZDv ZDv := (ju.block _ (by omega)).trans bT_
         have bu : Below w.heap.size w u := bl_.trans (ju.mono (by omega))
         obtain ⟨U, hU, bF, hbF, hfF, g1, g1'⟩ := told_into bTu x y
         have th := TBox.there bTu
         replace hU : u.setCells (w.heap.size + 1) 0 (#[.bool x.s, .slice x.A x.n x.c, .int .i64 x.e, .bool y.s, .slice y.A y.n y.c, .int .i64 y.e] : Array Value).toList = U := hU
         have HU := Lib.hid hU
         clear hU
         go_wp2_with (first
          | (refine wpList_store_mid rfl 32 (.tmp 6) (.tmp 68) rfl (w.heap.size + 1) 0 #[.bool x.s, .slice x.A x.n x.c, .int .i64 x.e, .bool y.s, .slice y.A y.n y.c, .int .i64 y.e] rfl rfl th (by kernel_rfl) (all_oneCell_toArray (cells6D_one x y)) ?_; rw [HU.out]))
         have fin := hbF _ _ bu (by omega)
         exact bodyPost_ret (results_row_slot Tryz.results10 _ _ (w.heap.size + 1) 32 #[.bool x.s, .slice x.A x.n x.c, .int .i64 x.e, .bool y.s, .slice y.A y.n y.c, .int .i64 y.e] (0, 0) _ (.int .i64 code) rfl rfl bF Tryz.underlying32 rfl (by kernel_rfl)) rfl ⟨x, y, B, rfl, ix, iy, fin, by omega, by omega, (intsR rx (w' := U) (fun b h1 h2 => hfF b (by omega))).more (by omega) (Nat.le_refl _), (intsR ry (w' := U) (fun b h1 h2 => hfF b (by omega))).more (Nat.le_refl _) (by omega)⟩
       · skip
         by_cases c2 : kind = 2
         · skip
           subst c2
           obtain ⟨⟨q6_0, q6_1, q6_2, q6_3, q6_4, q6_5, q6_6, q6_7, q6_8, q6_9, q6_10, q6_11⟩, q6f⟩ := MBox.cells bM
           go_wp2_with fail
           refine (qparts_any w3 p.M.A p.M.C k (PRows.on hR (later jw (later j2 j3))).M.A (PRows.on hR (later jw (later j2 j3))).M.C).mono ?_
           rintro e' v7 ⟨V, rfl, TV, j8⟩
           clear q6_0 q6_1 q6_2 q6_3 q6_4 q6_5 q6_6 q6_7 q6_8 q6_9 q6_10 q6_11 q6f
           try clear hw
           obtain ⟨cs, rfl, hV⟩ := TV
           rw [show partsX p.M.A p.M.C k = kindX p 2 k by unfold kindX; rw [if_neg (by decide), if_pos rfl], HH.out] at hV
           clear HH HE
           have sz_ := Below.size (later j2 (later j3 j8))
           have szA_ := Below.size (later jw (later j2 (later j3 j8)))
           have bT_ : TBox v7 (w.heap.size + 1) ZDv ZDv := (box_later bT (later j2 (later j3 j8)) S2)
           have bl_ : Below w.heap.size w v7 := (later jw (later j2 (later j3 j8)))
           go_wp2_with fail
           refine (hV v7 (Below.refl _ _)).mono ?_
           rintro e' u ⟨x, y, B, rfl, ix, iy, ju, l1, l2, rx, ry⟩
           have su := ju.size
           have bTu : TBox u (w.heap.size + 1) ZDv ZDv := (ju.block _ (by omega)).trans bT_
           have bu : Below w.heap.size w u := bl_.trans (ju.mono (by omega))
           obtain ⟨U, hU, bF, hbF, hfF, g1, g1'⟩ := told_into bTu x y
           have th := TBox.there bTu
           replace hU : u.setCells (w.heap.size + 1) 0 (#[.bool x.s, .slice x.A x.n x.c, .int .i64 x.e, .bool y.s, .slice y.A y.n y.c, .int .i64 y.e] : Array Value).toList = U := hU
           have HU := Lib.hid hU
           clear hU
           go_wp2_with (first
            | (refine wpList_store_mid rfl 32 (.tmp 6) (.tmp 68) rfl (w.heap.size + 1) 0 #[.bool x.s, .slice x.A x.n x.c, .int .i64 x.e, .bool y.s, .slice y.A y.n y.c, .int .i64 y.e] rfl rfl th (by kernel_rfl) (all_oneCell_toArray (cells6D_one x y)) ?_; rw [HU.out]))
           have fin := hbF _ _ bu (by omega)
           exact bodyPost_ret (results_row_slot Tryz.results10 _ _ (w.heap.size + 1) 32 #[.bool x.s, .slice x.A x.n x.c, .int .i64 x.e, .bool y.s, .slice y.A y.n y.c, .int .i64 y.e] (0, 0) _ (.int .i64 code) rfl rfl bF Tryz.underlying32 rfl (by kernel_rfl)) rfl ⟨x, y, B, rfl, ix, iy, fin, by omega, by omega, (intsR rx (w' := U) (fun b h1 h2 => hfF b (by omega))).more (by omega) (Nat.le_refl _), (intsR ry (w' := U) (fun b h1 h2 => hfF b (by omega))).more (Nat.le_refl _) (by omega)⟩
         · skip
           by_cases c3 : kind = 3
           · skip
             subst c3
             obtain ⟨⟨q9_0, q9_1, q9_2, q9_3, q9_4, q9_5, q9_6, q9_7, q9_8, q9_9, q9_10, q9_11⟩, q9f⟩ := MBox.cells bM
             go_wp2_with fail
             refine (qparts_any w3 p.M.S p.M.W k (PRows.on hR (later jw (later j2 j3))).M.S (PRows.on hR (later jw (later j2 j3))).M.W).mono ?_
             rintro e' v10 ⟨V, rfl, TV, j11⟩
             clear q9_0 q9_1 q9_2 q9_3 q9_4 q9_5 q9_6 q9_7 q9_8 q9_9 q9_10 q9_11 q9f
             try clear hw
             obtain ⟨cs, rfl, hV⟩ := TV
             rw [show partsX p.M.S p.M.W k = kindX p 3 k by unfold kindX; rw [if_neg (by decide), if_neg (by decide), if_pos rfl], HH.out] at hV
             clear HH HE
             have sz_ := Below.size (later j2 (later j3 j11))
             have szA_ := Below.size (later jw (later j2 (later j3 j11)))
             have bT_ : TBox v10 (w.heap.size + 1) ZDv ZDv := (box_later bT (later j2 (later j3 j11)) S2)
             have bl_ : Below w.heap.size w v10 := (later jw (later j2 (later j3 j11)))
             go_wp2_with fail
             refine (hV v10 (Below.refl _ _)).mono ?_
             rintro e' u ⟨x, y, B, rfl, ix, iy, ju, l1, l2, rx, ry⟩
             have su := ju.size
             have bTu : TBox u (w.heap.size + 1) ZDv ZDv := (ju.block _ (by omega)).trans bT_
             have bu : Below w.heap.size w u := bl_.trans (ju.mono (by omega))
             obtain ⟨U, hU, bF, hbF, hfF, g1, g1'⟩ := told_into bTu x y
             have th := TBox.there bTu
             replace hU : u.setCells (w.heap.size + 1) 0 (#[.bool x.s, .slice x.A x.n x.c, .int .i64 x.e, .bool y.s, .slice y.A y.n y.c, .int .i64 y.e] : Array Value).toList = U := hU
             have HU := Lib.hid hU
             clear hU
             go_wp2_with (first
              | (refine wpList_store_mid rfl 32 (.tmp 6) (.tmp 68) rfl (w.heap.size + 1) 0 #[.bool x.s, .slice x.A x.n x.c, .int .i64 x.e, .bool y.s, .slice y.A y.n y.c, .int .i64 y.e] rfl rfl th (by kernel_rfl) (all_oneCell_toArray (cells6D_one x y)) ?_; rw [HU.out]))
             have fin := hbF _ _ bu (by omega)
             exact bodyPost_ret (results_row_slot Tryz.results10 _ _ (w.heap.size + 1) 32 #[.bool x.s, .slice x.A x.n x.c, .int .i64 x.e, .bool y.s, .slice y.A y.n y.c, .int .i64 y.e] (0, 0) _ (.int .i64 code) rfl rfl bF Tryz.underlying32 rfl (by kernel_rfl)) rfl ⟨x, y, B, rfl, ix, iy, fin, by omega, by omega, (intsR rx (w' := U) (fun b h1 h2 => hfF b (by omega))).more (by omega) (Nat.le_refl _), (intsR ry (w' := U) (fun b h1 h2 => hfF b (by omega))).more (Nat.le_refl _) (by omega)⟩
           · skip
             by_cases c4 : kind = 4
             · skip
               subst c4
               have rM := MBox.rangeM bM
               go_wp2_with (first | (refine wpList_load_mid rfl 26 (.tmp 9) rfl (v1.heap.size) 0 rfl [.bool p.M.S.s, .slice p.M.S.A p.M.S.n p.M.S.c, .int .i64 p.M.S.e, .bool p.M.W.s, .slice p.M.W.A p.M.W.n p.M.W.c, .int .i64 p.M.W.e, .bool p.M.C.s, .slice p.M.C.A p.M.C.n p.M.C.c, .int .i64 p.M.C.e, .bool p.M.A.s, .slice p.M.A.A p.M.A.n p.M.A.c, .int .i64 p.M.A.e] _ rM Tryz.underlying26 rfl (by kernel_rfl) ?_))
               clear rM
               refine (qeven_any w3 p.M (PRows.on hR (later jw (later j2 j3))).M k).mono ?_
               rintro e' v12 ⟨V, rfl, TV, j13⟩
               try clear hw
               obtain ⟨cs, rfl, hV⟩ := TV
               rw [show evenX p.M k = kindX p 4 k by unfold kindX; rw [if_neg (by decide), if_neg (by decide), if_neg (by decide), if_pos rfl], HH.out] at hV
               clear HH HE
               have sz_ := Below.size (later j2 (later j3 j13))
               have szA_ := Below.size (later jw (later j2 (later j3 j13)))
               have bT_ : TBox v12 (w.heap.size + 1) ZDv ZDv := (box_later bT (later j2 (later j3 j13)) S2)
               have bl_ : Below w.heap.size w v12 := (later jw (later j2 (later j3 j13)))
               go_wp2_with fail
               refine (hV v12 (Below.refl _ _)).mono ?_
               rintro e' u ⟨x, y, B, rfl, ix, iy, ju, l1, l2, rx, ry⟩
               have su := ju.size
               have bTu : TBox u (w.heap.size + 1) ZDv ZDv := (ju.block _ (by omega)).trans bT_
               have bu : Below w.heap.size w u := bl_.trans (ju.mono (by omega))
               obtain ⟨U, hU, bF, hbF, hfF, g1, g1'⟩ := told_into bTu x y
               have th := TBox.there bTu
               replace hU : u.setCells (w.heap.size + 1) 0 (#[.bool x.s, .slice x.A x.n x.c, .int .i64 x.e, .bool y.s, .slice y.A y.n y.c, .int .i64 y.e] : Array Value).toList = U := hU
               have HU := Lib.hid hU
               clear hU
               go_wp2_with (first
                | (refine wpList_store_mid rfl 32 (.tmp 6) (.tmp 68) rfl (w.heap.size + 1) 0 #[.bool x.s, .slice x.A x.n x.c, .int .i64 x.e, .bool y.s, .slice y.A y.n y.c, .int .i64 y.e] rfl rfl th (by kernel_rfl) (all_oneCell_toArray (cells6D_one x y)) ?_; rw [HU.out]))
               have fin := hbF _ _ bu (by omega)
               exact bodyPost_ret (results_row_slot Tryz.results10 _ _ (w.heap.size + 1) 32 #[.bool x.s, .slice x.A x.n x.c, .int .i64 x.e, .bool y.s, .slice y.A y.n y.c, .int .i64 y.e] (0, 0) _ (.int .i64 code) rfl rfl bF Tryz.underlying32 rfl (by kernel_rfl)) rfl ⟨x, y, B, rfl, ix, iy, fin, by omega, by omega, (intsR rx (w' := U) (fun b h1 h2 => hfF b (by omega))).more (by omega) (Nat.le_refl _), (intsR ry (w' := U) (fun b h1 h2 => hfF b (by omega))).more (Nat.le_refl _) (by omega)⟩
             · skip
               by_cases c5 : kind = 5
               · skip
                 subst c5
                 obtain ⟨⟨q14_0, q14_1, q14_2, q14_3, q14_4, q14_5, q14_6, q14_7, q14_8, q14_9, q14_10, q14_11, q14_12, q14_13, q14_14, q14_15⟩, q14f⟩ := PBox.cell (box_later bP (later j2 j3) S1')
                 go_wp2_with fail
                 refine (qends_any w3 p.h p.mn p.mx HE.out.1 HE.out.2.1).mono ?_
                 rintro e' v15 ⟨V, rfl, TV, j16⟩
                 clear q14_0 q14_1 q14_2 q14_3 q14_4 q14_5 q14_6 q14_7 q14_8 q14_9 q14_10 q14_11 q14_12 q14_13 q14_14 q14_15 q14f
                 try clear hw
                 obtain ⟨cs, rfl, hV⟩ := TV
                 rw [show endsX p.h p.mn p.mx = kindX p 5 k by unfold kindX; rw [if_neg (by decide), if_neg (by decide), if_neg (by decide), if_neg (by decide), if_pos rfl], HH.out] at hV
                 clear HH HE
                 have sz_ := Below.size (later j2 (later j3 j16))
                 have szA_ := Below.size (later jw (later j2 (later j3 j16)))
                 have bT_ : TBox v15 (w.heap.size + 1) ZDv ZDv := (box_later bT (later j2 (later j3 j16)) S2)
                 have bl_ : Below w.heap.size w v15 := (later jw (later j2 (later j3 j16)))
                 go_wp2_with fail
                 refine (hV v15 (Below.refl _ _)).mono ?_
                 rintro e' u ⟨x, y, B, rfl, ix, iy, ju, l1, l2, rx, ry⟩
                 have su := ju.size
                 have bTu : TBox u (w.heap.size + 1) ZDv ZDv := (ju.block _ (by omega)).trans bT_
                 have bu : Below w.heap.size w u := bl_.trans (ju.mono (by omega))
                 obtain ⟨U, hU, bF, hbF, hfF, g1, g1'⟩ := told_into bTu x y
                 have th := TBox.there bTu
                 replace hU : u.setCells (w.heap.size + 1) 0 (#[.bool x.s, .slice x.A x.n x.c, .int .i64 x.e, .bool y.s, .slice y.A y.n y.c, .int .i64 y.e] : Array Value).toList = U := hU
                 have HU := Lib.hid hU
                 clear hU
                 go_wp2_with (first
                  | (refine wpList_store_mid rfl 32 (.tmp 6) (.tmp 68) rfl (w.heap.size + 1) 0 #[.bool x.s, .slice x.A x.n x.c, .int .i64 x.e, .bool y.s, .slice y.A y.n y.c, .int .i64 y.e] rfl rfl th (by kernel_rfl) (all_oneCell_toArray (cells6D_one x y)) ?_; rw [HU.out]))
                 have fin := hbF _ _ bu (by omega)
                 exact bodyPost_ret (results_row_slot Tryz.results10 _ _ (w.heap.size + 1) 32 #[.bool x.s, .slice x.A x.n x.c, .int .i64 x.e, .bool y.s, .slice y.A y.n y.c, .int .i64 y.e] (0, 0) _ (.int .i64 code) rfl rfl bF Tryz.underlying32 rfl (by kernel_rfl)) rfl ⟨x, y, B, rfl, ix, iy, fin, by omega, by omega, (intsR rx (w' := U) (fun b h1 h2 => hfF b (by omega))).more (by omega) (Nat.le_refl _), (intsR ry (w' := U) (fun b h1 h2 => hfF b (by omega))).more (Nat.le_refl _) (by omega)⟩
               · skip
                 by_cases c6 : kind = 6
                 · skip
                   subst c6
                   obtain ⟨⟨q17_0, q17_1, q17_2, q17_3, q17_4, q17_5, q17_6, q17_7, q17_8, q17_9, q17_10, q17_11, q17_12, q17_13, q17_14, q17_15⟩, q17f⟩ := PBox.cell (box_later bP (later j2 j3) S1')
                   go_wp2_with fail
                   refine (qguess_any w3 p.A p.n p.c p.xs (PRows.on hR (later jw (later j2 j3))).L (tab_later hT (later jw (later j2 j3))) HE.out.2.2).mono ?_
                   rintro e' v18 ⟨V, rfl, TV, j19⟩
                   clear q17_0 q17_1 q17_2 q17_3 q17_4 q17_5 q17_6 q17_7 q17_8 q17_9 q17_10 q17_11 q17_12 q17_13 q17_14 q17_15 q17f
                   try clear hw
                   obtain ⟨cs, rfl, hV⟩ := TV
                   rw [show guessX p.xs = kindX p 6 k by unfold kindX; rw [if_neg (by decide), if_neg (by decide), if_neg (by decide), if_neg (by decide), if_neg (by decide), if_pos rfl], HH.out] at hV
                   clear HH HE
                   have sz_ := Below.size (later j2 (later j3 j19))
                   have szA_ := Below.size (later jw (later j2 (later j3 j19)))
                   have bT_ : TBox v18 (w.heap.size + 1) ZDv ZDv := (box_later bT (later j2 (later j3 j19)) S2)
                   have bl_ : Below w.heap.size w v18 := (later jw (later j2 (later j3 j19)))
                   go_wp2_with fail
                   refine (hV v18 (Below.refl _ _)).mono ?_
                   rintro e' u ⟨x, y, B, rfl, ix, iy, ju, l1, l2, rx, ry⟩
                   have su := ju.size
                   have bTu : TBox u (w.heap.size + 1) ZDv ZDv := (ju.block _ (by omega)).trans bT_
                   have bu : Below w.heap.size w u := bl_.trans (ju.mono (by omega))
                   obtain ⟨U, hU, bF, hbF, hfF, g1, g1'⟩ := told_into bTu x y
                   have th := TBox.there bTu
                   replace hU : u.setCells (w.heap.size + 1) 0 (#[.bool x.s, .slice x.A x.n x.c, .int .i64 x.e, .bool y.s, .slice y.A y.n y.c, .int .i64 y.e] : Array Value).toList = U := hU
                   have HU := Lib.hid hU
                   clear hU
                   go_wp2_with (first
                    | (refine wpList_store_mid rfl 32 (.tmp 6) (.tmp 68) rfl (w.heap.size + 1) 0 #[.bool x.s, .slice x.A x.n x.c, .int .i64 x.e, .bool y.s, .slice y.A y.n y.c, .int .i64 y.e] rfl rfl th (by kernel_rfl) (all_oneCell_toArray (cells6D_one x y)) ?_; rw [HU.out]))
                   have fin := hbF _ _ bu (by omega)
                   exact bodyPost_ret (results_row_slot Tryz.results10 _ _ (w.heap.size + 1) 32 #[.bool x.s, .slice x.A x.n x.c, .int .i64 x.e, .bool y.s, .slice y.A y.n y.c, .int .i64 y.e] (0, 0) _ (.int .i64 code) rfl rfl bF Tryz.underlying32 rfl (by kernel_rfl)) rfl ⟨x, y, B, rfl, ix, iy, fin, by omega, by omega, (intsR rx (w' := U) (fun b h1 h2 => hfF b (by omega))).more (by omega) (Nat.le_refl _), (intsR ry (w' := U) (fun b h1 h2 => hfF b (by omega))).more (Nat.le_refl _) (by omega)⟩
                 · skip
                   have h := HH.out
                   unfold kindX at h
                   rw [if_neg c1, if_neg c2, if_neg c3, if_neg c4, if_neg c5, if_neg c6] at h
                   injection h with h1 h2
                   injection h2 with h2 h3
                   subst h1 h2 h3
                   clear HH HE
                   have d1 : (kind == 1) = false := by simpa using c1
                   have d2 : (kind == 2) = false := by simpa using c2
                   have d3 : (kind == 3) = false := by simpa using c3
                   have d4 : (kind == 4) = false := by simpa using c4
                   have d5 : (kind == 5) = false := by simpa using c5
                   have d6 : (kind == 6) = false := by simpa using c6
                   by_cases c0 : kind = 0
                   · skip
                     subst c0
                     have bz_ : TBox w3 (w.heap.size + 1) ZDv ZDv := (box_later bT (later j2 j3) S2)
                     obtain ⟨U_, hU_, bU_, hb_, hf_, l5_, l5'_⟩ := told_into bz_ ZDv ZDv
                     have th_ := TBox.there bz_
                     replace hU_ : w3.setCells ((w.heap.size + 1)) 0 (#[.bool false, .slice none 0 0, .int .i64 0, .bool false, .slice none 0 0, .int .i64 0] : Array Value).toList = U_ := hU_
                     have HU_ := Lib.hid hU_
                     clear hU_
                     have fin_ := hb_ _ _ (later jw (later j2 j3)) (by omega)
                     go_wp2_with (first | (refine wpList_store_mid rfl 32 (.tmp 6) (.tmp 65) rfl (w.heap.size + 1) 0 #[.bool false, .slice none 0 0, .int .i64 0, .bool false, .slice none 0 0, .int .i64 0] rfl rfl th_ (by kernel_rfl) (all_oneCell_toArray (cells6D_one ZDv ZDv)) ?_; rw [HU_.out]))
                     exact bodyPost_ret (results_row_slot Tryz.results10 _ _ (w.heap.size + 1) 32 #[.bool false, .slice none 0 0, .int .i64 0, .bool false, .slice none 0 0, .int .i64 0] (0, 0) _ (.int .i64 2) rfl rfl bU_ Tryz.underlying32 rfl (by kernel_rfl)) rfl (told_zero _ _ _ fin_)
                   · skip
                     have d0 : (kind == 0) = false := by simpa using c0
                     have bz_ : TBox w3 (w.heap.size + 1) ZDv ZDv := (box_later bT (later j2 j3) S2)
                     obtain ⟨U_, hU_, bU_, hb_, hf_, l5_, l5'_⟩ := told_into bz_ ZDv ZDv
                     have th_ := TBox.there bz_
                     replace hU_ : w3.setCells ((w.heap.size + 1)) 0 (#[.bool false, .slice none 0 0, .int .i64 0, .bool false, .slice none 0 0, .int .i64 0] : Array Value).toList = U_ := hU_
                     have HU_ := Lib.hid hU_
                     clear hU_
                     have fin_ := hb_ _ _ (later jw (later j2 j3)) (by omega)
                     go_wp2_with (first | (refine wpList_store_mid rfl 32 (.tmp 6) (.tmp 65) rfl (w.heap.size + 1) 0 #[.bool false, .slice none 0 0, .int .i64 0, .bool false, .slice none 0 0, .int .i64 0] rfl rfl th_ (by kernel_rfl) (all_oneCell_toArray (cells6D_one ZDv ZDv)) ?_; rw [HU_.out]))
                     exact bodyPost_ret (results_row_slot Tryz.results10 _ _ (w.heap.size + 1) 32 #[.bool false, .slice none 0 0, .int .i64 0, .bool false, .slice none 0 0, .int .i64 0] (0, 0) _ (.int .i64 2) rfl rfl bU_ Tryz.underlying32 rfl (by kernel_rfl)) rfl (told_zero _ _ _ fin_)
end Ma
end Go.Proofs.YtmbppgjhdcmckaaGreatDoor
namespace Go.Proofs.YtmbppgjhdcmckaaGreatDoor
open Go.RowKit
namespace Ma
open Dp Dy
theorem alloc_zq (w : World) : ∃ U, w.alloc (.cells #[.bool false, .slice none 0 0, .int .i64 0] 24) = U ∧ QBox U w.heap.size ZDv ∧ Below w.heap.size w U ∧ w.heap.size < U.heap.size :=
 ⟨_, rfl, heap_alloc_last _ _, (Below.refl _ w).alloc (Nat.le_refl _) _, by simp⟩
theorem alloc_u (w : World) (n : Int) : ∃ U, w.alloc (.cells #[.int .u32 n] 48) = U ∧ U.heap[w.heap.size]? = some (.cells #[.int .u32 n] 48 (0, 0)) ∧ Below w.heap.size w U ∧ w.heap.size < U.heap.size :=
 ⟨_, rfl, heap_alloc_last _ _, (Below.refl _ w).alloc (Nat.le_refl _) _, by simp⟩
theorem dyad_into {w : World} {g : Nat} {x : Dv} (h : QBox w g x) (x' : Dv) : ∃ U, w.setCells g 0 (cells3D x') = U ∧ QBox U g x' ∧ (∀ w0 B, Below B w0 w → B ≤ g → Below B w0 U) ∧ (∀ j, j ≠ g → U.heap[j]? = w.heap[j]?) ∧ U.heap.size ≤ w.heap.size ∧ w.heap.size ≤ U.heap.size := by
 refine ⟨_, rfl, ?_, fun w0 B hb hg => ?_, fun j hj => ?_, ?_, ?_⟩
 · unfold QBox at h ⊢
   simp [cells3D, World.setCells, World.setCell, Array.getElem?_modify, h]
 · simp only [cells3D, World.setCells]
   repeat (refine Below.setCell ?_ hg _)
   exact hb
 · have hj' : ¬ g = j := fun e => hj e.symm
   simp [cells3D, World.setCells, World.setCell, Array.getElem?_modify, hj']
 · simp [cells3D, World.setCells, World.setCell]
 · simp [cells3D, World.setCells, World.setCell]
theorem one_row {w : World} {g : Nat} {n : Int} (h : w.heap[g]? = some (.cells #[.int .u32 n] 48 (0, 0))) (h0 : 0 ≤ n) (h1 : n ≤ 4294967295) : Ints w g (g + 1) .u32 (some ⟨g, 0, none⟩) 1 [n] := by
 refine ⟨rfl, fun x hx => ?_, by decide, fun _ => ⟨g, 0, rfl, Nat.le_refl _, by omega, fun j hj => ?_⟩⟩
 · obtain rfl := List.mem_singleton.1 hx
   simp [IntKind.min, IntKind.max, IntKind.signed, IntKind.bits]
   omega
 · have : j = 0 := by simpa using hj
   subst this
   exact ⟨cell_of_row w g 0 _ _ _ h, frozen_of_row w g _ _ _ h⟩
set_option maxHeartbeats 3200000 in
set_option maxRecDepth 100000 in
/-- headcountlaw25.over. -/
theorem over_any (w : World) (n e : Int) (h0 : 0 ≤ n) (h1 : n ≤ 4294967295) :
  Calls Tryz.prog 18 #[.int .u32 n, .int .i64 e] w fun e' w' => ∃ x : Dv, e' = .returned (.agg #[.bool x.s, .slice x.A x.n x.c, .int .i64 x.e]) ∧ x.s = false ∧ x.e = e ∧ x.xs = [n] ∧ x.n = 1 ∧ Below w.heap.size w w' ∧ DRow w' w.heap.size w'.heap.size x := by
 obtain ⟨w1, hw1, bQ, j1, S1⟩ := alloc_zq w
 obtain ⟨w2, hw2, bN, j2, S2⟩ := alloc_u w1 n
 have s1 := j1.size
 have s2 := j2.size
 have bQ2 : QBox w2 w.heap.size ZDv := (j2.block _ S1).trans bQ
 obtain ⟨x, hx⟩ : ∃ x : Dv, x = ⟨false, some ⟨w1.heap.size, 0, none⟩, 1, 1, e, [n]⟩ := ⟨_, rfl⟩
 obtain ⟨U, hU, bU, hb, hf, l1, l2⟩ := dyad_into bQ2 ⟨false, some ⟨w1.heap.size, 0, none⟩, 1, 1, e, [n]⟩
 have th := QBox.there bQ2
 have I := one_row bN h0 h1
 have rx : DRow U w.heap.size U.heap.size x := by rw [hx]; exact (intsR I (w' := U) (fun b h1 h2 => hf b (by omega))).more (by omega) (by omega)
 have bX : QBox U w.heap.size x := by rw [hx]; exact bU
 have fin := hb _ _ (j1.trans (j2.mono s1)) (Nat.le_refl _)
 replace hU : w2.setCells w.heap.size 0 (#[.bool false, .slice (some ⟨w1.heap.size, 0, none⟩) 1 1, .int .i64 e] : Array Value).toList = U := hU
 have HU := Lib.hid hU
 have HX := Lib.hid hx
 clear hU hx bU
 go_enter Tryz.func18, Tryz.ntmps18
 go_wp2_with (first
  | (refine wpList_store_mid rfl 24 (.tmp 4) (.tmp 8) rfl w.heap.size 0 #[.bool false, .slice (some ⟨w1.heap.size, 0, none⟩) 1 1, .int .i64 e] rfl rfl th (by kernel_rfl) (all_oneCell_toArray (cells3D_one ⟨false, some ⟨w1.heap.size, 0, none⟩, 1, 1, e, [n]⟩)) ?_; rw [HU.out]))
 exact bodyPost_ret (results_cell_row Tryz.results18 _ _ w.heap.size 24 #[.bool x.s, .slice x.A x.n x.c, .int .i64 x.e] (0, 0) _ rfl bX Tryz.underlying24 rfl (by kernel_rfl)) rfl ⟨x, rfl, by rw [HX.out], by rw [HX.out], by rw [HX.out], by rw [HX.out], fin, rx⟩
/-- Is a told number that one? -/
def isD (r : Dn) (d : Dv) : Bool := Pa.Dy.same ⟨r.neg, canon 4294967296 r.m, r.e⟩ ⟨d.s, d.xs, d.e⟩
def toldB (T : Dn × Dn × Int) (a b : Dv) : Bool := decide (T.2.2 = 0) && (isD T.1 a && isD T.2.1 b)
theorem isD_is {r : Dn} {x : Dv} (h : Is r x) (d : Dv) : Pa.Dy.same ⟨x.s, x.xs, x.e⟩ ⟨d.s, d.xs, d.e⟩ = isD r d := by
 unfold isD
 rw [h.1, h.2.1, h.2.2]
set_option maxHeartbeats 12800000 in
set_option maxRecDepth 100000 in
/-- headcountlaw25.told. -/
theorem told_any (w : World) (p : Pv) (hR : PRows w 0 w.heap.size p) (hT : Tab w) (kind k : Int) (a b : Dv) (hA : DRow w 0 w.heap.size a) (hB : DRow w 0 w.heap.size b) (r : Bool) (hr : toldB (askQ p kind k) a b = r) :
  Calls Tryz.prog 23 #[.agg #[.bool p.M.S.s, .slice p.M.S.A p.M.S.n p.M.S.c, .int .i64 p.M.S.e, .bool p.M.W.s, .slice p.M.W.A p.M.W.n p.M.W.c, .int .i64 p.M.W.e, .bool p.M.C.s, .slice p.M.C.A p.M.C.n p.M.C.c, .int .i64 p.M.C.e, .bool p.M.A.s, .slice p.M.A.A p.M.A.n p.M.A.c, .int .i64 p.M.A.e, .bool p.h, .int .i64 p.mn, .int .i64 p.mx, .slice p.A p.n p.c], .int .u8 kind, .int .i64 k, .agg #[.bool a.s, .slice a.A a.n a.c, .int .i64 a.e], .agg #[.bool b.s, .slice b.A b.n b.c, .int .i64 b.e]] w fun e w' => e = .returned (.bool r) ∧ Below w.heap.size w w' := by
 obtain ⟨w1, hw1, bP, j1, S1⟩ := alloc_p w p
 obtain ⟨w2, hw2, bA, j2, S2⟩ := alloc_q w1 a
 obtain ⟨w3, hw3, bB, j3, S3⟩ := alloc_q w2 b
 have s1 := j1.size
 have s2 := j2.size
 have s3 := j3.size
 have z1 : w1.heap.size = w.heap.size + 1 := by rw [← hw1]; simp
 have z2 : w2.heap.size = w.heap.size + 1 + 1 := by rw [← hw2]; simp [z1]
 have jw : Below w.heap.size w w3 := (j1.trans (j2.mono s1)).trans (j3.mono (by omega))
 have S1' : w.heap.size < w3.heap.size := by omega
 have S2' : w.heap.size + 1 < w3.heap.size := by omega
 replace bP : PBox w3 w.heap.size p := (j3.block _ (by omega)).trans ((j2.block _ S1).trans bP)
 replace bA : QBox w3 w1.heap.size a := (j3.block _ S2).trans bA
 subst hw1 hw2
 rw [z1] at bA
 rw [z2] at bB S3
 obtain ⟨lo, hi, code, hh⟩ : ∃ lo hi code, askQ p kind k = (lo, hi, code) := ⟨_, _, _, rfl⟩
 rw [hh] at hr
 have HR := Lib.hid hr
 have HH := Lib.hid hh
 clear hr hh j1 j2 j3
 go_enter Tryz.func23, Tryz.ntmps23
 have rP := PBox.range bP
 go_wp2_with (first | (refine wpList_load_mid rfl 30 (.tmp 5) rfl w.heap.size 0 rfl [.bool p.M.S.s, .slice p.M.S.A p.M.S.n p.M.S.c, .int .i64 p.M.S.e, .bool p.M.W.s, .slice p.M.W.A p.M.W.n p.M.W.c, .int .i64 p.M.W.e, .bool p.M.C.s, .slice p.M.C.A p.M.C.n p.M.C.c, .int .i64 p.M.C.e, .bool p.M.A.s, .slice p.M.A.A p.M.A.n p.M.A.c, .int .i64 p.M.A.e, .bool p.h, .int .i64 p.mn, .int .i64 p.mx, .slice p.A p.n p.c] _ rP Tryz.underlying30 rfl (by kernel_rfl) ?_))
 clear rP
 refine (Ask_any w3 p (PRows.on hR jw) (tab_later hT jw) kind k lo hi code HH.out).mono ?_
 rintro e' u ⟨x, y, B, rfl, ix, iy, ju, l1, l2, rx, ry⟩
 try clear hw3
 obtain ⟨v, hv, bX, jv, Sv⟩ := alloc_t u x y
 have su := ju.size
 have sv := jv.size
 have bA2 : QBox v (w.heap.size + 1) a := ((later ju jv).block _ S2').trans bA
 have bB2 : QBox v (w.heap.size + 1 + 1) b := ((later ju jv).block _ S3).trans bB
 have rA := drow_on hA (later jw (later ju jv))
 have rB := drow_on hB (later jw (later ju jv))
 have rx2 : DRow v 0 v.heap.size x := (rx.below jv (by omega)).more (Nat.zero_le _) (by omega)
 have ry2 : DRow v 0 v.heap.size y := (ry.below jv (Nat.le_refl _)).more (Nat.zero_le _) (by omega)
 have bb := later jw (later ju jv)
 have rA1 := QBox.range bA2
 have rXl := TBox.low bX
 have rXh := TBox.high bX
 obtain ⟨t1, ht1⟩ : ∃ t, isD lo a = t := ⟨_, rfl⟩
 obtain ⟨t2, ht2⟩ : ∃ t, isD hi b = t := ⟨_, rfl⟩
 have H1 := Lib.hid ((isD_is ix a).trans ht1)
 have H2 := Lib.hid ((isD_is iy b).trans ht2)
 have HV : Hid (r = (decide (code = 0) && (t1 && t2))) := Lib.hid (by rw [← HR.out, toldB, ht1, ht2])
 clear ht1 ht2 HR HH ix iy
 by_cases c0 : code = 0
 · subst c0
   go_wp2_with (first
    | (refine wpList_store_nw rfl 32 (.tmp 11) (.tmp 18) rfl _ #[.bool x.s, .slice x.A x.n x.c, .int .i64 x.e, .bool y.s, .slice y.A y.n y.c, .int .i64 y.e] rfl rfl (by kernel_rfl) rfl (all_oneCell_toArray (cells6D_one x y)) ?_; rw [hv])
    | (refine wpList_load_midG (by rfl) 24 (.tmp 23) rfl u.heap.size 0 rfl [.bool x.s, .slice x.A x.n x.c, .int .i64 x.e] _ rXl Tryz.underlying24 rfl (by kernel_rfl) ?_)
    | (refine wpList_load_midG (by rfl) 24 (.tmp 8) rfl (w.heap.size + 1) 0 rfl [.bool a.s, .slice a.A a.n a.c, .int .i64 a.e] _ rA1 Tryz.underlying24 rfl (by kernel_rfl) ?_))
   refine (Pa.dyadSame_any v _ _ _ _ _ _ _ _ _ _ _ _ rx2 rA t1 H1.out).mono ?_
   rintro e' v1 ⟨rfl, k1⟩
   try clear hv
   clear rA1 rXl rXh
   cases t1
   · obtain rfl : r = false := HV.out
     clear HV H1 H2
     go_wp2
     go_ret
     exact ⟨rfl, later bb k1⟩
   · obtain rfl : r = t2 := by rw [HV.out]; simp
     have rXh := TBox.high (box_later bX k1 Sv)
     have rB1 := QBox.range (box_later bB2 k1 (by omega))
     go_wp2_with (first
      | (refine wpList_load_midG (by rfl) 24 (.tmp 29) rfl u.heap.size 3 rfl [.bool y.s, .slice y.A y.n y.c, .int .i64 y.e] _ rXh Tryz.underlying24 rfl (by kernel_rfl) ?_)
      | (refine wpList_load_midG (by rfl) 24 (.tmp 9) rfl (w.heap.size + 1 + 1) 0 rfl [.bool b.s, .slice b.A b.n b.c, .int .i64 b.e] _ rB1 Tryz.underlying24 rfl (by kernel_rfl) ?_))
     refine (Pa.dyadSame_any v1 _ _ _ _ _ _ _ _ _ _ _ _ (drow_on ry2 k1) (drow_on rB k1) r H2.out).mono ?_
     rintro e' v2 ⟨rfl, k2⟩
     clear HV H1 H2 rXh rB1
     have fin := later bb (later k1 k2)
     cases r
     · go_wp2
       go_ret
       exact ⟨rfl, fin⟩
     · go_wp2
       go_ret
       exact ⟨rfl, fin⟩
 · obtain rfl : r = false := by rw [HV.out, decide_eq_false c0]; rfl
   have c1 : (code == 0) = false := by simpa using c0
   clear HV H1 H2
   go_wp2_with (first
    | (refine wpList_store_nw rfl 32 (.tmp 11) (.tmp 18) rfl _ #[.bool x.s, .slice x.A x.n x.c, .int .i64 x.e, .bool y.s, .slice y.A y.n y.c, .int .i64 y.e] rfl rfl (by kernel_rfl) rfl (all_oneCell_toArray (cells6D_one x y)) ?_; rw [hv]))
   go_ret
   exact ⟨rfl, bb⟩
end Ma
end Go.Proofs.YtmbppgjhdcmckaaGreatDoor
namespace Go.Proofs.YtmbppgjhdcmckaaGreatDoor
open Go.RowKit
namespace Ma
open Dp Dy
def fourR (a b c d : Dn) (x : Nat) : Dn := if x = 0 then a else if x = 1 then b else if x = 2 then c else d
theorem fourR_may {a b c d : Dn} (ha : a.May) (hb : b.May) (hc : c.May) (hd : d.May) : MayR (fourR a b c d) := four ha hb hc hd
theorem fourR_is {a b c d : Dn} {m : Mv} (ha : Is a m.S) (hb : Is b m.W) (hc : Is c m.C) (hd : Is d m.A) : IsM (fourR a b c d) m := four ha hb hc hd
theorem is_over {x : Dv} {m e : Nat} (h1 : x.s = false) (h2 : x.e = (e : Int)) (h3 : x.xs = [(m : Int)]) (h0 : m ≠ 0) (hm : m < 4294967296) : Is ⟨false, m, e⟩ x := ⟨h1, h2, h3.trans (canon_one m h0 hm).symm⟩
/-- A part of these numbers that may be. -/
theorem part_may {w : World} {lo hi : Nat} {p : Pv} {R : Nat → Dn} (hR : PRows w lo hi p) (h : IsM R p.M) (hr : MayR R) (hn : (R 1).neg = false) (h0 : (R 1).m = 0 → (R 0).m = 0) (hE : mayE p.h p.mn p.mx = true) (hC : Least.checkCode p.xs = 0) : mayP p = true := by
 have hs : p.M.share := (share_is hR.1 h hr).2 ⟨hn, h0⟩
 unfold mayP
 rw [badS_one.2 hs, hE, hC]
 rfl
theorem above_of {w : World} {lo hi : Nat} {b : Dn} {y : Dv} (hI : Ints w lo hi .u32 y.A y.n y.xs) (hy : Is b y) (hn : b.neg = false) (h0 : b.m ≠ 0) : aboveV y = true := by
 have h : y.n ≠ 0 := fun h => h0 ((hy.len hI).1 h)
 unfold aboveV
 rw [hy.1, hn]
 simp
 omega
theorem parts_at {w : World} {lo' hi' : Nat} {a b lo hi : Dn} {x y : Dv} {k : Nat} (hI : Ints w lo' hi' .u32 y.A y.n y.xs) (hx : Is a x) (hy : Is b y) (ha : a.May) (hb : b.May) (hn : b.neg = false) (h0 : b.m ≠ 0) (hk : k ≤ 64)
  (h1 : toD a b k a.neg = (lo, 0)) (h2 : toD a b k (!a.neg) = (hi, 0)) : partsX x y k = (lo, hi, 0) := by
 unfold partsX
 rw [if_neg (by rw [above_of hI hy hn h0]; simp), hx.1, hx.2.1, hx.2.2, hy.1, hy.2.1, hy.2.2, toX_dn ha hb hn h0 hk, toX_dn ha hb hn h0 hk, h1, h2]
 rfl
theorem count_at {w : World} {lo' hi' : Nat} {b n : Dn} {y : Dv} (hI : Ints w lo' hi' .u32 y.A y.n y.xs) (hy : Is b y) (hb : b.May) (hn : b.neg = false) (h0 : b.m ≠ 0) (h : nearD ⟨false, 1, 0⟩ b = (n, 0)) : countX y = (n, n, 0) := by
 have e : nearX false (canon 4294967296 1) 0 y.s y.xs y.e = (n, 0) := by
  rw [hy.1, hy.2.1, hy.2.2]
  exact (nearX_dn (a := ⟨false, 1, 0⟩) (sm 1 0 (by decide) (by decide) (by decide) (by decide)) hb hn h0).trans h
 unfold countX
 rw [if_neg (by rw [above_of hI hy hn h0]; simp), e]
 rfl
theorem ask_at {p : Pv} {kind k : Int} (hm : mayP p = true) (h0 : 0 ≤ k) (h1 : k ≤ 64) : askQ p kind k = kindX p kind k := by
 unfold askQ
 rw [if_neg (by rw [hm]; simp), if_neg (by omega)]
theorem isD_yes {r : Dn} {d : Dv} (h : Is r d) : isD r d = true := by
 unfold isD
 rw [h.1, h.2.1, h.2.2]
 exact Pa.Dy.same_refl _
theorem told_yes {T : Dn × Dn × Int} {lo hi : Dn} {a b : Dv} (h : T = (lo, hi, 0)) (ha : Is lo a) (hb : Is hi b) : toldB T a b = true := by
 rw [h]
 unfold toldB
 rw [isD_yes ha, isD_yes hb]
 rfl
theorem qn1  : toD (⟨false, 5, 0⟩ : Dn) (⟨false, 2, 0⟩ : Dn) 0 false = ((⟨false, 2, 0⟩ : Dn), 0) := by
 exact formed_of (K := 0) (sm _ _ (by decide) (by decide) (by decide) (by decide)) (by decide) (by decide) (by decide)
theorem qn2  : toD (⟨false, 5, 0⟩ : Dn) (⟨false, 2, 0⟩ : Dn) 0 true = ((⟨false, 3, 0⟩ : Dn), 0) := by
 exact formed_of (K := 0) (sm _ _ (by decide) (by decide) (by decide) (by decide)) (by decide) (by decide) (by decide)
theorem qn3 (b : Bool) : toD (⟨false, 5, 0⟩ : Dn) (⟨false, 2, 0⟩ : Dn) 1 b = ((⟨false, 5, 1⟩ : Dn), 0) := by
 cases b <;> exact formed_of (K := 1) (sm _ _ (by decide) (by decide) (by decide) (by decide)) (by decide) (by decide) (by decide)
theorem qn4 (b : Bool) : toD (⟨false, 3, 0⟩ : Dn) (⟨false, 1, 2⟩ : Dn) 9 b = ((⟨false, 12, 0⟩ : Dn), 0) := by
 cases b <;> exact formed_of (K := 9) (sm _ _ (by decide) (by decide) (by decide) (by decide)) (by decide) (by decide) (by decide)
theorem qn5 : nearD ⟨false, 1, 0⟩ (⟨false, 1, 2⟩ : Dn) = ((⟨false, 4, 0⟩ : Dn), 0) := formed_of (K := 0) (sm _ _ (by decide) (by decide) (by decide) (by decide)) (by decide) (by decide) (by decide)
theorem qn6 : nearD ⟨false, 1, 0⟩ (⟨false, 3, 3⟩ : Dn) = ((⟨false, 3, 0⟩ : Dn), 0) := formed_of (K := 0) (sm _ _ (by decide) (by decide) (by decide) (by decide)) (by decide) (by decide) (by decide)
/-- The chapter's part. -/
def heldR : Nat → Dn := fourR ⟨false, 5, 0⟩ ⟨false, 2, 0⟩ ⟨false, 1, 2⟩ ⟨false, 3, 0⟩
def HeldP (p : Pv) : Prop := IsM heldR p.M ∧ p.h = false ∧ p.mn = 0 ∧ p.mx = 0 ∧ p.n = 0 ∧ p.xs = []
theorem heldR_may : MayR heldR := fourR_may (sm _ _ (by decide) (by decide) (by decide) (by decide)) (sm _ _ (by decide) (by decide) (by decide) (by decide)) (sm _ _ (by decide) (by decide) (by decide) (by decide)) (sm _ _ (by decide) (by decide) (by decide) (by decide))
section
variable {w : World} {lo hi : Nat} {p : Pv} (hR : PRows w lo hi p) (h : HeldP p)
include hR h
theorem held_may : mayP p = true := by
 obtain ⟨a, b, c, d, _, e⟩ := h
 exact part_may hR a heldR_may rfl (fun h => absurd h (by decide)) (by rw [b, c, d]; rfl) (by rw [e]; rfl)
theorem qa1 : askQ p 1 0 = (⟨false, 4, 0⟩, ⟨false, 4, 0⟩, 0) := (ask_at (held_may hR h) (by decide) (by decide)).trans (count_at hR.1.C (h.1 2 (by decide)) (heldR_may 2 (by decide)) rfl (by decide) qn5)
theorem qa2 : askQ p 2 9 = (⟨false, 12, 0⟩, ⟨false, 12, 0⟩, 0) := (ask_at (held_may hR h) (by decide) (by decide)).trans (parts_at (k := 9) hR.1.C (h.1 3 (by decide)) (h.1 2 (by decide)) (heldR_may 3 (by decide)) (heldR_may 2 (by decide)) rfl (by decide) (by decide) (qn4 _) (qn4 _))
theorem qa3 : askQ p 3 0 = (⟨false, 2, 0⟩, ⟨false, 3, 0⟩, 0) := (ask_at (held_may hR h) (by decide) (by decide)).trans (parts_at (k := 0) hR.1.W (h.1 0 (by decide)) (h.1 1 (by decide)) (heldR_may 0 (by decide)) (heldR_may 1 (by decide)) rfl (by decide) (by decide) qn1 qn2)
theorem qa4 : askQ p 3 1 = (⟨false, 5, 1⟩, ⟨false, 5, 1⟩, 0) := (ask_at (held_may hR h) (by decide) (by decide)).trans (parts_at (k := 1) hR.1.W (h.1 0 (by decide)) (h.1 1 (by decide)) (heldR_may 0 (by decide)) (heldR_may 1 (by decide)) rfl (by decide) (by decide) (qn3 _) (qn3 _))
end
theorem qa5 {w : World} {lo hi : Nat} {x : Dv} (hI : Ints w lo hi .u32 x.A x.n x.xs) (h : Is ⟨false, 3, 3⟩ x) : askQ ⟨⟨ZDv, ZDv, x, ZDv⟩, false, 0, 0, none, 0, 0, []⟩ 1 0 = (⟨false, 3, 0⟩, ⟨false, 3, 0⟩, 0) := by
 have hm : mayP ⟨⟨ZDv, ZDv, x, ZDv⟩, false, 0, 0, none, 0, 0, []⟩ = true :=
  part_may (R := fourR Dn.zero Dn.zero ⟨false, 3, 3⟩ Dn.zero) (w := w) (lo := lo) (hi := hi) ⟨⟨rowZ _ _ _, rowZ _ _ _, hI, rowZ _ _ _⟩, Ints.nil_ ..⟩ (fourR_is isZ isZ h isZ) (fourR_may zero_may zero_may (sm _ _ (by decide) (by decide) (by decide) (by decide)) zero_may) rfl (fun _ => rfl) rfl rfl
 exact (ask_at hm (by decide) (by decide)).trans (count_at hI h (sm _ _ (by decide) (by decide) (by decide) (by decide)) rfl (by decide) qn6)
theorem qa6 : askQ ZPv 1 0 = (Dn.zero, Dn.zero, 6) := by
 have hm : mayP ZPv = true :=
  part_may (R := fourR Dn.zero Dn.zero Dn.zero Dn.zero) (w := default) (lo := 0) (hi := 0) ⟨⟨rowZ _ _ _, rowZ _ _ _, rowZ _ _ _, rowZ _ _ _⟩, Ints.nil_ ..⟩ (fourR_is isZ isZ isZ isZ) (fourR_may zero_may zero_may zero_may zero_may) rfl (fun _ => rfl) rfl rfl
 refine (ask_at hm (by decide) (by decide)).trans ?_
 show countX ZDv = _
 unfold countX
 exact if_pos rfl
end Ma
end Go.Proofs.YtmbppgjhdcmckaaGreatDoor
namespace Go.Proofs.YtmbppgjhdcmckaaGreatDoor
open Go.RowKit
namespace Ma
open Dp Dy
set_option maxHeartbeats 6400000 in
set_option maxRecDepth 100000 in
/-- headcountlaw25.held. -/
theorem held_any (w : World) :
  Calls Tryz.prog 17 #[] w fun e w' => ∃ q : Pv, e = .returned (.agg #[.bool q.M.S.s, .slice q.M.S.A q.M.S.n q.M.S.c, .int .i64 q.M.S.e, .bool q.M.W.s, .slice q.M.W.A q.M.W.n q.M.W.c, .int .i64 q.M.W.e, .bool q.M.C.s, .slice q.M.C.A q.M.C.n q.M.C.c, .int .i64 q.M.C.e, .bool q.M.A.s, .slice q.M.A.A q.M.A.n q.M.A.c, .int .i64 q.M.A.e, .bool q.h, .int .i64 q.mn, .int .i64 q.mx, .slice q.A q.n q.c]) ∧ HeldP q ∧ Below w.heap.size w w' ∧ PRows w' w.heap.size w'.heap.size q := by
 obtain ⟨w1, hw, bZ, j1, S1⟩ := alloc_zp w
 have lw1 := j1.size
 go_enter Tryz.func17, Tryz.ntmps17
 go_wp2_with fail
 refine (Of_any w1 5 (by decide) (by decide) false 5 rfl rfl).mono ?_
 rintro e' w2 ⟨A1, n1, rfl, j2, I1⟩
 go_wp2_with fail
 refine (Of_any w2 2 (by decide) (by decide) false 2 rfl rfl).mono ?_
 rintro e' w3 ⟨A2, n2, rfl, j3, I2⟩
 go_wp2_with fail
 refine (over_any w3 1 2 (by decide) (by decide)).mono ?_
 rintro e' w4 ⟨x, rfl, h1, h2, h3, h4, j4, I3⟩
 have HX := Lib.hid (is_over (m := 1) (e := 2) h1 h2 h3 (by decide) (by decide))
 clear h1 h2 h3 h4
 go_wp2_with fail
 refine (Of_any w4 3 (by decide) (by decide) false 3 rfl rfl).mono ?_
 rintro e' w5 ⟨A3, n3, rfl, j5, I4⟩
 have s2 := j2.size
 have s3 := j3.size
 have s4 := j4.size
 have s5 := j5.size
 have jb := later j1 (later j2 (later j3 (later j4 j5)))
 have bz : PBox w5 w.heap.size ZPv := ((later j2 (later j3 (later j4 j5))).block _ S1).trans bZ
 obtain ⟨U, hU, bU, hb, hf, l5, l6⟩ := part_into bz ⟨⟨⟨false, A1, n1, n1, 0, canon 4294967296 5⟩, ⟨false, A2, n2, n2, 0, canon 4294967296 2⟩, x, ⟨false, A3, n3, n3, 0, canon 4294967296 3⟩⟩, false, 0, 0, none, 0, 0, []⟩
 have th := bz.there
 replace hU : w5.setCells w.heap.size 0 (#[.bool false, .slice A1 n1 n1, .int .i64 0, .bool false, .slice A2 n2 n2, .int .i64 0, .bool x.s, .slice x.A x.n x.c, .int .i64 x.e, .bool false, .slice A3 n3 n3, .int .i64 0, .bool false, .int .i64 0, .int .i64 0, .slice none 0 0] : Array Value).toList = U := hU
 have HU := Lib.hid hU
 clear hU
 have fin := hb _ _ jb (Nat.le_refl _)
 obtain ⟨Q, hQ⟩ : ∃ q : Pv, q = ⟨⟨⟨false, A1, n1, n1, 0, canon 4294967296 5⟩, ⟨false, A2, n2, n2, 0, canon 4294967296 2⟩, x, ⟨false, A3, n3, n3, 0, canon 4294967296 3⟩⟩, false, 0, 0, none, 0, 0, []⟩ := ⟨_, rfl⟩
 rw [← hQ] at bU
 have RU : PRows U w.heap.size U.heap.size Q := by
  rw [hQ]
  exact ⟨⟨(intsR (I1.below (later j3 (later j4 j5)) (Nat.le_refl _)) (w' := U) (fun b h1 h2 => hf b (by omega))).more (by omega) (by omega), (intsR (I2.below (later j4 j5) (Nat.le_refl _)) (w' := U) (fun b h1 h2 => hf b (by omega))).more (by omega) (by omega), (intsR (I3.below j5 (Nat.le_refl _)) (w' := U) (fun b h1 h2 => hf b (by omega))).more (by omega) (by omega), (intsR I4 (w' := U) (fun b h1 h2 => hf b (by omega))).more (by omega) (by omega)⟩, Ints.nil_ ..⟩
 have PO : HeldP Q := by
  rw [hQ]
  exact ⟨fourR_is ⟨rfl, rfl, rfl⟩ ⟨rfl, rfl, rfl⟩ HX.out ⟨rfl, rfl, rfl⟩, rfl, rfl, rfl, rfl, rfl⟩
 clear I1 I2 I3 I4 hQ bz
 go_wp2_with (first
  | ((refine wpList_store_mid rfl 30 (.tmp 0) (.tmp 6) rfl w.heap.size 0 #[.bool false, .slice A1 n1 n1, .int .i64 0, .bool false, .slice A2 n2 n2, .int .i64 0, .bool x.s, .slice x.A x.n x.c, .int .i64 x.e, .bool false, .slice A3 n3 n3, .int .i64 0, .bool false, .int .i64 0, .int .i64 0, .slice none 0 0] rfl rfl th (by kernel_rfl) (all_oneCell_toArray (cells16_one ⟨⟨⟨false, A1, n1, n1, 0, canon 4294967296 5⟩, ⟨false, A2, n2, n2, 0, canon 4294967296 2⟩, x, ⟨false, A3, n3, n3, 0, canon 4294967296 3⟩⟩, false, 0, 0, none, 0, 0, []⟩)) ?_); rw [HU.out]))
 exact bodyPost_ret (results_cell_row Tryz.results17 _ _ w.heap.size 30 #[.bool Q.M.S.s, .slice Q.M.S.A Q.M.S.n Q.M.S.c, .int .i64 Q.M.S.e, .bool Q.M.W.s, .slice Q.M.W.A Q.M.W.n Q.M.W.c, .int .i64 Q.M.W.e, .bool Q.M.C.s, .slice Q.M.C.A Q.M.C.n Q.M.C.c, .int .i64 Q.M.C.e, .bool Q.M.A.s, .slice Q.M.A.A Q.M.A.n Q.M.A.c, .int .i64 Q.M.A.e, .bool Q.h, .int .i64 Q.mn, .int .i64 Q.mx, .slice Q.A Q.n Q.c] (0, 0) _ rfl bU Tryz.underlying30 rfl (by kernel_rfl)) rfl ⟨Q, rfl, PO, fin, RU⟩
set_option maxHeartbeats 51200000 in
set_option maxRecDepth 100000 in
/-- headcountlaw25.alive. -/
theorem alive25_any (w : World) (hT : Tab w) : Calls Tryz.prog 22 #[] w fun e w' => e = .returned (.bool true) ∧ Below w.heap.size w w' := by
 go_enter Tryz.func22, Tryz.ntmps22
 go_wp2_with fail
 refine (held_any w).mono ?_
 rintro e' v1 ⟨p, rfl, P, j2, Rp⟩
 try clear hw
 replace P := Lib.hid P
 have hRp := Rp.more (Nat.zero_le _) (Nat.le_refl _)
 obtain ⟨u3, h6, bp, j4, s5⟩ := alloc_p v1 p
 replace h6 : v1.alloc (.cells #[.bool p.M.S.s, .slice p.M.S.A p.M.S.n p.M.S.c, .int .i64 p.M.S.e, .bool p.M.W.s, .slice p.M.W.A p.M.W.n p.M.W.c, .int .i64 p.M.W.e, .bool p.M.C.s, .slice p.M.C.A p.M.C.n p.M.C.c, .int .i64 p.M.C.e, .bool p.M.A.s, .slice p.M.A.A p.M.A.n p.M.A.c, .int .i64 p.M.A.e, .bool p.h, .int .i64 p.mn, .int .i64 p.mx, .slice p.A p.n p.c] 30) = u3 := h6
 go_wp2_with (first | (refine wpList_store_nw rfl 30 (.tmp 1) (.tmp 5) rfl _ #[.bool p.M.S.s, .slice p.M.S.A p.M.S.n p.M.S.c, .int .i64 p.M.S.e, .bool p.M.W.s, .slice p.M.W.A p.M.W.n p.M.W.c, .int .i64 p.M.W.e, .bool p.M.C.s, .slice p.M.C.A p.M.C.n p.M.C.c, .int .i64 p.M.C.e, .bool p.M.A.s, .slice p.M.A.A p.M.A.n p.M.A.c, .int .i64 p.M.A.e, .bool p.h, .int .i64 p.mn, .int .i64 p.mx, .slice p.A p.n p.c] rfl rfl (by kernel_rfl) rfl (all_oneCell_toArray (cells16_one p)) ?_; rw [h6]))
 try clear h6
 refine (over_any u3 3 3 (by decide) (by decide)).mono ?_
 rintro e' v7 ⟨x3, rfl, h1, h2, h3, h4, j8, I3⟩
 try clear hw
 have HX := Lib.hid (is_over (m := 3) (e := 3) h1 h2 h3 (by decide) (by decide))
 clear h1 h2 h3 h4
 have dx3 : DRow v7 0 v7.heap.size x3 := ints_all I3
 have Q5 := Lib.hid (qa5 I3 HX.out)
 have hR3 : PRows v7 0 v7.heap.size (⟨⟨ZDv, ZDv, x3, ZDv⟩, false, 0, 0, none, 0, 0, []⟩ : Pv) := ⟨⟨rowZ _ _ _, rowZ _ _ _, dx3, rowZ _ _ _⟩, Ints.nil_ ..⟩
 clear I3 dx3
 obtain ⟨u9, h12, b3, j10, s11⟩ := alloc_p v7 ⟨⟨ZDv, ZDv, x3, ZDv⟩, false, 0, 0, none, 0, 0, []⟩
 replace h12 : v7.alloc (.cells #[.bool false, .slice none 0 0, .int .i64 0, .bool false, .slice none 0 0, .int .i64 0, .bool x3.s, .slice x3.A x3.n x3.c, .int .i64 x3.e, .bool false, .slice none 0 0, .int .i64 0, .bool false, .int .i64 0, .int .i64 0, .slice none 0 0] 30) = u9 := h12
 go_wp2_with (first | (refine wpList_store_nw rfl 30 (.tmp 2) (.tmp 8) rfl _ #[.bool false, .slice none 0 0, .int .i64 0, .bool false, .slice none 0 0, .int .i64 0, .bool x3.s, .slice x3.A x3.n x3.c, .int .i64 x3.e, .bool false, .slice none 0 0, .int .i64 0, .bool false, .int .i64 0, .int .i64 0, .slice none 0 0] rfl rfl (by kernel_rfl) rfl (all_oneCell_toArray (cells16_one ⟨⟨⟨false, none, 0, 0, 0, []⟩, ⟨false, none, 0, 0, 0, []⟩, x3, ⟨false, none, 0, 0, 0, []⟩⟩, false, 0, 0, none, 0, 0, []⟩)) ?_; rw [h12]))
 try clear h12
 refine (Ask_any u9 ZPv ⟨⟨rowZ _ _ _, rowZ _ _ _, rowZ _ _ _, rowZ _ _ _⟩, Ints.nil_ ..⟩ (tab_later hT (later j2 (later j4 (later j8 j10)))) 1 0 Dn.zero Dn.zero 6 qa6).mono ?_
 rintro e' v13 ⟨x, y, B, rfl, ix, iy, j14, l1, l2, rx, ry⟩
 try clear hw
 clear ix iy rx ry l1 l2
 obtain ⟨ut, ht, bT, jt, st⟩ := alloc_t v13 x y
 go_upto_region 4 with (first | (refine wpList_store_nw rfl 32 (.tmp 3) (.tmp 12) rfl _ #[.bool x.s, .slice x.A x.n x.c, .int .i64 x.e, .bool y.s, .slice y.A y.n y.c, .int .i64 y.e] rfl rfl (by kernel_rfl) rfl (all_oneCell_toArray (cells6D_one x y)) ?_; rw [ht]))
 try clear ht
 clear bT st
 try clear hw
 refine region_E (Keeps ut) [] (m := 33) (L := #[zF,zF,zF,zF,zF,zF,zF,zF,zF,zF,zF,zF,zF,zF,zF,zF,zF,zF,zF,zF,zF,zF,zF,zF,zF,zF,zF,zF,zF,zF,zF,zF,zF]) (by kernel_rfl) (by rfl) (by rfl) ?_
 have j16 : Below ut.heap.size ut ut.drew := (Below.refl _ _).drew
 generalize ut.drew = v15 at *
 have kpy17 : Keeps ut v15 := fun p hp => Below.block j16 p hp
 refine readE (i := 0) (L := #[zT,zF,zF,zF,zF,zF,zF,zF,zF,zF,zF,zF,zF,zF,zF,zF,zF,zF,zF,zF,zF,zF,zF,zF,zF,zF,zF,zF,zF,zF,zF,zF,zF]) (v := .agg #[.bool p.M.S.s, .slice p.M.S.A p.M.S.n p.M.S.c, .int .i64 p.M.S.e, .bool p.M.W.s, .slice p.M.W.A p.M.W.n p.M.W.c, .int .i64 p.M.W.e, .bool p.M.C.s, .slice p.M.C.A p.M.C.n p.M.C.c, .int .i64 p.M.C.e, .bool p.M.A.s, .slice p.M.A.A p.M.A.n p.M.A.c, .int .i64 p.M.A.e, .bool p.h, .int .i64 p.mn, .int .i64 p.mx, .slice p.A p.n p.c]) rfl (by rfl) (by kernel_rfl) (by kernel_rfl) (by kernel_rfl) (fun _ _ _ h => h) (by assumption) (by rfl) ?y17 ?z18
 case y17 =>
  intro w' h1
  exact run_load_op 30 (.tmp 1) rfl (v1.heap.size) 0 rfl (cells16 p) _ (PBox.range ((h1 _ (Nat.lt_of_lt_of_le s5 (Below.size (later j8 (later j10 (later j14 jt)))))).trans (box_later bp (later j8 (later j10 (later j14 jt))) s5))) Tryz.underlying30 rfl (by kernel_rfl)
 try simp only [Act.put, zp]
 refine stepK (i := 1) (L := #[zT,zT,zF,zF,zF,zF,zF,zF,zF,zF,zF,zF,zF,zF,zF,zF,zF,zF,zF,zF,zF,zF,zF,zF,zF,zF,zF,zF,zF,zF,zF,zF,zF]) rfl (by rfl) (by kernel_rfl) (by rfl) (fun K hK => ?_)
 go_simp
 go_at_call 19
 refine (Of_any v15 4 (by decide) (by decide) false 4 rfl rfl).mono ?_
 rintro e' v19 ⟨O1, m1, rfl, j20, J1⟩
 have D1 : DRow v19 0 v19.heap.size ⟨false, O1, m1, m1, 0, canon 4294967296 4⟩ := ints_all J1
 clear J1
 refine hK _ _ ⟨fun _ _ => fun p hp => Below.block (later j16 j20) p hp, ?_⟩
 clear hK K
 try simp only []
 refine stepK (i := 2) (L := #[zT,zT,zT,zF,zF,zF,zF,zF,zF,zF,zF,zF,zF,zF,zF,zF,zF,zF,zF,zF,zF,zF,zF,zF,zF,zF,zF,zF,zF,zF,zF,zF,zF]) rfl (by rfl) (by kernel_rfl) (by rfl) (fun K hK => ?_)
 go_simp
 go_at_call 19
 refine (Of_any v19 4 (by decide) (by decide) false 4 rfl rfl).mono ?_
 rintro e' v21 ⟨O2, m2, rfl, j22, J2⟩
 have D2 : DRow v21 0 v21.heap.size ⟨false, O2, m2, m2, 0, canon 4294967296 4⟩ := ints_all J2
 clear J2
 refine hK _ _ ⟨fun _ _ => fun p hp => Below.block (later j16 (later j20 j22)) p hp, ?_⟩
 clear hK K
 try simp only []
 refine stepK (i := 3) (L := #[zT,zT,zT,zT,zF,zF,zF,zF,zF,zF,zF,zF,zF,zF,zF,zF,zF,zF,zF,zF,zF,zF,zF,zF,zF,zF,zF,zF,zF,zF,zF,zF,zF]) rfl (by rfl) (by kernel_rfl) (by rfl) (fun K hK => ?_)
 go_simp
 go_at_call 23
 refine (told_any v21 p (PRows.on hRp (later j4 (later j8 (later j10 (later j14 (later jt (later j16 (later j20 j22)))))))) (tab_later hT (later j2 (later j4 (later j8 (later j10 (later j14 (later jt (later j16 (later j20 j22))))))))) 1 0 ⟨false, O1, m1, m1, 0, canon 4294967296 4⟩ ⟨false, O2, m2, m2, 0, canon 4294967296 4⟩ (ints_on D1 j22) D2 true (told_yes (qa1 hRp P.out) ⟨rfl, rfl, rfl⟩ ⟨rfl, rfl, rfl⟩)).mono ?_
 rintro e' v23 ⟨rfl, j24⟩
 refine hK _ _ ⟨fun _ _ => fun p hp => Below.block (later j16 (later j20 (later j22 j24))) p hp, ?_⟩
 clear hK K
 try simp only []
 refine zE 4 #[zT,zT,zT,zT,zT,zF,zF,zF,zF,zF,zF,zF,zF,zF,zF,zF,zF,zF,zF,zF,zF,zF,zF,zF,zF,zF,zF,zF,zF,zF,zF,zF,zF] ?_ rfl ?hy5 ?rest5
 case hy5 => intro w; go_simp; (try with_reducible rfl)
 try simp only [Act.put, zp]
 have kpy25 : Keeps ut v23 := fun p hp => Below.block (later j16 (later j20 (later j22 j24))) p hp
 refine readE (i := 5) (L := #[zT,zT,zT,zT,zT,zT,zF,zF,zF,zF,zF,zF,zF,zF,zF,zF,zF,zF,zF,zF,zF,zF,zF,zF,zF,zF,zF,zF,zF,zF,zF,zF,zF]) (v := .agg #[.bool p.M.S.s, .slice p.M.S.A p.M.S.n p.M.S.c, .int .i64 p.M.S.e, .bool p.M.W.s, .slice p.M.W.A p.M.W.n p.M.W.c, .int .i64 p.M.W.e, .bool p.M.C.s, .slice p.M.C.A p.M.C.n p.M.C.c, .int .i64 p.M.C.e, .bool p.M.A.s, .slice p.M.A.A p.M.A.n p.M.A.c, .int .i64 p.M.A.e, .bool p.h, .int .i64 p.mn, .int .i64 p.mx, .slice p.A p.n p.c]) rfl (by rfl) (by kernel_rfl) (by kernel_rfl) (by kernel_rfl) (fun _ _ _ h => h) (by assumption) (by rfl) ?y25 ?z26
 case y25 =>
  intro w' h1
  exact run_load_op 30 (.tmp 1) rfl (v1.heap.size) 0 rfl (cells16 p) _ (PBox.range ((h1 _ (Nat.lt_of_lt_of_le s5 (Below.size (later j8 (later j10 (later j14 jt)))))).trans (box_later bp (later j8 (later j10 (later j14 jt))) s5))) Tryz.underlying30 rfl (by kernel_rfl)
 try simp only [Act.put, zp]
 refine stepK (i := 6) (L := #[zT,zT,zT,zT,zT,zT,zT,zF,zF,zF,zF,zF,zF,zF,zF,zF,zF,zF,zF,zF,zF,zF,zF,zF,zF,zF,zF,zF,zF,zF,zF,zF,zF]) rfl (by rfl) (by kernel_rfl) (by rfl) (fun K hK => ?_)
 go_simp
 go_at_call 19
 refine (Of_any v23 12 (by decide) (by decide) false 12 rfl rfl).mono ?_
 rintro e' v27 ⟨O3, m3, rfl, j28, J3⟩
 have D3 : DRow v27 0 v27.heap.size ⟨false, O3, m3, m3, 0, canon 4294967296 12⟩ := ints_all J3
 clear J3
 refine hK _ _ ⟨fun _ _ => fun p hp => Below.block (later j16 (later j20 (later j22 (later j24 j28)))) p hp, ?_⟩
 clear hK K
 try simp only []
 refine stepK (i := 7) (L := #[zT,zT,zT,zT,zT,zT,zT,zT,zF,zF,zF,zF,zF,zF,zF,zF,zF,zF,zF,zF,zF,zF,zF,zF,zF,zF,zF,zF,zF,zF,zF,zF,zF]) rfl (by rfl) (by kernel_rfl) (by rfl) (fun K hK => ?_)
 go_simp
 go_at_call 19
 refine (Of_any v27 12 (by decide) (by decide) false 12 rfl rfl).mono ?_
 rintro e' v29 ⟨O4, m4, rfl, j30, J4⟩
 have D4 : DRow v29 0 v29.heap.size ⟨false, O4, m4, m4, 0, canon 4294967296 12⟩ := ints_all J4
 clear J4
 refine hK _ _ ⟨fun _ _ => fun p hp => Below.block (later j16 (later j20 (later j22 (later j24 (later j28 j30))))) p hp, ?_⟩
 clear hK K
 try simp only []
 refine stepK (i := 8) (L := #[zT,zT,zT,zT,zT,zT,zT,zT,zT,zF,zF,zF,zF,zF,zF,zF,zF,zF,zF,zF,zF,zF,zF,zF,zF,zF,zF,zF,zF,zF,zF,zF,zF]) rfl (by rfl) (by kernel_rfl) (by rfl) (fun K hK => ?_)
 go_simp
 go_at_call 23
 refine (told_any v29 p (PRows.on hRp (later j4 (later j8 (later j10 (later j14 (later jt (later j16 (later j20 (later j22 (later j24 (later j28 j30))))))))))) (tab_later hT (later j2 (later j4 (later j8 (later j10 (later j14 (later jt (later j16 (later j20 (later j22 (later j24 (later j28 j30)))))))))))) 2 9 ⟨false, O3, m3, m3, 0, canon 4294967296 12⟩ ⟨false, O4, m4, m4, 0, canon 4294967296 12⟩ (ints_on D3 j30) D4 true (told_yes (qa2 hRp P.out) ⟨rfl, rfl, rfl⟩ ⟨rfl, rfl, rfl⟩)).mono ?_
 rintro e' v31 ⟨rfl, j32⟩
 refine hK _ _ ⟨fun _ _ => fun p hp => Below.block (later j16 (later j20 (later j22 (later j24 (later j28 (later j30 j32)))))) p hp, ?_⟩
 clear hK K
 try simp only []
 refine zE 9 #[zT,zT,zT,zT,zT,zT,zT,zT,zT,zT,zF,zF,zF,zF,zF,zF,zF,zF,zF,zF,zF,zF,zF,zF,zF,zF,zF,zF,zF,zF,zF,zF,zF] ?_ rfl ?hy10 ?rest10
 case hy10 => intro w; go_simp; (try with_reducible rfl)
 try simp only [Act.put, zp]
 refine zE 10 #[zT,zT,zT,zT,zT,zT,zT,zT,zT,zT,zT,zF,zF,zF,zF,zF,zF,zF,zF,zF,zF,zF,zF,zF,zF,zF,zF,zF,zF,zF,zF,zF,zF] ?_ rfl ?hy11 ?rest11
 case hy11 => intro w; go_simp; (try with_reducible rfl)
 try simp only [Act.put, zp]
 have kpy33 : Keeps ut v31 := fun p hp => Below.block (later j16 (later j20 (later j22 (later j24 (later j28 (later j30 j32)))))) p hp
 refine readE (i := 11) (L := #[zT,zT,zT,zT,zT,zT,zT,zT,zT,zT,zT,zT,zF,zF,zF,zF,zF,zF,zF,zF,zF,zF,zF,zF,zF,zF,zF,zF,zF,zF,zF,zF,zF]) (v := .agg #[.bool p.M.S.s, .slice p.M.S.A p.M.S.n p.M.S.c, .int .i64 p.M.S.e, .bool p.M.W.s, .slice p.M.W.A p.M.W.n p.M.W.c, .int .i64 p.M.W.e, .bool p.M.C.s, .slice p.M.C.A p.M.C.n p.M.C.c, .int .i64 p.M.C.e, .bool p.M.A.s, .slice p.M.A.A p.M.A.n p.M.A.c, .int .i64 p.M.A.e, .bool p.h, .int .i64 p.mn, .int .i64 p.mx, .slice p.A p.n p.c]) rfl (by rfl) (by kernel_rfl) (by kernel_rfl) (by kernel_rfl) (fun _ _ _ h => h) (by assumption) (by rfl) ?y33 ?z34
 case y33 =>
  intro w' h1
  exact run_load_op 30 (.tmp 1) rfl (v1.heap.size) 0 rfl (cells16 p) _ (PBox.range ((h1 _ (Nat.lt_of_lt_of_le s5 (Below.size (later j8 (later j10 (later j14 jt)))))).trans (box_later bp (later j8 (later j10 (later j14 jt))) s5))) Tryz.underlying30 rfl (by kernel_rfl)
 try simp only [Act.put, zp]
 refine stepK (i := 12) (L := #[zT,zT,zT,zT,zT,zT,zT,zT,zT,zT,zT,zT,zT,zF,zF,zF,zF,zF,zF,zF,zF,zF,zF,zF,zF,zF,zF,zF,zF,zF,zF,zF,zF]) rfl (by rfl) (by kernel_rfl) (by rfl) (fun K hK => ?_)
 go_simp
 go_at_call 19
 refine (Of_any v31 2 (by decide) (by decide) false 2 rfl rfl).mono ?_
 rintro e' v35 ⟨O5, m5, rfl, j36, J5⟩
 have D5 : DRow v35 0 v35.heap.size ⟨false, O5, m5, m5, 0, canon 4294967296 2⟩ := ints_all J5
 clear J5
 refine hK _ _ ⟨fun _ _ => fun p hp => Below.block (later j16 (later j20 (later j22 (later j24 (later j28 (later j30 (later j32 j36))))))) p hp, ?_⟩
 clear hK K
 try simp only []
 refine stepK (i := 13) (L := #[zT,zT,zT,zT,zT,zT,zT,zT,zT,zT,zT,zT,zT,zT,zF,zF,zF,zF,zF,zF,zF,zF,zF,zF,zF,zF,zF,zF,zF,zF,zF,zF,zF]) rfl (by rfl) (by kernel_rfl) (by rfl) (fun K hK => ?_)
 go_simp
 go_at_call 19
 refine (Of_any v35 3 (by decide) (by decide) false 3 rfl rfl).mono ?_
 rintro e' v37 ⟨O6, m6, rfl, j38, J6⟩
 have D6 : DRow v37 0 v37.heap.size ⟨false, O6, m6, m6, 0, canon 4294967296 3⟩ := ints_all J6
 clear J6
 refine hK _ _ ⟨fun _ _ => fun p hp => Below.block (later j16 (later j20 (later j22 (later j24 (later j28 (later j30 (later j32 (later j36 j38)))))))) p hp, ?_⟩
 clear hK K
 try simp only []
 refine stepK (i := 14) (L := #[zT,zT,zT,zT,zT,zT,zT,zT,zT,zT,zT,zT,zT,zT,zT,zF,zF,zF,zF,zF,zF,zF,zF,zF,zF,zF,zF,zF,zF,zF,zF,zF,zF]) rfl (by rfl) (by kernel_rfl) (by rfl) (fun K hK => ?_)
 go_simp
 go_at_call 23
 refine (told_any v37 p (PRows.on hRp (later j4 (later j8 (later j10 (later j14 (later jt (later j16 (later j20 (later j22 (later j24 (later j28 (later j30 (later j32 (later j36 j38)))))))))))))) (tab_later hT (later j2 (later j4 (later j8 (later j10 (later j14 (later jt (later j16 (later j20 (later j22 (later j24 (later j28 (later j30 (later j32 (later j36 j38))))))))))))))) 3 0 ⟨false, O5, m5, m5, 0, canon 4294967296 2⟩ ⟨false, O6, m6, m6, 0, canon 4294967296 3⟩ (ints_on D5 j38) D6 true (told_yes (qa3 hRp P.out) ⟨rfl, rfl, rfl⟩ ⟨rfl, rfl, rfl⟩)).mono ?_
 rintro e' v39 ⟨rfl, j40⟩
 refine hK _ _ ⟨fun _ _ => fun p hp => Below.block (later j16 (later j20 (later j22 (later j24 (later j28 (later j30 (later j32 (later j36 (later j38 j40))))))))) p hp, ?_⟩
 clear hK K
 try simp only []
 refine zE 15 #[zT,zT,zT,zT,zT,zT,zT,zT,zT,zT,zT,zT,zT,zT,zT,zT,zF,zF,zF,zF,zF,zF,zF,zF,zF,zF,zF,zF,zF,zF,zF,zF,zF] ?_ rfl ?hy16 ?rest16
 case hy16 => intro w; go_simp; (try with_reducible rfl)
 try simp only [Act.put, zp]
 refine zE 16 #[zT,zT,zT,zT,zT,zT,zT,zT,zT,zT,zT,zT,zT,zT,zT,zT,zT,zF,zF,zF,zF,zF,zF,zF,zF,zF,zF,zF,zF,zF,zF,zF,zF] ?_ rfl ?hy17 ?rest17
 case hy17 => intro w; go_simp; (try with_reducible rfl)
 try simp only [Act.put, zp]
 have kpy41 : Keeps ut v39 := fun p hp => Below.block (later j16 (later j20 (later j22 (later j24 (later j28 (later j30 (later j32 (later j36 (later j38 j40))))))))) p hp
 refine readE (i := 17) (L := #[zT,zT,zT,zT,zT,zT,zT,zT,zT,zT,zT,zT,zT,zT,zT,zT,zT,zT,zF,zF,zF,zF,zF,zF,zF,zF,zF,zF,zF,zF,zF,zF,zF]) (v := .agg #[.bool p.M.S.s, .slice p.M.S.A p.M.S.n p.M.S.c, .int .i64 p.M.S.e, .bool p.M.W.s, .slice p.M.W.A p.M.W.n p.M.W.c, .int .i64 p.M.W.e, .bool p.M.C.s, .slice p.M.C.A p.M.C.n p.M.C.c, .int .i64 p.M.C.e, .bool p.M.A.s, .slice p.M.A.A p.M.A.n p.M.A.c, .int .i64 p.M.A.e, .bool p.h, .int .i64 p.mn, .int .i64 p.mx, .slice p.A p.n p.c]) rfl (by rfl) (by kernel_rfl) (by kernel_rfl) (by kernel_rfl) (fun _ _ _ h => h) (by assumption) (by rfl) ?y41 ?z42
 case y41 =>
  intro w' h1
  exact run_load_op 30 (.tmp 1) rfl (v1.heap.size) 0 rfl (cells16 p) _ (PBox.range ((h1 _ (Nat.lt_of_lt_of_le s5 (Below.size (later j8 (later j10 (later j14 jt)))))).trans (box_later bp (later j8 (later j10 (later j14 jt))) s5))) Tryz.underlying30 rfl (by kernel_rfl)
 try simp only [Act.put, zp]
 refine stepK (i := 18) (L := #[zT,zT,zT,zT,zT,zT,zT,zT,zT,zT,zT,zT,zT,zT,zT,zT,zT,zT,zT,zF,zF,zF,zF,zF,zF,zF,zF,zF,zF,zF,zF,zF,zF]) rfl (by rfl) (by kernel_rfl) (by rfl) (fun K hK => ?_)
 go_simp
 go_at_call 18
 refine (over_any v39 5 1 (by decide) (by decide)).mono ?_
 rintro e' v43 ⟨X7, rfl, h1, h2, h3, h4, j44, J7⟩
 have H7 := Lib.hid (is_over (m := 5) (e := 1) h1 h2 h3 (by decide) (by decide))
 clear h1 h2 h3 h4
 have D7 : DRow v43 0 v43.heap.size X7 := ints_all J7
 clear J7
 refine hK _ _ ⟨fun _ _ => fun p hp => Below.block (later j16 (later j20 (later j22 (later j24 (later j28 (later j30 (later j32 (later j36 (later j38 (later j40 j44)))))))))) p hp, ?_⟩
 clear hK K
 try simp only []
 refine stepK (i := 19) (L := #[zT,zT,zT,zT,zT,zT,zT,zT,zT,zT,zT,zT,zT,zT,zT,zT,zT,zT,zT,zT,zF,zF,zF,zF,zF,zF,zF,zF,zF,zF,zF,zF,zF]) rfl (by rfl) (by kernel_rfl) (by rfl) (fun K hK => ?_)
 go_simp
 go_at_call 18
 refine (over_any v43 5 1 (by decide) (by decide)).mono ?_
 rintro e' v45 ⟨X8, rfl, h1, h2, h3, h4, j46, J8⟩
 have H8 := Lib.hid (is_over (m := 5) (e := 1) h1 h2 h3 (by decide) (by decide))
 clear h1 h2 h3 h4
 have D8 : DRow v45 0 v45.heap.size X8 := ints_all J8
 clear J8
 refine hK _ _ ⟨fun _ _ => fun p hp => Below.block (later j16 (later j20 (later j22 (later j24 (later j28 (later j30 (later j32 (later j36 (later j38 (later j40 (later j44 j46))))))))))) p hp, ?_⟩
 clear hK K
 try simp only []
 refine stepK (i := 20) (L := #[zT,zT,zT,zT,zT,zT,zT,zT,zT,zT,zT,zT,zT,zT,zT,zT,zT,zT,zT,zT,zT,zF,zF,zF,zF,zF,zF,zF,zF,zF,zF,zF,zF]) rfl (by rfl) (by kernel_rfl) (by rfl) (fun K hK => ?_)
 go_simp
 go_at_call 23
 refine (told_any v45 p (PRows.on hRp (later j4 (later j8 (later j10 (later j14 (later jt (later j16 (later j20 (later j22 (later j24 (later j28 (later j30 (later j32 (later j36 (later j38 (later j40 (later j44 j46))))))))))))))))) (tab_later hT (later j2 (later j4 (later j8 (later j10 (later j14 (later jt (later j16 (later j20 (later j22 (later j24 (later j28 (later j30 (later j32 (later j36 (later j38 (later j40 (later j44 j46)))))))))))))))))) 3 1 X7 X8 (ints_on D7 j46) D8 true (told_yes (qa4 hRp P.out) H7.out H8.out)).mono ?_
 rintro e' v47 ⟨rfl, j48⟩
 refine hK _ _ ⟨fun _ _ => fun p hp => Below.block (later j16 (later j20 (later j22 (later j24 (later j28 (later j30 (later j32 (later j36 (later j38 (later j40 (later j44 (later j46 j48)))))))))))) p hp, ?_⟩
 clear hK K
 try simp only []
 refine zE 21 #[zT,zT,zT,zT,zT,zT,zT,zT,zT,zT,zT,zT,zT,zT,zT,zT,zT,zT,zT,zT,zT,zT,zF,zF,zF,zF,zF,zF,zF,zF,zF,zF,zF] ?_ rfl ?hy22 ?rest22
 case hy22 => intro w; go_simp; (try with_reducible rfl)
 try simp only [Act.put, zp]
 refine zE 22 #[zT,zT,zT,zT,zT,zT,zT,zT,zT,zT,zT,zT,zT,zT,zT,zT,zT,zT,zT,zT,zT,zT,zT,zF,zF,zF,zF,zF,zF,zF,zF,zF,zF] ?_ rfl ?hy23 ?rest23
 case hy23 => intro w; go_simp; (try with_reducible rfl)
 try simp only [Act.put, zp]
 have kpy49 : Keeps ut v47 := fun p hp => Below.block (later j16 (later j20 (later j22 (later j24 (later j28 (later j30 (later j32 (later j36 (later j38 (later j40 (later j44 (later j46 j48)))))))))))) p hp
 refine readE (i := 23) (L := #[zT,zT,zT,zT,zT,zT,zT,zT,zT,zT,zT,zT,zT,zT,zT,zT,zT,zT,zT,zT,zT,zT,zT,zT,zF,zF,zF,zF,zF,zF,zF,zF,zF]) (v := .agg #[.bool false, .slice none 0 0, .int .i64 0, .bool false, .slice none 0 0, .int .i64 0, .bool x3.s, .slice x3.A x3.n x3.c, .int .i64 x3.e, .bool false, .slice none 0 0, .int .i64 0, .bool false, .int .i64 0, .int .i64 0, .slice none 0 0]) rfl (by rfl) (by kernel_rfl) (by kernel_rfl) (by kernel_rfl) (fun _ _ _ h => h) (by assumption) (by rfl) ?y49 ?z50
 case y49 =>
  intro w' h1
  exact run_load_op 30 (.tmp 2) rfl (v7.heap.size) 0 rfl (cells16 ⟨⟨ZDv, ZDv, x3, ZDv⟩, false, 0, 0, none, 0, 0, []⟩) _ (PBox.range ((h1 _ (Nat.lt_of_lt_of_le s11 (Below.size (later j14 jt)))).trans (box_later b3 (later j14 jt) s11))) Tryz.underlying30 rfl (by kernel_rfl)
 try simp only [Act.put, zp]
 refine stepK (i := 24) (L := #[zT,zT,zT,zT,zT,zT,zT,zT,zT,zT,zT,zT,zT,zT,zT,zT,zT,zT,zT,zT,zT,zT,zT,zT,zT,zF,zF,zF,zF,zF,zF,zF,zF]) rfl (by rfl) (by kernel_rfl) (by rfl) (fun K hK => ?_)
 go_simp
 go_at_call 19
 refine (Of_any v47 3 (by decide) (by decide) false 3 rfl rfl).mono ?_
 rintro e' v51 ⟨O9, m9, rfl, j52, J9⟩
 have D9 : DRow v51 0 v51.heap.size ⟨false, O9, m9, m9, 0, canon 4294967296 3⟩ := ints_all J9
 clear J9
 refine hK _ _ ⟨fun _ _ => fun p hp => Below.block (later j16 (later j20 (later j22 (later j24 (later j28 (later j30 (later j32 (later j36 (later j38 (later j40 (later j44 (later j46 (later j48 j52))))))))))))) p hp, ?_⟩
 clear hK K
 try simp only []
 refine stepK (i := 25) (L := #[zT,zT,zT,zT,zT,zT,zT,zT,zT,zT,zT,zT,zT,zT,zT,zT,zT,zT,zT,zT,zT,zT,zT,zT,zT,zT,zF,zF,zF,zF,zF,zF,zF]) rfl (by rfl) (by kernel_rfl) (by rfl) (fun K hK => ?_)
 go_simp
 go_at_call 19
 refine (Of_any v51 3 (by decide) (by decide) false 3 rfl rfl).mono ?_
 rintro e' v53 ⟨O10, m10, rfl, j54, J10⟩
 have D10 : DRow v53 0 v53.heap.size ⟨false, O10, m10, m10, 0, canon 4294967296 3⟩ := ints_all J10
 clear J10
 refine hK _ _ ⟨fun _ _ => fun p hp => Below.block (later j16 (later j20 (later j22 (later j24 (later j28 (later j30 (later j32 (later j36 (later j38 (later j40 (later j44 (later j46 (later j48 (later j52 j54)))))))))))))) p hp, ?_⟩
 clear hK K
 try simp only []
 refine stepK (i := 26) (L := #[zT,zT,zT,zT,zT,zT,zT,zT,zT,zT,zT,zT,zT,zT,zT,zT,zT,zT,zT,zT,zT,zT,zT,zT,zT,zT,zT,zF,zF,zF,zF,zF,zF]) rfl (by rfl) (by kernel_rfl) (by rfl) (fun K hK => ?_)
 go_simp
 go_at_call 23
 refine (told_any v53 ⟨⟨ZDv, ZDv, x3, ZDv⟩, false, 0, 0, none, 0, 0, []⟩ (PRows.on hR3 (later j10 (later j14 (later jt (later j16 (later j20 (later j22 (later j24 (later j28 (later j30 (later j32 (later j36 (later j38 (later j40 (later j44 (later j46 (later j48 (later j52 j54)))))))))))))))))) (tab_later hT (later j2 (later j4 (later j8 (later j10 (later j14 (later jt (later j16 (later j20 (later j22 (later j24 (later j28 (later j30 (later j32 (later j36 (later j38 (later j40 (later j44 (later j46 (later j48 (later j52 j54))))))))))))))))))))) 1 0 ⟨false, O9, m9, m9, 0, canon 4294967296 3⟩ ⟨false, O10, m10, m10, 0, canon 4294967296 3⟩ (ints_on D9 j54) D10 true (told_yes (Q5.out) ⟨rfl, rfl, rfl⟩ ⟨rfl, rfl, rfl⟩)).mono ?_
 rintro e' v55 ⟨rfl, j56⟩
 refine hK _ _ ⟨fun _ _ => fun p hp => Below.block (later j16 (later j20 (later j22 (later j24 (later j28 (later j30 (later j32 (later j36 (later j38 (later j40 (later j44 (later j46 (later j48 (later j52 (later j54 j56))))))))))))))) p hp, ?_⟩
 clear hK K
 try simp only []
 refine zE 27 #[zT,zT,zT,zT,zT,zT,zT,zT,zT,zT,zT,zT,zT,zT,zT,zT,zT,zT,zT,zT,zT,zT,zT,zT,zT,zT,zT,zT,zF,zF,zF,zF,zF] ?_ rfl ?hy28 ?rest28
 case hy28 => intro w; go_simp; (try with_reducible rfl)
 try simp only [Act.put, zp]
 refine zE 28 #[zT,zT,zT,zT,zT,zT,zT,zT,zT,zT,zT,zT,zT,zT,zT,zT,zT,zT,zT,zT,zT,zT,zT,zT,zT,zT,zT,zT,zT,zF,zF,zF,zF] ?_ rfl ?hy29 ?rest29
 case hy29 => intro w; go_simp; (try with_reducible rfl)
 try simp only [Act.put, zp]
 refine zE 29 #[zT,zT,zT,zT,zT,zT,zT,zT,zT,zT,zT,zT,zT,zT,zT,zT,zT,zT,zT,zT,zT,zT,zT,zT,zT,zT,zT,zT,zT,zT,zF,zF,zF] ?_ rfl ?hy30 ?rest30
 case hy30 => intro w; go_simp; (try with_reducible rfl)
 try simp only [Act.put, zp]
 refine zE 30 #[zT,zT,zT,zT,zT,zT,zT,zT,zT,zT,zT,zT,zT,zT,zT,zT,zT,zT,zT,zT,zT,zT,zT,zT,zT,zT,zT,zT,zT,zT,zT,zF,zF] ?_ rfl ?hy31 ?rest31
 case hy31 => intro w; go_simp; (try with_reducible rfl)
 try simp only [Act.put, zp]
 refine zE 31 #[zT,zT,zT,zT,zT,zT,zT,zT,zT,zT,zT,zT,zT,zT,zT,zT,zT,zT,zT,zT,zT,zT,zT,zT,zT,zT,zT,zT,zT,zT,zT,zT,zF] ?_ rfl ?hy32 ?rest32
 case hy32 => intro w; go_simp; (try with_reducible rfl)
 try simp only [Act.put, zp]
 refine zE 32 #[zT,zT,zT,zT,zT,zT,zT,zT,zT,zT,zT,zT,zT,zT,zT,zT,zT,zT,zT,zT,zT,zT,zT,zT,zT,zT,zT,zT,zT,zT,zT,zT,zT] ?_ rfl ?hy33 ?rest33
 case hy33 => intro w; go_simp; (try with_reducible rfl)
 try simp only [Act.put, zp]
 refine doneE (by kernel_rfl) ?_ _
 go_wp2
 go_ret
 exact ⟨rfl, (later j2 (later j4 (later j8 (later j10 (later j14 (later jt (later j16 (later j20 (later j22 (later j24 (later j28 (later j30 (later j32 (later j36 (later j38 (later j40 (later j44 (later j46 (later j48 (later j52 (later j54 j56)))))))))))))))))))))⟩
end Ma
end Go.Proofs.YtmbppgjhdcmckaaGreatDoor