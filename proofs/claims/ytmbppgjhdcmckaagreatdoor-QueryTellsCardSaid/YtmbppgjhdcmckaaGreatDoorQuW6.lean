/- query.Ask: a walk (printed by a program of mine). -/
import Derived.Test.YtmbppgjhdcmckaaGreatDoorQuW5
import Derived.Test.YtmbppgjhdcmckaaGreatDoorPsChk
namespace Go.Proofs.YtmbppgjhdcmckaaGreatDoor
open Go.RowKit
namespace Ma
open Dp Dy
/-- What a part tells that may be. -/
noncomputable def kindX (p : Pv) (kind k : Int) : Dn × Dn × Int :=
  if kind = 1 then countX p.M.C else if kind = 2 then partsX p.M.A p.M.C k else if kind = 3 then partsX p.M.S p.M.W k else
  if kind = 4 then evenX p.M k else if kind = 5 then endsX p.h p.mn p.mx else if kind = 6 then guessX p.xs else (Dn.zero, Dn.zero, 2)
/-- What a part tells. -/
noncomputable def askQ (p : Pv) (kind k : Int) : Dn × Dn × Int :=
  if mayP p = false then (Dn.zero, Dn.zero, 8) else if k < 0 ∨ 64 < k then (Dn.zero, Dn.zero, 2) else kindX p kind k
theorem mayP_ends {p : Pv} (h : mayP p = true) : (-9223372036854775808 ≤ p.mn ∧ p.mn ≤ 9223372036854775807) ∧ (-9223372036854775808 ≤ p.mx ∧ p.mx ≤ 9223372036854775807) ∧ Least.checkCode p.xs = 0 := by
  unfold mayP at h
  simp only [Bool.and_eq_true, decide_eq_true_eq] at h
  obtain ⟨_, h1, h2⟩ := h
  refine ⟨?_, ?_, h2⟩ <;> (unfold mayE at h1; split at h1 <;> simp only [decide_eq_true_eq] at h1 <;> omega)
theorem MBox.rangeM {w : World} {g : Nat} {m : Mv} (h : MBox w g m) : w.rangeAt g 0 (cells12P m) := fun j v hj => by
  rw [Nat.zero_add, cell_of_row w g j _ _ _ h]
  simpa [cells12P] using hj
set_option maxHeartbeats 25600000 in
set_option maxRecDepth 100000 in
/-- query.Ask. -/
theorem Ask_any (w : World) (p : Pv) (hR : PRows w 0 w.heap.size p) (hT : Tab w) (kind k : Int) (lo hi : Dn) (code : Int) (h : askQ p kind k = (lo, hi, code)) :
    Calls Tryz.prog 10 #[.agg #[.bool p.M.S.s, .slice p.M.S.A p.M.S.n p.M.S.c, .int .i64 p.M.S.e, .bool p.M.W.s, .slice p.M.W.A p.M.W.n p.M.W.c, .int .i64 p.M.W.e, .bool p.M.C.s, .slice p.M.C.A p.M.C.n p.M.C.c, .int .i64 p.M.C.e, .bool p.M.A.s, .slice p.M.A.A p.M.A.n p.M.A.c, .int .i64 p.M.A.e, .bool p.h, .int .i64 p.mn, .int .i64 p.mx, .slice p.A p.n p.c], .int .u8 kind, .int .i64 k] w (ToldR w lo hi code) := by
  obtain ⟨w1, hw1, bP, j1, S1⟩ := alloc_p w p
  obtain ⟨w2, hw2, bT, j2, S2⟩ := alloc_zt w1
  have s1 := j1.size
  have s2 := j2.size
  have z1 : w1.heap.size = w.heap.size + 1 := by rw [← hw1]; simp
  have jw : Below w.heap.size w w2 := j1.trans (j2.mono s1)
  have S1' : w.heap.size < w2.heap.size := by omega
  replace bP : PBox w2 w.heap.size p := (j2.block _ S1).trans bP
  subst hw1
  rw [z1] at bT S2
  obtain ⟨m, hm⟩ : ∃ m, mayP p = m := ⟨_, rfl⟩
  have HM := Lib.hid hm
  have HH := Lib.hid h
  clear hm h j1 j2
  go_enter Tryz.func10, Tryz.ntmps10
  have rP := PBox.range bP
  go_wp2_with (first | (refine wpList_load_mid rfl 30 (.tmp 3) rfl w.heap.size 0 rfl [.bool p.M.S.s, .slice p.M.S.A p.M.S.n p.M.S.c, .int .i64 p.M.S.e, .bool p.M.W.s, .slice p.M.W.A p.M.W.n p.M.W.c, .int .i64 p.M.W.e, .bool p.M.C.s, .slice p.M.C.A p.M.C.n p.M.C.c, .int .i64 p.M.C.e, .bool p.M.A.s, .slice p.M.A.A p.M.A.n p.M.A.c, .int .i64 p.M.A.e, .bool p.h, .int .i64 p.mn, .int .i64 p.mx, .slice p.A p.n p.c] _ rP Tryz.underlying30 rfl (by kernel_rfl) ?_))
  clear rP
  refine (CheckPart_any w2 p (PRows.on hR jw) m HM.out).mono ?_
  rintro e' v1 ⟨rfl, j2⟩
  try clear hw
  cases m
  · skip
    have h := HH.out
    unfold askQ at h
    rw [if_pos HM.out] at h
    injection h with h1 h2
    injection h2 with h2 h3
    subst h1 h2 h3
    clear HH HM
    have bz_ : TBox v1 (w.heap.size + 1) ZDv ZDv := (box_later bT j2 S2)
    obtain ⟨U_, hU_, bU_, hb_, hf_, l5_, l5'_⟩ := told_into bz_ ZDv ZDv
    have th_ := TBox.there bz_
    replace hU_ : v1.setCells ((w.heap.size + 1)) 0 (#[.bool false, .slice none 0 0, .int .i64 0, .bool false, .slice none 0 0, .int .i64 0] : Array Value).toList = U_ := hU_
    have HU_ := Lib.hid hU_
    clear hU_
    have fin_ := hb_ _ _ (later jw j2) (by omega)
    go_wp2_with (first | (refine wpList_store_mid rfl 32 (.tmp 6) (.tmp 15) rfl (w.heap.size + 1) 0 #[.bool false, .slice none 0 0, .int .i64 0, .bool false, .slice none 0 0, .int .i64 0] rfl rfl th_ (by kernel_rfl) (all_oneCell_toArray (cells6D_one ZDv ZDv)) ?_; rw [HU_.out]))
    exact bodyPost_ret (results_row_slot Tryz.results10 _ _ (w.heap.size + 1) 32 #[.bool false, .slice none 0 0, .int .i64 0, .bool false, .slice none 0 0, .int .i64 0] (0, 0) _ (.int .i64 8) rfl rfl bU_ Tryz.underlying32 rfl (by kernel_rfl)) rfl (told_zero _ _ _ fin_)
  · skip
    by_cases k0 : k < 0
    · skip
      have h := HH.out
      unfold askQ at h
      rw [if_neg (by rw [HM.out]; simp), if_pos (.inl k0)] at h
      injection h with h1 h2
      injection h2 with h2 h3
      subst h1 h2 h3
      clear HH HM
      have bz_ : TBox v1 (w.heap.size + 1) ZDv ZDv := (box_later bT j2 S2)
      obtain ⟨U_, hU_, bU_, hb_, hf_, l5_, l5'_⟩ := told_into bz_ ZDv ZDv
      have th_ := TBox.there bz_
      replace hU_ : v1.setCells ((w.heap.size + 1)) 0 (#[.bool false, .slice none 0 0, .int .i64 0, .bool false, .slice none 0 0, .int .i64 0] : Array Value).toList = U_ := hU_
      have HU_ := Lib.hid hU_
      clear hU_
      have fin_ := hb_ _ _ (later jw j2) (by omega)
      go_wp2_with (first | (refine wpList_store_mid rfl 32 (.tmp 6) (.tmp 23) rfl (w.heap.size + 1) 0 #[.bool false, .slice none 0 0, .int .i64 0, .bool false, .slice none 0 0, .int .i64 0] rfl rfl th_ (by kernel_rfl) (all_oneCell_toArray (cells6D_one ZDv ZDv)) ?_; rw [HU_.out]))
      exact bodyPost_ret (results_row_slot Tryz.results10 _ _ (w.heap.size + 1) 32 #[.bool false, .slice none 0 0, .int .i64 0, .bool false, .slice none 0 0, .int .i64 0] (0, 0) _ (.int .i64 2) rfl rfl bU_ Tryz.underlying32 rfl (by kernel_rfl)) rfl (told_zero _ _ _ fin_)
    · skip
      by_cases k1 : 64 < k
      · skip
        have h := HH.out
        unfold askQ at h
        rw [if_neg (by rw [HM.out]; simp), if_pos (.inr k1)] at h
        injection h with h1 h2
        injection h2 with h2 h3
        subst h1 h2 h3
        clear HH HM
        have bz_ : TBox v1 (w.heap.size + 1) ZDv ZDv := (box_later bT j2 S2)
        obtain ⟨U_, hU_, bU_, hb_, hf_, l5_, l5'_⟩ := told_into bz_ ZDv ZDv
        have th_ := TBox.there bz_
        replace hU_ : v1.setCells ((w.heap.size + 1)) 0 (#[.bool false, .slice none 0 0, .int .i64 0, .bool false, .slice none 0 0, .int .i64 0] : Array Value).toList = U_ := hU_
        have HU_ := Lib.hid hU_
        clear hU_
        have fin_ := hb_ _ _ (later jw j2) (by omega)
        go_wp2_with (first | (refine wpList_store_mid rfl 32 (.tmp 6) (.tmp 23) rfl (w.heap.size + 1) 0 #[.bool false, .slice none 0 0, .int .i64 0, .bool false, .slice none 0 0, .int .i64 0] rfl rfl th_ (by kernel_rfl) (all_oneCell_toArray (cells6D_one ZDv ZDv)) ?_; rw [HU_.out]))
        exact bodyPost_ret (results_row_slot Tryz.results10 _ _ (w.heap.size + 1) 32 #[.bool false, .slice none 0 0, .int .i64 0, .bool false, .slice none 0 0, .int .i64 0] (0, 0) _ (.int .i64 2) rfl rfl bU_ Tryz.underlying32 rfl (by kernel_rfl)) rfl (told_zero _ _ _ fin_)
      · skip
        replace HH := Lib.hid (show kindX p kind k = (lo, hi, code) by have h := HH.out; unfold askQ at h; rw [if_neg (by rw [HM.out]; simp), if_neg (by omega)] at h; exact h)
        have HE := Lib.hid (mayP_ends HM.out)
        clear HM
        have rM := PBox.mass (box_later bP j2 S1')
        obtain ⟨w3, hw3, bM, j3, S3⟩ := alloc_m v1 p.M
        go_upto_region 7 with (first
          | (refine wpList_load_mid rfl 26 (.tmp 24) rfl w.heap.size 0 rfl [.bool p.M.S.s, .slice p.M.S.A p.M.S.n p.M.S.c, .int .i64 p.M.S.e, .bool p.M.W.s, .slice p.M.W.A p.M.W.n p.M.W.c, .int .i64 p.M.W.e, .bool p.M.C.s, .slice p.M.C.A p.M.C.n p.M.C.c, .int .i64 p.M.C.e, .bool p.M.A.s, .slice p.M.A.A p.M.A.n p.M.A.c, .int .i64 p.M.A.e] _ rM Tryz.underlying26 rfl (by kernel_rfl) ?_)
          | (refine wpList_store_nw rfl 26 (.tmp 9) (.tmp 25) rfl _ #[.bool p.M.S.s, .slice p.M.S.A p.M.S.n p.M.S.c, .int .i64 p.M.S.e, .bool p.M.W.s, .slice p.M.W.A p.M.W.n p.M.W.c, .int .i64 p.M.W.e, .bool p.M.C.s, .slice p.M.C.A p.M.C.n p.M.C.c, .int .i64 p.M.C.e, .bool p.M.A.s, .slice p.M.A.A p.M.A.n p.M.A.c, .int .i64 p.M.A.e] rfl rfl (by kernel_rfl) rfl (all_oneCell_toArray (cells12P_one p.M)) ?_))
        try rw [hw3]
        try clear hw3
        clear rM
        by_cases c1 : kind = 1
        · skip
          subst c1
          obtain ⟨⟨q3_0, q3_1, q3_2, q3_3, q3_4, q3_5, q3_6, q3_7, q3_8, q3_9, q3_10, q3_11⟩, q3f⟩ := MBox.cells bM
          go_wp2_with fail
          refine (qcount_any w3 p.M.C (PRows.on hR (later jw (later j2 j3))).M.C).mono ?_
          rintro e' v4 ⟨V, rfl, TV, j5⟩
          clear q3_0 q3_1 q3_2 q3_3 q3_4 q3_5 q3_6 q3_7 q3_8 q3_9 q3_10 q3_11 q3f
          try clear hw
          obtain ⟨cs, rfl, hV⟩ := TV
          rw [show countX p.M.C = kindX p 1 k by unfold kindX; rw [if_pos rfl], HH.out] at hV
          clear HH HE
          have sz_ := Below.size (later j2 (later j3 j5))
          have szA_ := Below.size (later jw (later j2 (later j3 j5)))
          have bT_ : TBox v4 (w.heap.size + 1) ZDv ZDv := (box_later bT (later j2 (later j3 j5)) S2)
          have bl_ : Below w.heap.size w v4 := (later jw (later j2 (later j3 j5)))
          go_wp2_with fail
          refine (hV v4 (Below.refl _ _)).mono ?_
          rintro e' u ⟨x, y, B, rfl, ix, iy, ju, l1, l2, rx, ry⟩
          have su := ju.size
          have bTu : TBox u (w.heap.size + 1) ZDv ZDv := (ju.block _ (by omega)).trans bT_
          have bu : Below w.heap.size w u := bl_.trans (ju.mono (by omega))
          obtain ⟨U, hU, bF, hbF, hfF, g1, g1'⟩ := told_into bTu x y
          have th := TBox.there bTu
          replace hU : u.setCells (w.heap.size + 1) 0 (#[.bool x.s, .slice x.A x.n x.c, .int .i64 x.e, .bool y.s, .slice y.A y.n y.c, .int .i64 y.e] : Array Value).toList = U := hU
          have HU := Lib.hid hU
          clear hU
          go_wp2_with (first
            | (refine wpList_store_mid rfl 32 (.tmp 6) (.tmp 68) rfl (w.heap.size + 1) 0 #[.bool x.s, .slice x.A x.n x.c, .int .i64 x.e, .bool y.s, .slice y.A y.n y.c, .int .i64 y.e] rfl rfl th (by kernel_rfl) (all_oneCell_toArray (cells6D_one x y)) ?_; rw [HU.out]))
          have fin := hbF _ _ bu (by omega)
          exact bodyPost_ret (results_row_slot Tryz.results10 _ _ (w.heap.size + 1) 32 #[.bool x.s, .slice x.A x.n x.c, .int .i64 x.e, .bool y.s, .slice y.A y.n y.c, .int .i64 y.e] (0, 0) _ (.int .i64 code) rfl rfl bF Tryz.underlying32 rfl (by kernel_rfl)) rfl ⟨x, y, B, rfl, ix, iy, fin, by omega, by omega, (intsR rx (w' := U) (fun b h1 h2 => hfF b (by omega))).more (by omega) (Nat.le_refl _), (intsR ry (w' := U) (fun b h1 h2 => hfF b (by omega))).more (Nat.le_refl _) (by omega)⟩
        · skip
          by_cases c2 : kind = 2
          · skip
            subst c2
            obtain ⟨⟨q6_0, q6_1, q6_2, q6_3, q6_4, q6_5, q6_6, q6_7, q6_8, q6_9, q6_10, q6_11⟩, q6f⟩ := MBox.cells bM
            go_wp2_with fail
            refine (qparts_any w3 p.M.A p.M.C k (PRows.on hR (later jw (later j2 j3))).M.A (PRows.on hR (later jw (later j2 j3))).M.C).mono ?_
            rintro e' v7 ⟨V, rfl, TV, j8⟩
            clear q6_0 q6_1 q6_2 q6_3 q6_4 q6_5 q6_6 q6_7 q6_8 q6_9 q6_10 q6_11 q6f
            try clear hw
            obtain ⟨cs, rfl, hV⟩ := TV
            rw [show partsX p.M.A p.M.C k = kindX p 2 k by unfold kindX; rw [if_neg (by decide), if_pos rfl], HH.out] at hV
            clear HH HE
            have sz_ := Below.size (later j2 (later j3 j8))
            have szA_ := Below.size (later jw (later j2 (later j3 j8)))
            have bT_ : TBox v7 (w.heap.size + 1) ZDv ZDv := (box_later bT (later j2 (later j3 j8)) S2)
            have bl_ : Below w.heap.size w v7 := (later jw (later j2 (later j3 j8)))
            go_wp2_with fail
            refine (hV v7 (Below.refl _ _)).mono ?_
            rintro e' u ⟨x, y, B, rfl, ix, iy, ju, l1, l2, rx, ry⟩
            have su := ju.size
            have bTu : TBox u (w.heap.size + 1) ZDv ZDv := (ju.block _ (by omega)).trans bT_
            have bu : Below w.heap.size w u := bl_.trans (ju.mono (by omega))
            obtain ⟨U, hU, bF, hbF, hfF, g1, g1'⟩ := told_into bTu x y
            have th := TBox.there bTu
            replace hU : u.setCells (w.heap.size + 1) 0 (#[.bool x.s, .slice x.A x.n x.c, .int .i64 x.e, .bool y.s, .slice y.A y.n y.c, .int .i64 y.e] : Array Value).toList = U := hU
            have HU := Lib.hid hU
            clear hU
            go_wp2_with (first
              | (refine wpList_store_mid rfl 32 (.tmp 6) (.tmp 68) rfl (w.heap.size + 1) 0 #[.bool x.s, .slice x.A x.n x.c, .int .i64 x.e, .bool y.s, .slice y.A y.n y.c, .int .i64 y.e] rfl rfl th (by kernel_rfl) (all_oneCell_toArray (cells6D_one x y)) ?_; rw [HU.out]))
            have fin := hbF _ _ bu (by omega)
            exact bodyPost_ret (results_row_slot Tryz.results10 _ _ (w.heap.size + 1) 32 #[.bool x.s, .slice x.A x.n x.c, .int .i64 x.e, .bool y.s, .slice y.A y.n y.c, .int .i64 y.e] (0, 0) _ (.int .i64 code) rfl rfl bF Tryz.underlying32 rfl (by kernel_rfl)) rfl ⟨x, y, B, rfl, ix, iy, fin, by omega, by omega, (intsR rx (w' := U) (fun b h1 h2 => hfF b (by omega))).more (by omega) (Nat.le_refl _), (intsR ry (w' := U) (fun b h1 h2 => hfF b (by omega))).more (Nat.le_refl _) (by omega)⟩
          · skip
            by_cases c3 : kind = 3
            · skip
              subst c3
              obtain ⟨⟨q9_0, q9_1, q9_2, q9_3, q9_4, q9_5, q9_6, q9_7, q9_8, q9_9, q9_10, q9_11⟩, q9f⟩ := MBox.cells bM
              go_wp2_with fail
              refine (qparts_any w3 p.M.S p.M.W k (PRows.on hR (later jw (later j2 j3))).M.S (PRows.on hR (later jw (later j2 j3))).M.W).mono ?_
              rintro e' v10 ⟨V, rfl, TV, j11⟩
              clear q9_0 q9_1 q9_2 q9_3 q9_4 q9_5 q9_6 q9_7 q9_8 q9_9 q9_10 q9_11 q9f
              try clear hw
              obtain ⟨cs, rfl, hV⟩ := TV
              rw [show partsX p.M.S p.M.W k = kindX p 3 k by unfold kindX; rw [if_neg (by decide), if_neg (by decide), if_pos rfl], HH.out] at hV
              clear HH HE
              have sz_ := Below.size (later j2 (later j3 j11))
              have szA_ := Below.size (later jw (later j2 (later j3 j11)))
              have bT_ : TBox v10 (w.heap.size + 1) ZDv ZDv := (box_later bT (later j2 (later j3 j11)) S2)
              have bl_ : Below w.heap.size w v10 := (later jw (later j2 (later j3 j11)))
              go_wp2_with fail
              refine (hV v10 (Below.refl _ _)).mono ?_
              rintro e' u ⟨x, y, B, rfl, ix, iy, ju, l1, l2, rx, ry⟩
              have su := ju.size
              have bTu : TBox u (w.heap.size + 1) ZDv ZDv := (ju.block _ (by omega)).trans bT_
              have bu : Below w.heap.size w u := bl_.trans (ju.mono (by omega))
              obtain ⟨U, hU, bF, hbF, hfF, g1, g1'⟩ := told_into bTu x y
              have th := TBox.there bTu
              replace hU : u.setCells (w.heap.size + 1) 0 (#[.bool x.s, .slice x.A x.n x.c, .int .i64 x.e, .bool y.s, .slice y.A y.n y.c, .int .i64 y.e] : Array Value).toList = U := hU
              have HU := Lib.hid hU
              clear hU
              go_wp2_with (first
                | (refine wpList_store_mid rfl 32 (.tmp 6) (.tmp 68) rfl (w.heap.size + 1) 0 #[.bool x.s, .slice x.A x.n x.c, .int .i64 x.e, .bool y.s, .slice y.A y.n y.c, .int .i64 y.e] rfl rfl th (by kernel_rfl) (all_oneCell_toArray (cells6D_one x y)) ?_; rw [HU.out]))
              have fin := hbF _ _ bu (by omega)
              exact bodyPost_ret (results_row_slot Tryz.results10 _ _ (w.heap.size + 1) 32 #[.bool x.s, .slice x.A x.n x.c, .int .i64 x.e, .bool y.s, .slice y.A y.n y.c, .int .i64 y.e] (0, 0) _ (.int .i64 code) rfl rfl bF Tryz.underlying32 rfl (by kernel_rfl)) rfl ⟨x, y, B, rfl, ix, iy, fin, by omega, by omega, (intsR rx (w' := U) (fun b h1 h2 => hfF b (by omega))).more (by omega) (Nat.le_refl _), (intsR ry (w' := U) (fun b h1 h2 => hfF b (by omega))).more (Nat.le_refl _) (by omega)⟩
            · skip
              by_cases c4 : kind = 4
              · skip
                subst c4
                have rM := MBox.rangeM bM
                go_wp2_with (first | (refine wpList_load_mid rfl 26 (.tmp 9) rfl (v1.heap.size) 0 rfl [.bool p.M.S.s, .slice p.M.S.A p.M.S.n p.M.S.c, .int .i64 p.M.S.e, .bool p.M.W.s, .slice p.M.W.A p.M.W.n p.M.W.c, .int .i64 p.M.W.e, .bool p.M.C.s, .slice p.M.C.A p.M.C.n p.M.C.c, .int .i64 p.M.C.e, .bool p.M.A.s, .slice p.M.A.A p.M.A.n p.M.A.c, .int .i64 p.M.A.e] _ rM Tryz.underlying26 rfl (by kernel_rfl) ?_))
                clear rM
                refine (qeven_any w3 p.M (PRows.on hR (later jw (later j2 j3))).M k).mono ?_
                rintro e' v12 ⟨V, rfl, TV, j13⟩
                try clear hw
                obtain ⟨cs, rfl, hV⟩ := TV
                rw [show evenX p.M k = kindX p 4 k by unfold kindX; rw [if_neg (by decide), if_neg (by decide), if_neg (by decide), if_pos rfl], HH.out] at hV
                clear HH HE
                have sz_ := Below.size (later j2 (later j3 j13))
                have szA_ := Below.size (later jw (later j2 (later j3 j13)))
                have bT_ : TBox v12 (w.heap.size + 1) ZDv ZDv := (box_later bT (later j2 (later j3 j13)) S2)
                have bl_ : Below w.heap.size w v12 := (later jw (later j2 (later j3 j13)))
                go_wp2_with fail
                refine (hV v12 (Below.refl _ _)).mono ?_
                rintro e' u ⟨x, y, B, rfl, ix, iy, ju, l1, l2, rx, ry⟩
                have su := ju.size
                have bTu : TBox u (w.heap.size + 1) ZDv ZDv := (ju.block _ (by omega)).trans bT_
                have bu : Below w.heap.size w u := bl_.trans (ju.mono (by omega))
                obtain ⟨U, hU, bF, hbF, hfF, g1, g1'⟩ := told_into bTu x y
                have th := TBox.there bTu
                replace hU : u.setCells (w.heap.size + 1) 0 (#[.bool x.s, .slice x.A x.n x.c, .int .i64 x.e, .bool y.s, .slice y.A y.n y.c, .int .i64 y.e] : Array Value).toList = U := hU
                have HU := Lib.hid hU
                clear hU
                go_wp2_with (first
                  | (refine wpList_store_mid rfl 32 (.tmp 6) (.tmp 68) rfl (w.heap.size + 1) 0 #[.bool x.s, .slice x.A x.n x.c, .int .i64 x.e, .bool y.s, .slice y.A y.n y.c, .int .i64 y.e] rfl rfl th (by kernel_rfl) (all_oneCell_toArray (cells6D_one x y)) ?_; rw [HU.out]))
                have fin := hbF _ _ bu (by omega)
                exact bodyPost_ret (results_row_slot Tryz.results10 _ _ (w.heap.size + 1) 32 #[.bool x.s, .slice x.A x.n x.c, .int .i64 x.e, .bool y.s, .slice y.A y.n y.c, .int .i64 y.e] (0, 0) _ (.int .i64 code) rfl rfl bF Tryz.underlying32 rfl (by kernel_rfl)) rfl ⟨x, y, B, rfl, ix, iy, fin, by omega, by omega, (intsR rx (w' := U) (fun b h1 h2 => hfF b (by omega))).more (by omega) (Nat.le_refl _), (intsR ry (w' := U) (fun b h1 h2 => hfF b (by omega))).more (Nat.le_refl _) (by omega)⟩
              · skip
                by_cases c5 : kind = 5
                · skip
                  subst c5
                  obtain ⟨⟨q14_0, q14_1, q14_2, q14_3, q14_4, q14_5, q14_6, q14_7, q14_8, q14_9, q14_10, q14_11, q14_12, q14_13, q14_14, q14_15⟩, q14f⟩ := PBox.cell (box_later bP (later j2 j3) S1')
                  go_wp2_with fail
                  refine (qends_any w3 p.h p.mn p.mx HE.out.1 HE.out.2.1).mono ?_
                  rintro e' v15 ⟨V, rfl, TV, j16⟩
                  clear q14_0 q14_1 q14_2 q14_3 q14_4 q14_5 q14_6 q14_7 q14_8 q14_9 q14_10 q14_11 q14_12 q14_13 q14_14 q14_15 q14f
                  try clear hw
                  obtain ⟨cs, rfl, hV⟩ := TV
                  rw [show endsX p.h p.mn p.mx = kindX p 5 k by unfold kindX; rw [if_neg (by decide), if_neg (by decide), if_neg (by decide), if_neg (by decide), if_pos rfl], HH.out] at hV
                  clear HH HE
                  have sz_ := Below.size (later j2 (later j3 j16))
                  have szA_ := Below.size (later jw (later j2 (later j3 j16)))
                  have bT_ : TBox v15 (w.heap.size + 1) ZDv ZDv := (box_later bT (later j2 (later j3 j16)) S2)
                  have bl_ : Below w.heap.size w v15 := (later jw (later j2 (later j3 j16)))
                  go_wp2_with fail
                  refine (hV v15 (Below.refl _ _)).mono ?_
                  rintro e' u ⟨x, y, B, rfl, ix, iy, ju, l1, l2, rx, ry⟩
                  have su := ju.size
                  have bTu : TBox u (w.heap.size + 1) ZDv ZDv := (ju.block _ (by omega)).trans bT_
                  have bu : Below w.heap.size w u := bl_.trans (ju.mono (by omega))
                  obtain ⟨U, hU, bF, hbF, hfF, g1, g1'⟩ := told_into bTu x y
                  have th := TBox.there bTu
                  replace hU : u.setCells (w.heap.size + 1) 0 (#[.bool x.s, .slice x.A x.n x.c, .int .i64 x.e, .bool y.s, .slice y.A y.n y.c, .int .i64 y.e] : Array Value).toList = U := hU
                  have HU := Lib.hid hU
                  clear hU
                  go_wp2_with (first
                    | (refine wpList_store_mid rfl 32 (.tmp 6) (.tmp 68) rfl (w.heap.size + 1) 0 #[.bool x.s, .slice x.A x.n x.c, .int .i64 x.e, .bool y.s, .slice y.A y.n y.c, .int .i64 y.e] rfl rfl th (by kernel_rfl) (all_oneCell_toArray (cells6D_one x y)) ?_; rw [HU.out]))
                  have fin := hbF _ _ bu (by omega)
                  exact bodyPost_ret (results_row_slot Tryz.results10 _ _ (w.heap.size + 1) 32 #[.bool x.s, .slice x.A x.n x.c, .int .i64 x.e, .bool y.s, .slice y.A y.n y.c, .int .i64 y.e] (0, 0) _ (.int .i64 code) rfl rfl bF Tryz.underlying32 rfl (by kernel_rfl)) rfl ⟨x, y, B, rfl, ix, iy, fin, by omega, by omega, (intsR rx (w' := U) (fun b h1 h2 => hfF b (by omega))).more (by omega) (Nat.le_refl _), (intsR ry (w' := U) (fun b h1 h2 => hfF b (by omega))).more (Nat.le_refl _) (by omega)⟩
                · skip
                  by_cases c6 : kind = 6
                  · skip
                    subst c6
                    obtain ⟨⟨q17_0, q17_1, q17_2, q17_3, q17_4, q17_5, q17_6, q17_7, q17_8, q17_9, q17_10, q17_11, q17_12, q17_13, q17_14, q17_15⟩, q17f⟩ := PBox.cell (box_later bP (later j2 j3) S1')
                    go_wp2_with fail
                    refine (qguess_any w3 p.A p.n p.c p.xs (PRows.on hR (later jw (later j2 j3))).L (tab_later hT (later jw (later j2 j3))) HE.out.2.2).mono ?_
                    rintro e' v18 ⟨V, rfl, TV, j19⟩
                    clear q17_0 q17_1 q17_2 q17_3 q17_4 q17_5 q17_6 q17_7 q17_8 q17_9 q17_10 q17_11 q17_12 q17_13 q17_14 q17_15 q17f
                    try clear hw
                    obtain ⟨cs, rfl, hV⟩ := TV
                    rw [show guessX p.xs = kindX p 6 k by unfold kindX; rw [if_neg (by decide), if_neg (by decide), if_neg (by decide), if_neg (by decide), if_neg (by decide), if_pos rfl], HH.out] at hV
                    clear HH HE
                    have sz_ := Below.size (later j2 (later j3 j19))
                    have szA_ := Below.size (later jw (later j2 (later j3 j19)))
                    have bT_ : TBox v18 (w.heap.size + 1) ZDv ZDv := (box_later bT (later j2 (later j3 j19)) S2)
                    have bl_ : Below w.heap.size w v18 := (later jw (later j2 (later j3 j19)))
                    go_wp2_with fail
                    refine (hV v18 (Below.refl _ _)).mono ?_
                    rintro e' u ⟨x, y, B, rfl, ix, iy, ju, l1, l2, rx, ry⟩
                    have su := ju.size
                    have bTu : TBox u (w.heap.size + 1) ZDv ZDv := (ju.block _ (by omega)).trans bT_
                    have bu : Below w.heap.size w u := bl_.trans (ju.mono (by omega))
                    obtain ⟨U, hU, bF, hbF, hfF, g1, g1'⟩ := told_into bTu x y
                    have th := TBox.there bTu
                    replace hU : u.setCells (w.heap.size + 1) 0 (#[.bool x.s, .slice x.A x.n x.c, .int .i64 x.e, .bool y.s, .slice y.A y.n y.c, .int .i64 y.e] : Array Value).toList = U := hU
                    have HU := Lib.hid hU
                    clear hU
                    go_wp2_with (first
                      | (refine wpList_store_mid rfl 32 (.tmp 6) (.tmp 68) rfl (w.heap.size + 1) 0 #[.bool x.s, .slice x.A x.n x.c, .int .i64 x.e, .bool y.s, .slice y.A y.n y.c, .int .i64 y.e] rfl rfl th (by kernel_rfl) (all_oneCell_toArray (cells6D_one x y)) ?_; rw [HU.out]))
                    have fin := hbF _ _ bu (by omega)
                    exact bodyPost_ret (results_row_slot Tryz.results10 _ _ (w.heap.size + 1) 32 #[.bool x.s, .slice x.A x.n x.c, .int .i64 x.e, .bool y.s, .slice y.A y.n y.c, .int .i64 y.e] (0, 0) _ (.int .i64 code) rfl rfl bF Tryz.underlying32 rfl (by kernel_rfl)) rfl ⟨x, y, B, rfl, ix, iy, fin, by omega, by omega, (intsR rx (w' := U) (fun b h1 h2 => hfF b (by omega))).more (by omega) (Nat.le_refl _), (intsR ry (w' := U) (fun b h1 h2 => hfF b (by omega))).more (Nat.le_refl _) (by omega)⟩
                  · skip
                    have h := HH.out
                    unfold kindX at h
                    rw [if_neg c1, if_neg c2, if_neg c3, if_neg c4, if_neg c5, if_neg c6] at h
                    injection h with h1 h2
                    injection h2 with h2 h3
                    subst h1 h2 h3
                    clear HH HE
                    have d1 : (kind == 1) = false := by simpa using c1
                    have d2 : (kind == 2) = false := by simpa using c2
                    have d3 : (kind == 3) = false := by simpa using c3
                    have d4 : (kind == 4) = false := by simpa using c4
                    have d5 : (kind == 5) = false := by simpa using c5
                    have d6 : (kind == 6) = false := by simpa using c6
                    by_cases c0 : kind = 0
                    · skip
                      subst c0
                      have bz_ : TBox w3 (w.heap.size + 1) ZDv ZDv := (box_later bT (later j2 j3) S2)
                      obtain ⟨U_, hU_, bU_, hb_, hf_, l5_, l5'_⟩ := told_into bz_ ZDv ZDv
                      have th_ := TBox.there bz_
                      replace hU_ : w3.setCells ((w.heap.size + 1)) 0 (#[.bool false, .slice none 0 0, .int .i64 0, .bool false, .slice none 0 0, .int .i64 0] : Array Value).toList = U_ := hU_
                      have HU_ := Lib.hid hU_
                      clear hU_
                      have fin_ := hb_ _ _ (later jw (later j2 j3)) (by omega)
                      go_wp2_with (first | (refine wpList_store_mid rfl 32 (.tmp 6) (.tmp 65) rfl (w.heap.size + 1) 0 #[.bool false, .slice none 0 0, .int .i64 0, .bool false, .slice none 0 0, .int .i64 0] rfl rfl th_ (by kernel_rfl) (all_oneCell_toArray (cells6D_one ZDv ZDv)) ?_; rw [HU_.out]))
                      exact bodyPost_ret (results_row_slot Tryz.results10 _ _ (w.heap.size + 1) 32 #[.bool false, .slice none 0 0, .int .i64 0, .bool false, .slice none 0 0, .int .i64 0] (0, 0) _ (.int .i64 2) rfl rfl bU_ Tryz.underlying32 rfl (by kernel_rfl)) rfl (told_zero _ _ _ fin_)
                    · skip
                      have d0 : (kind == 0) = false := by simpa using c0
                      have bz_ : TBox w3 (w.heap.size + 1) ZDv ZDv := (box_later bT (later j2 j3) S2)
                      obtain ⟨U_, hU_, bU_, hb_, hf_, l5_, l5'_⟩ := told_into bz_ ZDv ZDv
                      have th_ := TBox.there bz_
                      replace hU_ : w3.setCells ((w.heap.size + 1)) 0 (#[.bool false, .slice none 0 0, .int .i64 0, .bool false, .slice none 0 0, .int .i64 0] : Array Value).toList = U_ := hU_
                      have HU_ := Lib.hid hU_
                      clear hU_
                      have fin_ := hb_ _ _ (later jw (later j2 j3)) (by omega)
                      go_wp2_with (first | (refine wpList_store_mid rfl 32 (.tmp 6) (.tmp 65) rfl (w.heap.size + 1) 0 #[.bool false, .slice none 0 0, .int .i64 0, .bool false, .slice none 0 0, .int .i64 0] rfl rfl th_ (by kernel_rfl) (all_oneCell_toArray (cells6D_one ZDv ZDv)) ?_; rw [HU_.out]))
                      exact bodyPost_ret (results_row_slot Tryz.results10 _ _ (w.heap.size + 1) 32 #[.bool false, .slice none 0 0, .int .i64 0, .bool false, .slice none 0 0, .int .i64 0] (0, 0) _ (.int .i64 2) rfl rfl bU_ Tryz.underlying32 rfl (by kernel_rfl)) rfl (told_zero _ _ _ fin_)
end Ma
end Go.Proofs.YtmbppgjhdcmckaaGreatDoor
