/- headcountlaw25.QueryBetween: the law's walk (printed by a program of mine). -/
import Derived.Test.YtmbppgjhdcmckaaDoorQuL3
import Derived.Test.YtmbppgjhdcmckaaDoorQuSm
namespace Go.Proofs.YtmbppgjhdcmckaaDoor
open Go.RowKit
namespace Ma
open Dp Dy
theorem wf_i64Q {z : Int} (h : (Lit.int .i64 z).wf = true) : -9223372036854775808 ≤ z ∧ z ≤ 9223372036854775807 := by simpa [Lit.wf, IntKind.min, IntKind.max, IntKind.signed, IntKind.bits] using h
set_option maxHeartbeats 25600000 in
set_option maxRecDepth 100000 in
/-- headcountlaw25.QueryBetween. -/
theorem between25_walk (w : World) (p : Pv) (hR : PRows w 0 w.heap.size p) (kind k low : Int) (hl : (Lit.int .i64 low).wf = true) (high : Int) (hh : (Lit.int .i64 high).wf = true) (hT : Tab w) :
    Calls Tryd.prog 5 #[.agg #[.bool p.M.S.s, .slice p.M.S.A p.M.S.n p.M.S.c, .int .i64 p.M.S.e, .bool p.M.W.s, .slice p.M.W.A p.M.W.n p.M.W.c, .int .i64 p.M.W.e, .bool p.M.C.s, .slice p.M.C.A p.M.C.n p.M.C.c, .int .i64 p.M.C.e, .bool p.M.A.s, .slice p.M.A.A p.M.A.n p.M.A.c, .int .i64 p.M.A.e, .bool p.h, .int .i64 p.mn, .int .i64 p.mx, .slice p.A p.n p.c], .int .u8 kind, .int .i64 k, .int .i64 low, .int .i64 high] w fun e w' => e = .returned (.bool true) ∧ Below w.heap.size w w' := by
  obtain ⟨w1, hw, bP, j1, S1⟩ := alloc_p w p
  obtain ⟨g, hg⟩ : ∃ g, greatP p = g := ⟨_, rfl⟩
  have HG := Lib.hid hg
  obtain ⟨x, y, code, hq⟩ : ∃ x y c, askQ p kind k = (x, y, c) := ⟨_, _, _, rfl⟩
  have HQ := Lib.hid hq
  obtain ⟨is, gc, hb⟩ : ∃ r c, betweenM p.M low high = (r, c) := ⟨_, _, rfl⟩
  have HB := Lib.hid hb
  obtain ⟨k1, k2, k3⟩ := ask_told hR hq
  have HM := Lib.hid k1
  have HZ := Lib.hid k2
  have HC := Lib.hid k3
  have HL := Lib.hid (wf_i64Q hl)
  have HH := Lib.hid (wf_i64Q hh)
  obtain ⟨z0, hz0⟩ : ∃ z, cmpD x y = z := ⟨_, rfl⟩
  obtain ⟨z1, hz1⟩ : ∃ z, cmpD (whole low) x = z := ⟨_, rfl⟩
  obtain ⟨z2, hz2⟩ : ∃ z, cmpD y (whole high) = z := ⟨_, rfl⟩
  have HZ0 := Lib.hid hz0
  have HZ1 := Lib.hid hz1
  have HZ2 := Lib.hid hz2
  obtain ⟨s1, hs1⟩ : ∃ s, decide (low < 0) = s := ⟨_, rfl⟩
  obtain ⟨v1, hv1⟩ : ∃ v, low.natAbs = v := ⟨_, rfl⟩
  obtain ⟨s2, hs2⟩ : ∃ s, decide (high < 0) = s := ⟨_, rfl⟩
  obtain ⟨v2, hv2⟩ : ∃ v, high.natAbs = v := ⟨_, rfl⟩
  have HS1 := Lib.hid (And.intro hs1 hv1)
  have HS2 := Lib.hid (And.intro hs2 hv2)
  have HW1 : Hid (whole low = ⟨s1, v1, 0⟩) := Lib.hid (by unfold whole; rw [hs1, hv1])
  have HW2 : Hid (whole high = ⟨s2, v2, 0⟩) := Lib.hid (by unfold whole; rw [hs2, hv2])
  clear hg hq hb k1 k2 k3 hz0 hz1 hz2 hs1 hv1 hs2 hv2
  go_enter Tryd.func5, Tryd.ntmps5
  go_wp2_with fail
  refine (alive25_any w1 (tab_later hT j1)).mono ?_
  rintro e' v5 ⟨rfl, j6⟩
  try clear hw
  have rP := PBox.range (box_later bP j6 S1)
  go_wp2_with (first
    | (refine wpList_load_mid rfl 30 (.tmp 5) rfl (w.heap.size) 0 rfl [.bool p.M.S.s, .slice p.M.S.A p.M.S.n p.M.S.c, .int .i64 p.M.S.e, .bool p.M.W.s, .slice p.M.W.A p.M.W.n p.M.W.c, .int .i64 p.M.W.e, .bool p.M.C.s, .slice p.M.C.A p.M.C.n p.M.C.c, .int .i64 p.M.C.e, .bool p.M.A.s, .slice p.M.A.A p.M.A.n p.M.A.c, .int .i64 p.M.A.e, .bool p.h, .int .i64 p.mn, .int .i64 p.mx, .slice p.A p.n p.c] _ rP Tryd.underlying30 rfl (by kernel_rfl) ?_))
  refine (GreatPart_any v5 p (PRows.on hR (later j1 j6)) g HG.out).mono ?_
  rintro e' v7 ⟨rfl, j8⟩
  try clear hw
  clear rP
  cases g
  case true =>
    go_wp2
    go_ret
    exact ⟨rfl, (later j1 (later j6 j8))⟩
  have rP := PBox.range (box_later bP (later j6 j8) S1)
  go_wp2_with (first
    | (refine wpList_load_mid rfl 30 (.tmp 5) rfl (w.heap.size) 0 rfl [.bool p.M.S.s, .slice p.M.S.A p.M.S.n p.M.S.c, .int .i64 p.M.S.e, .bool p.M.W.s, .slice p.M.W.A p.M.W.n p.M.W.c, .int .i64 p.M.W.e, .bool p.M.C.s, .slice p.M.C.A p.M.C.n p.M.C.c, .int .i64 p.M.C.e, .bool p.M.A.s, .slice p.M.A.A p.M.A.n p.M.A.c, .int .i64 p.M.A.e, .bool p.h, .int .i64 p.mn, .int .i64 p.mx, .slice p.A p.n p.c] _ rP Tryd.underlying30 rfl (by kernel_rfl) ?_))
  refine (Ask_any v7 p (PRows.on hR (later j1 (later j6 j8))) (tab_later hT (later j1 (later j6 j8))) kind k x y code HQ.out).mono ?_
  rintro e' v9 ⟨X, Y, B_, rfl, ix, iy, j10, l1, l2, rx, ry⟩
  try clear hw
  clear rP
  replace ix := Lib.hid ix
  replace iy := Lib.hid iy
  replace rx := Ints.more rx (Nat.zero_le _) l2
  replace ry := Ints.more ry (Nat.zero_le _) (Nat.le_refl _)
  clear l1 l2
  obtain ⟨u11, h14, bT, j12, s13⟩ := alloc_t v9 X Y
  by_cases c0 : code = 0
  case neg =>
    have e0 : sameT X Y ZDv ZDv = true := by
      obtain ⟨h1, h2⟩ := HZ.out c0
      have i1 := ix.out
      have i2 := iy.out
      rw [h1] at i1
      rw [h2] at i2
      unfold sameT
      rw [Is.same i1 isZ, Is.same i2 isZ]
      rfl
    have rT := TBox.range bT
    go_wp2_with (first
      | (refine wpList_store_nw rfl 45 (.tmp 12) (.tmp 35) rfl _ #[.bool X.s, .slice X.A X.n X.c, .int .i64 X.e, .bool Y.s, .slice Y.A Y.n Y.c, .int .i64 Y.e] rfl rfl (by kernel_rfl) rfl (all_oneCell_toArray (cells6D_one X Y)) ?_; rw [h14])
      | (refine wpList_load_midG (by rfl) 45 (.tmp 12) rfl (v9.heap.size) 0 rfl [.bool X.s, .slice X.A X.n X.c, .int .i64 X.e, .bool Y.s, .slice Y.A Y.n Y.c, .int .i64 Y.e] _ rT Tryd.underlying45 rfl (by kernel_rfl) ?_))
    refine (qSame_any u11 X Y ZDv ZDv (ints_on rx j12) (ints_on ry j12) (rowZ _ _ _) (rowZ _ _ _) true e0).mono ?_
    rintro e' v15 ⟨rfl, j16⟩
    try clear hw
    clear rT
    try clear h14
    go_wp2
    go_ret
    exact ⟨rfl, (later j1 (later j6 (later j8 (later j10 (later j12 j16)))))⟩
  subst c0
  have c3 : z0 ≤ 0 := by rw [← HZ0.out]; exact HC.out rfl
  have r1 := TBox.low bT
  have r2 := TBox.high bT
  go_wp2_with (first
    | (refine wpList_store_nw rfl 45 (.tmp 12) (.tmp 35) rfl _ #[.bool X.s, .slice X.A X.n X.c, .int .i64 X.e, .bool Y.s, .slice Y.A Y.n Y.c, .int .i64 Y.e] rfl rfl (by kernel_rfl) rfl (all_oneCell_toArray (cells6D_one X Y)) ?_; rw [h14])
    | (refine wpList_load_mid rfl 24 (.tmp 46) rfl (v9.heap.size) 0 rfl [.bool X.s, .slice X.A X.n X.c, .int .i64 X.e] _ r1 Tryd.underlying24 rfl (by kernel_rfl) ?_)
    | (refine wpList_load_mid rfl 24 (.tmp 48) rfl (v9.heap.size) 3 rfl [.bool Y.s, .slice Y.A Y.n Y.c, .int .i64 Y.e] _ r2 Tryd.underlying24 rfl (by kernel_rfl) ?_))
  refine (Cmp_all u11 X.s Y.s X.A Y.A X.n X.c Y.n Y.c X.xs Y.xs X.e Y.e (ints_on rx j12) (ints_on ry j12) (tab_later hT (later j1 (later j6 (later j8 (later j10 j12))))) z0 0 ((cmp_two ix.out iy.out HM.out.1 HM.out.2).trans (by rw [HZ0.out]))).mono ?_
  rintro e' v17 ⟨rfl, j18⟩
  try clear hw
  clear r1 r2
  try clear h14
  have rM := PBox.mass (box_later bP (later j6 (later j8 (later j10 (later j12 j18)))) S1)
  go_wp2_with (first
    | (refine wpList_load_mid rfl 26 (.tmp 60) rfl w.heap.size 0 rfl [.bool p.M.S.s, .slice p.M.S.A p.M.S.n p.M.S.c, .int .i64 p.M.S.e, .bool p.M.W.s, .slice p.M.W.A p.M.W.n p.M.W.c, .int .i64 p.M.W.e, .bool p.M.C.s, .slice p.M.C.A p.M.C.n p.M.C.c, .int .i64 p.M.C.e, .bool p.M.A.s, .slice p.M.A.A p.M.A.n p.M.A.c, .int .i64 p.M.A.e] _ rM Tryd.underlying26 rfl (by kernel_rfl) ?_))
  refine (Between_num v17 p.M low high hl hh (PRows.on hR (later j1 (later j6 (later j8 (later j10 (later j12 j18)))))).1 is gc HB.out).mono ?_
  rintro e' v19 ⟨rfl, j20⟩
  try clear hw
  clear rM
  by_cases h3 : kind = 3
  case neg =>
    go_wp2
    go_ret
    exact ⟨rfl, (later j1 (later j6 (later j8 (later j10 (later j12 (later j18 j20))))))⟩
  by_cases h4 : gc = 0
  case neg =>
    go_wp2
    go_ret
    exact ⟨rfl, (later j1 (later j6 (later j8 (later j10 (later j12 (later j18 j20))))))⟩
  cases is
  case false =>
    go_wp2
    go_ret
    exact ⟨rfl, (later j1 (later j6 (later j8 (later j10 (later j12 (later j18 j20))))))⟩
  subst h3 h4
  obtain ⟨d1, d2⟩ := mean_told hR HQ.out HB.out
  rw [HZ1.out] at d1
  rw [HZ2.out] at d2
  have vm1 : Hid ((⟨s1, v1, 0⟩ : Dn).May) := Lib.hid (by rw [← HW1.out]; exact whole_may HL.out.1 HL.out.2)
  have vm2 : Hid ((⟨s2, v2, 0⟩ : Dn).May) := Lib.hid (by rw [← HW2.out]; exact whole_may HH.out.1 HH.out.2)
  go_upto_region 13 with fail
  try clear hw
  refine region_E (Keeps v19) [] (m := 10) (L := #[false, false, false, false, false, false, false, false, false, false]) (by kernel_rfl) (by rfl) (by rfl) ?_
  have j22 : Below v19.heap.size v19 v19.drew := (Below.refl _ _).drew
  generalize v19.drew = v21 at *
  refine pureE (i := 0) (L := #[true, false, false, false, false, false, false, false, false, false]) (v := ?_) rfl (by rfl) (by kernel_rfl) (by kernel_rfl) (by kernel_rfl) (fun _ _ _ h => h) (by rfl) ?hy1 ?rest1
  case hy1 => intro w; go_simp; (try with_reducible rfl)
  try simp only [Act.put, List.setIfInBounds_toArray, List.set_cons_zero, List.set_cons_succ]
  refine pureE (i := 2) (L := #[true, false, true, false, false, false, false, false, false, false]) (v := ?_) rfl (by rfl) (by kernel_rfl) (by kernel_rfl) (by kernel_rfl) (fun _ _ _ h => h) (by rfl) ?hy2 ?rest2
  case hy2 => intro w; go_simp; (try with_reducible rfl)
  try simp only [Act.put, List.setIfInBounds_toArray, List.set_cons_zero, List.set_cons_succ]
  have kpy23 : Keeps v19 v21 := fun p hp => Below.block j22 p hp
  refine readE (i := 3) (L := #[true, false, true, true, false, false, false, false, false, false]) (v := .agg #[.bool X.s, .slice X.A X.n X.c, .int .i64 X.e]) rfl (by rfl) (by kernel_rfl) (by kernel_rfl) (by kernel_rfl) (fun _ _ _ h => h) (by assumption) (by rfl) ?y23 ?z24
  case y23 =>
    intro w' h1
    exact run_load_op 24 (.tmp 81) rfl (v9.heap.size) 0 rfl [.bool X.s, .slice X.A X.n X.c, .int .i64 X.e] _ (TBox.low (x := X) (y := Y) ((h1 _ (Nat.lt_of_lt_of_le s13 (Below.size (later j18 j20)))).trans (box_later bT (later j18 j20) s13))) Tryd.underlying24 rfl (by kernel_rfl)
  try simp only [Act.put, List.setIfInBounds_toArray, List.set_cons_zero, List.set_cons_succ]
  refine stepK (i := 1) (L := #[true, true, true, true, false, false, false, false, false, false]) rfl (by rfl) (by kernel_rfl) (by rfl) (fun K hK => ?_)
  go_simp
  go_at_call 11
  refine (Of_any v21 low HL.out.1 HL.out.2 s1 v1 HS1.out.1 HS1.out.2).mono ?_
  rintro e' v25 ⟨A1, m1, rfl, j26, J1⟩
  replace J1 := ints_all J1
  refine hK _ _ ⟨fun _ _ => fun p hp => Below.block (later j22 j26) p hp, ?_⟩
  clear hK K
  try simp only [Act.put, List.setIfInBounds_toArray, List.set_cons_zero, List.set_cons_succ]
  refine stepK (i := 4) (L := #[true, true, true, true, true, false, false, false, false, false]) rfl (by rfl) (by kernel_rfl) (by rfl) (fun K hK => ?_)
  go_simp
  go_at_call 10
  refine (Cmp_all v25 s1 X.s A1 X.A m1 m1 X.n X.c _ X.xs 0 X.e J1 (ints_on rx (later j12 (later j18 (later j20 (later j22 j26))))) (tab_later hT (later j1 (later j6 (later j8 (later j10 (later j12 (later j18 (later j20 (later j22 j26))))))))) z1 0 ((cmp_two (X := ⟨s1, A1, m1, m1, 0, canon 4294967296 v1⟩) ⟨rfl, rfl, rfl⟩ ix.out vm1.out HM.out.1).trans (by rw [← HW1.out, HZ1.out]))).mono ?_
  rintro e' v27 ⟨rfl, j28⟩
  refine hK _ _ ⟨fun _ _ => fun p hp => Below.block (later j22 (later j26 j28)) p hp, ?_⟩
  clear hK K
  try simp only [Act.put, List.setIfInBounds_toArray, List.set_cons_zero, List.set_cons_succ]
  refine pureE (i := 5) (L := #[true, true, true, true, true, true, false, false, false, false]) (v := ?_) rfl (by rfl) (by kernel_rfl) (by kernel_rfl) (by kernel_rfl) (fun _ _ _ h => h) (by rfl) ?hy6 ?rest6
  case hy6 => intro w; go_simp; (try with_reducible rfl)
  try simp only [Act.put, List.setIfInBounds_toArray, List.set_cons_zero, List.set_cons_succ]
  refine pureE (i := 6) (L := #[true, true, true, true, true, true, true, false, false, false]) (v := ?_) rfl (by rfl) (by kernel_rfl) (by kernel_rfl) (by kernel_rfl) (fun _ _ _ h => h) (by rfl) ?hy7 ?rest7
  case hy7 => intro w; go_simp; (try with_reducible rfl)
  try simp only [Act.put, List.setIfInBounds_toArray, List.set_cons_zero, List.set_cons_succ]
  refine pureE (i := 7) (L := #[true, true, true, true, true, true, true, true, false, false]) (v := ?_) rfl (by rfl) (by kernel_rfl) (by kernel_rfl) (by kernel_rfl) (fun _ _ _ h => h) (by rfl) ?hy8 ?rest8
  case hy8 => intro w; go_simp; (try with_reducible rfl)
  try simp only [Act.put, List.setIfInBounds_toArray, List.set_cons_zero, List.set_cons_succ]
  refine pureE (i := 8) (L := #[true, true, true, true, true, true, true, true, true, false]) (v := ?_) rfl (by rfl) (by kernel_rfl) (by kernel_rfl) (by kernel_rfl) (fun _ _ _ h => h) (by rfl) ?hy9 ?rest9
  case hy9 => intro w; go_simp; (try with_reducible rfl)
  try simp only [Act.put, List.setIfInBounds_toArray, List.set_cons_zero, List.set_cons_succ]
  refine pureE (i := 9) (L := #[true, true, true, true, true, true, true, true, true, true]) (v := ?_) rfl (by rfl) (by kernel_rfl) (by kernel_rfl) (by kernel_rfl) (fun _ _ _ h => h) (by rfl) ?hy10 ?rest10
  case hy10 => intro w; go_simp; (try with_reducible rfl)
  try simp only [Act.put, List.setIfInBounds_toArray, List.set_cons_zero, List.set_cons_succ]
  refine doneE (by kernel_rfl) ?_ _
  go_upto_region 14 with fail
  try clear hw
  refine region_E (Keeps v27) [] (m := 10) (L := #[false, false, false, false, false, false, false, false, false, false]) (by kernel_rfl) (by rfl) (by rfl) ?_
  have j30 : Below v27.heap.size v27 v27.drew := (Below.refl _ _).drew
  generalize v27.drew = v29 at *
  refine pureE (i := 0) (L := #[true, false, false, false, false, false, false, false, false, false]) (v := ?_) rfl (by rfl) (by kernel_rfl) (by kernel_rfl) (by kernel_rfl) (fun _ _ _ h => h) (by rfl) ?hy11 ?rest11
  case hy11 => intro w; go_simp; (try with_reducible rfl)
  try simp only [Act.put, List.setIfInBounds_toArray, List.set_cons_zero, List.set_cons_succ]
  have kpy31 : Keeps v27 v29 := fun p hp => Below.block j30 p hp
  refine readE (i := 1) (L := #[true, true, false, false, false, false, false, false, false, false]) (v := .agg #[.bool Y.s, .slice Y.A Y.n Y.c, .int .i64 Y.e]) rfl (by rfl) (by kernel_rfl) (by kernel_rfl) (by kernel_rfl) (fun _ _ _ h => h) (by assumption) (by rfl) ?y31 ?z32
  case y31 =>
    intro w' h1
    exact run_load_op 24 (.tmp 87) rfl (v9.heap.size) 3 rfl [.bool Y.s, .slice Y.A Y.n Y.c, .int .i64 Y.e] _ (TBox.high (x := X) (y := Y) ((h1 _ (Nat.lt_of_lt_of_le s13 (Below.size (later j18 (later j20 (later j22 (later j26 j28))))))).trans (box_later bT (later j18 (later j20 (later j22 (later j26 j28)))) s13))) Tryd.underlying24 rfl (by kernel_rfl)
  try simp only [Act.put, List.setIfInBounds_toArray, List.set_cons_zero, List.set_cons_succ]
  refine pureE (i := 2) (L := #[true, true, true, false, false, false, false, false, false, false]) (v := ?_) rfl (by rfl) (by kernel_rfl) (by kernel_rfl) (by kernel_rfl) (fun _ _ _ h => h) (by rfl) ?hy13 ?rest13
  case hy13 => intro w; go_simp; (try with_reducible rfl)
  try simp only [Act.put, List.setIfInBounds_toArray, List.set_cons_zero, List.set_cons_succ]
  refine stepK (i := 3) (L := #[true, true, true, true, false, false, false, false, false, false]) rfl (by rfl) (by kernel_rfl) (by rfl) (fun K hK => ?_)
  go_simp
  go_at_call 11
  refine (Of_any v29 high HH.out.1 HH.out.2 s2 v2 HS2.out.1 HS2.out.2).mono ?_
  rintro e' v33 ⟨A2, m2, rfl, j34, J2⟩
  replace J2 := ints_all J2
  refine hK _ _ ⟨fun _ _ => fun p hp => Below.block (later j30 j34) p hp, ?_⟩
  clear hK K
  try simp only [Act.put, List.setIfInBounds_toArray, List.set_cons_zero, List.set_cons_succ]
  refine stepK (i := 4) (L := #[true, true, true, true, true, false, false, false, false, false]) rfl (by rfl) (by kernel_rfl) (by rfl) (fun K hK => ?_)
  go_simp
  go_at_call 10
  refine (Cmp_all v33 Y.s s2 Y.A A2 Y.n Y.c m2 m2 Y.xs _ Y.e 0 (ints_on ry (later j12 (later j18 (later j20 (later j22 (later j26 (later j28 (later j30 j34)))))))) J2 (tab_later hT (later j1 (later j6 (later j8 (later j10 (later j12 (later j18 (later j20 (later j22 (later j26 (later j28 (later j30 j34)))))))))))) z2 0 ((cmp_two (Y := ⟨s2, A2, m2, m2, 0, canon 4294967296 v2⟩) iy.out ⟨rfl, rfl, rfl⟩ HM.out.2 vm2.out).trans (by rw [← HW2.out, HZ2.out]))).mono ?_
  rintro e' v35 ⟨rfl, j36⟩
  refine hK _ _ ⟨fun _ _ => fun p hp => Below.block (later j30 (later j34 j36)) p hp, ?_⟩
  clear hK K
  try simp only [Act.put, List.setIfInBounds_toArray, List.set_cons_zero, List.set_cons_succ]
  refine pureE (i := 5) (L := #[true, true, true, true, true, true, false, false, false, false]) (v := ?_) rfl (by rfl) (by kernel_rfl) (by kernel_rfl) (by kernel_rfl) (fun _ _ _ h => h) (by rfl) ?hy16 ?rest16
  case hy16 => intro w; go_simp; (try with_reducible rfl)
  try simp only [Act.put, List.setIfInBounds_toArray, List.set_cons_zero, List.set_cons_succ]
  refine pureE (i := 6) (L := #[true, true, true, true, true, true, true, false, false, false]) (v := ?_) rfl (by rfl) (by kernel_rfl) (by kernel_rfl) (by kernel_rfl) (fun _ _ _ h => h) (by rfl) ?hy17 ?rest17
  case hy17 => intro w; go_simp; (try with_reducible rfl)
  try simp only [Act.put, List.setIfInBounds_toArray, List.set_cons_zero, List.set_cons_succ]
  refine pureE (i := 7) (L := #[true, true, true, true, true, true, true, true, false, false]) (v := ?_) rfl (by rfl) (by kernel_rfl) (by kernel_rfl) (by kernel_rfl) (fun _ _ _ h => h) (by rfl) ?hy18 ?rest18
  case hy18 => intro w; go_simp; (try with_reducible rfl)
  try simp only [Act.put, List.setIfInBounds_toArray, List.set_cons_zero, List.set_cons_succ]
  refine pureE (i := 8) (L := #[true, true, true, true, true, true, true, true, true, false]) (v := ?_) rfl (by rfl) (by kernel_rfl) (by kernel_rfl) (by kernel_rfl) (fun _ _ _ h => h) (by rfl) ?hy19 ?rest19
  case hy19 => intro w; go_simp; (try with_reducible rfl)
  try simp only [Act.put, List.setIfInBounds_toArray, List.set_cons_zero, List.set_cons_succ]
  refine pureE (i := 9) (L := #[true, true, true, true, true, true, true, true, true, true]) (v := ?_) rfl (by rfl) (by kernel_rfl) (by kernel_rfl) (by kernel_rfl) (fun _ _ _ h => h) (by rfl) ?hy20 ?rest20
  case hy20 => intro w; go_simp; (try with_reducible rfl)
  try simp only [Act.put, List.setIfInBounds_toArray, List.set_cons_zero, List.set_cons_succ]
  refine doneE (by kernel_rfl) ?_ _
  go_wp2
  go_ret
  exact ⟨rfl, (later j1 (later j6 (later j8 (later j10 (later j12 (later j18 (later j20 (later j22 (later j26 (later j28 (later j30 (later j34 j36))))))))))))⟩
end Ma
end Go.Proofs.YtmbppgjhdcmckaaDoor
