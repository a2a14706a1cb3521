/- The law PushBand: a walk (printed by a program of mine). -/
import Derived.Test.YtbbnbgllgomolaaDoorBs21
namespace Go.Proofs.YtbbnbgllgomolaaDoor
open Go.RowKit
namespace Ma
open Dp Dy
theorem lz {a b c : World} (h : Below a.heap.size a b) (k : Below b.heap.size b c) : Below a.heap.size a c := later h k
theorem wf_i64 {z : Int} (h : (Lit.int .i64 z).wf = true) : -9223372036854775808 ≤ z ∧ z ≤ 9223372036854775807 := by simpa [Lit.wf, IntKind.min, IntKind.max, IntKind.signed, IntKind.bits] using h
set_option maxHeartbeats 102400000 in
set_option maxRecDepth 100000 in
theorem puband_walk (w : World) (m : Mv) (hR : MRows w 0 w.heap.size m) (k : Int) (_hk : (Lit.int .i64 k).wf = true) (low : Int) (hl : (Lit.int .i64 low).wf = true) (high : Int) (hh : (Lit.int .i64 high).wf = true) (hT : Tab w) :
  Calls Tryd.prog 6 #[.agg #[.bool m.S.s, .slice m.S.A m.S.n m.S.c, .int .i64 m.S.e, .bool m.W.s, .slice m.W.A m.W.n m.W.c, .int .i64 m.W.e, .bool m.C.s, .slice m.C.A m.C.n m.C.c, .int .i64 m.C.e, .bool m.A.s, .slice m.A.A m.A.n m.A.c, .int .i64 m.A.e], .int .i64 k, .int .i64 low, .int .i64 high] w fun e w' => e = .returned (.bool true) ∧ Below w.heap.size w w' := by
 obtain ⟨w1, hw, bM, j1, S1⟩ := alloc_m w m
 obtain ⟨g, hg⟩ : ∃ g, greatM m = g := ⟨_, rfl⟩
 obtain ⟨x, y, ce, he⟩ : ∃ x y c, meanM m k = ((x, y), c) := ⟨_, _, _, rfl⟩
 obtain ⟨r, cf, hf⟩ : ∃ r c, betweenM m low high = (r, c) := ⟨_, _, rfl⟩
 obtain ⟨kR, sR, cg, hgv⟩ : ∃ k s c, giveM m = ((k, s), c) := ⟨_, _, _, rfl⟩
 have HG := Lib.hid hg
 have HE := Lib.hid he
 have HF := Lib.hid hf
 have HV := Lib.hid hgv
 have mXY := Lib.hid (mean_may he)
 have mKS := Lib.hid (give_may hR hgv)
 have LW := Lib.hid (wf_i64 hl)
 have HW := Lib.hid (wf_i64 hh)
 have BL : Hid (ce = 0 → cf = 0 → cmpD x y ≤ 0 ∧ (r = true → cmpD (whole low) x ≤ 0 ∧ cmpD y (whole high) ≤ 0)) := Lib.hid fun h1 h2 => band_share hR (h1 ▸ he) (h2 ▸ hf)
 have GI : Hid (cg = 0 → m.share ∧ m.W.n ≠ 0 ∧ (halfD (dnM m 0)).2 = 0 ∧ (halfD (dnM m 1)).2 = 0 ∧ (∀ x, x < 4 → kR x = if x = 0 then (halfD (dnM m 0)).1 else if x = 1 then (halfD (dnM m 1)).1 else dnM m x) ∧ (∀ x, x < 4 → sR x = if x = 0 then (halfD (dnM m 0)).1 else if x = 1 then (halfD (dnM m 1)).1 else Dn.zero)) := Lib.hid fun h => give_inv hR (h ▸ hgv)
 clear hg he hf hgv
 go_enter Tryd.func6, Tryd.ntmps6
 go_wp2_with fail
 refine (alive15_any w1 (tab_later hT j1)).mono ?_
 rintro e' v1 ⟨rfl, j2⟩
 try clear hw
 obtain ⟨⟨q30, q31, q32, q33, q34, q35, q36, q37, q38, q39, q310, q311⟩, q3f⟩ := MBox.cells (box_later bM j2 S1)
 go_wp2_with fail
 refine (RGreat_any v1 m (MRows.on hR (lz j1 j2)) g HG.out).mono ?_
 rintro e' v4 ⟨rfl, j5⟩
 clear q30 q31 q32 q33 q34 q35 q36 q37 q38 q39 q310 q311 q3f
 try clear hw
 cases g
 rotate_left
 · go_wp2
   go_ret
   exact ⟨rfl, (lz j1 (lz j2 j5))⟩
 · obtain ⟨⟨q60, q61, q62, q63, q64, q65, q66, q67, q68, q69, q610, q611⟩, q6f⟩ := MBox.cells (box_later bM (lz j2 j5) S1)
   go_wp2_with fail
   refine (Mean_num v4 m k (MRows.on hR (lz j1 (lz j2 j5))) x y ce HE.out).mono ?_
   rintro e' v7 ⟨X, Y, rfl, j8, iX, iY, B1, l1, l2, RX, RY⟩
   clear q60 q61 q62 q63 q64 q65 q66 q67 q68 q69 q610 q611 q6f
   try clear hw
   replace iX := Lib.hid iX
   replace iY := Lib.hid iY
   replace RX := RX.more (Nat.zero_le _) l2
   replace RY := RY.more (Nat.zero_le _) (Nat.le_refl _)
   clear l1 l2
   obtain ⟨v9, hw⟩ : ∃ U, (v7.alloc (.cells #[.bool X.s, .slice X.A X.n X.c, .int .i64 X.e] 24)).alloc (.cells #[.bool Y.s, .slice Y.A Y.n Y.c, .int .i64 Y.e] 24) = U := ⟨_, rfl⟩
   obtain ⟨bX, bY, j10, s11_, s11__⟩ := boxes2 v7 _ _ hw
   replace j10 : Below v7.heap.size v7 v9 := j10
   replace bX : v9.heap[v7.heap.size]? = some (.cells #[.bool X.s, .slice X.A X.n X.c, .int .i64 X.e] 24 (0, 0)) := bX
   replace bY : v9.heap[v7.heap.size + 1]? = some (.cells #[.bool Y.s, .slice Y.A Y.n Y.c, .int .i64 Y.e] 24 (0, 0)) := bY
   have s11 : v7.heap.size < v9.heap.size := by omega
   have s11b : v7.heap.size + 1 < v9.heap.size := by omega
   obtain ⟨⟨q120, q121, q122, q123, q124, q125, q126, q127, q128, q129, q1210, q1211⟩, q12f⟩ := MBox.cells (box_later bM (lz j2 (lz j5 (lz j8 j10))) S1)
   go_wp2_with fail
   refine (Between_num v9 m low high hl hh (MRows.on hR (lz j1 (lz j2 (lz j5 (lz j8 j10))))) (tab_later hT (lz j1 (lz j2 (lz j5 (lz j8 j10))))) r cf HF.out).mono ?_
   rintro e' v13 ⟨rfl, j14⟩
   clear q120 q121 q122 q123 q124 q125 q126 q127 q128 q129 q1210 q1211 q12f
   try clear hw
   obtain ⟨⟨q150, q151, q152, q153, q154, q155, q156, q157, q158, q159, q1510, q1511⟩, q15f⟩ := MBox.cells (box_later bM (lz j2 (lz j5 (lz j8 (lz j10 j14)))) S1)
   go_wp2_with fail
   refine (Give_num v13 m (MRows.on hR (lz j1 (lz j2 (lz j5 (lz j8 (lz j10 j14)))))) (tab_later hT (lz j1 (lz j2 (lz j5 (lz j8 (lz j10 j14)))))) kR sR cg HV.out).mono ?_
   rintro e' v16 ⟨k0, s0, rfl, j17, ik, is, B2, l1, l2, Rk, Rs⟩
   clear q150 q151 q152 q153 q154 q155 q156 q157 q158 q159 q1510 q1511 q15f
   try clear hw
   replace ik := Lib.hid ik
   replace is := Lib.hid is
   replace Rk := Rk.more (Nat.zero_le _) l2
   replace Rs := Rs.more (Nat.zero_le _) (Nat.le_refl _)
   clear l1 l2
   obtain ⟨v18, hw, bk, bs, j19, s20_⟩ := alloc_mm v16 k0 s0
   have s20 : v16.heap.size < v18.heap.size := by omega
   have s20b : v16.heap.size + 1 < v18.heap.size := by omega
   by_cases hg0 : cg = 0
   · obtain ⟨gs, gn, g1, g2, g3, g4⟩ := GI.out hg0
     obtain ⟨_, _, km⟩ := half_mean hR gs gn g1 g2 Rk ik.out mKS.out.1 (g3 0 (by decide)) (g3 1 (by decide))
     obtain ⟨_, _, sm_⟩ := half_mean hR gs gn g1 g2 Rs is.out mKS.out.2 (g4 0 (by decide)) (g4 1 (by decide))
     have KM := Lib.hid ((km k).trans HE.out)
     have SM := Lib.hid ((sm_ k).trans HE.out)
     subst hg0
     clear gs gn g1 g2 g3 g4 km sm_
     obtain ⟨⟨q210, q211, q212, q213, q214, q215, q216, q217, q218, q219, q2110, q2111⟩, q21f⟩ := MBox.cells bk
     go_wp2_with fail
     refine (Mean_num v18 k0 k (MRows.on Rk j19) x y ce KM.out).mono ?_
     rintro e' v22 ⟨P, Q, rfl, j23, iP, iQ, B3, l1, l2, RP, RQ⟩
     clear q210 q211 q212 q213 q214 q215 q216 q217 q218 q219 q2110 q2111 q21f
     try clear hw
     replace iP := Lib.hid iP
     replace iQ := Lib.hid iQ
     replace RP := RP.more (Nat.zero_le _) l2
     replace RQ := RQ.more (Nat.zero_le _) (Nat.le_refl _)
     clear l1 l2
     obtain ⟨v24, hw⟩ : ∃ U, (v22.alloc (.cells #[.bool P.s, .slice P.A P.n P.c, .int .i64 P.e] 24)).alloc (.cells #[.bool Q.s, .slice Q.A Q.n Q.c, .int .i64 Q.e] 24) = U := ⟨_, rfl⟩
     obtain ⟨bP, bQ, j25, s26_, s26__⟩ := boxes2 v22 _ _ hw
     replace j25 : Below v22.heap.size v22 v24 := j25
     replace bP : v24.heap[v22.heap.size]? = some (.cells #[.bool P.s, .slice P.A P.n P.c, .int .i64 P.e] 24 (0, 0)) := bP
     replace bQ : v24.heap[v22.heap.size + 1]? = some (.cells #[.bool Q.s, .slice Q.A Q.n Q.c, .int .i64 Q.e] 24 (0, 0)) := bQ
     have s26 : v22.heap.size < v24.heap.size := by omega
     have s26b : v22.heap.size + 1 < v24.heap.size := by omega
     obtain ⟨⟨q270, q271, q272, q273, q274, q275, q276, q277, q278, q279, q2710, q2711⟩, q27f⟩ := MBox.cells (box_later bs (lz j23 j25) s20b)
     go_wp2_with fail
     refine (Mean_num v24 s0 k (MRows.on Rs (lz j19 (lz j23 j25))) x y ce SM.out).mono ?_
     rintro e' v28 ⟨UX, VX, rfl, j29, iU, iV, B4, l1, l2, RU, RV⟩
     clear q270 q271 q272 q273 q274 q275 q276 q277 q278 q279 q2710 q2711 q27f
     try clear hw
     replace iU := Lib.hid iU
     replace iV := Lib.hid iV
     replace RU := RU.more (Nat.zero_le _) l2
     replace RV := RV.more (Nat.zero_le _) (Nat.le_refl _)
     clear l1 l2
     obtain ⟨v30, hw⟩ : ∃ U, (v28.alloc (.cells #[.bool UX.s, .slice UX.A UX.n UX.c, .int .i64 UX.e] 24)).alloc (.cells #[.bool VX.s, .slice VX.A VX.n VX.c, .int .i64 VX.e] 24) = U := ⟨_, rfl⟩
     obtain ⟨bU, bV, j31, s32_, s32__⟩ := boxes2 v28 _ _ hw
     replace j31 : Below v28.heap.size v28 v30 := j31
     replace bU : v30.heap[v28.heap.size]? = some (.cells #[.bool UX.s, .slice UX.A UX.n UX.c, .int .i64 UX.e] 24 (0, 0)) := bU
     replace bV : v30.heap[v28.heap.size + 1]? = some (.cells #[.bool VX.s, .slice VX.A VX.n VX.c, .int .i64 VX.e] 24 (0, 0)) := bV
     have s32 : v28.heap.size < v30.heap.size := by omega
     have s32b : v28.heap.size + 1 < v30.heap.size := by omega
     have hne : (ce != ce) = false := by simp
     obtain ⟨⟨q330, q331, q332⟩, q333, q334, q335⟩ := boxD (box_later bP (lz j29 j31) s26)
     obtain ⟨⟨q340, q341, q342⟩, q343, q344, q345⟩ := boxD (box_later bX (lz j14 (lz j17 (lz j19 (lz j23 (lz j25 (lz j29 j31)))))) s11)
     go_wp2_with fail
     refine (Pa.dyadSame_any v30 _ _ _ _ _ _ _ _ _ _ _ _ (ints_on RP (lz j25 (lz j29 j31))) (ints_on RX (lz j10 (lz j14 (lz j17 (lz j19 (lz j23 (lz j25 (lz j29 j31)))))))) true (iP.out.same iX.out)).mono ?_
     rintro e' v35 ⟨rfl, j36⟩
     clear q330 q331 q332 q333 q334 q335 q340 q341 q342 q343 q344 q345
     try clear hw
     obtain ⟨⟨q370, q371, q372⟩, q373, q374, q375⟩ := boxD (box_later bQ (lz j29 (lz j31 j36)) s26b)
     obtain ⟨⟨q380, q381, q382⟩, q383, q384, q385⟩ := boxD (box_later bY (lz j14 (lz j17 (lz j19 (lz j23 (lz j25 (lz j29 (lz j31 j36))))))) s11b)
     go_wp2_with fail
     refine (Pa.dyadSame_any v35 _ _ _ _ _ _ _ _ _ _ _ _ (ints_on RQ (lz j25 (lz j29 (lz j31 j36)))) (ints_on RY (lz j10 (lz j14 (lz j17 (lz j19 (lz j23 (lz j25 (lz j29 (lz j31 j36))))))))) true (iQ.out.same iY.out)).mono ?_
     rintro e' v39 ⟨rfl, j40⟩
     clear q370 q371 q372 q373 q374 q375 q380 q381 q382 q383 q384 q385
     try clear hw
     obtain ⟨⟨q410, q411, q412⟩, q413, q414, q415⟩ := boxD (box_later bU (lz j36 j40) s32)
     obtain ⟨⟨q420, q421, q422⟩, q423, q424, q425⟩ := boxD (box_later bX (lz j14 (lz j17 (lz j19 (lz j23 (lz j25 (lz j29 (lz j31 (lz j36 j40)))))))) s11)
     go_wp2_with fail
     refine (Pa.dyadSame_any v39 _ _ _ _ _ _ _ _ _ _ _ _ (ints_on RU (lz j31 (lz j36 j40))) (ints_on RX (lz j10 (lz j14 (lz j17 (lz j19 (lz j23 (lz j25 (lz j29 (lz j31 (lz j36 j40)))))))))) true (iU.out.same iX.out)).mono ?_
     rintro e' v43 ⟨rfl, j44⟩
     clear q410 q411 q412 q413 q414 q415 q420 q421 q422 q423 q424 q425
     try clear hw
     obtain ⟨⟨q450, q451, q452⟩, q453, q454, q455⟩ := boxD (box_later bV (lz j36 (lz j40 j44)) s32b)
     obtain ⟨⟨q460, q461, q462⟩, q463, q464, q465⟩ := boxD (box_later bY (lz j14 (lz j17 (lz j19 (lz j23 (lz j25 (lz j29 (lz j31 (lz j36 (lz j40 j44))))))))) s11b)
     go_wp2_with fail
     refine (Pa.dyadSame_any v43 _ _ _ _ _ _ _ _ _ _ _ _ (ints_on RV (lz j31 (lz j36 (lz j40 j44)))) (ints_on RY (lz j10 (lz j14 (lz j17 (lz j19 (lz j23 (lz j25 (lz j29 (lz j31 (lz j36 (lz j40 j44))))))))))) true (iV.out.same iY.out)).mono ?_
     rintro e' v47 ⟨rfl, j48⟩
     clear q450 q451 q452 q453 q454 q455 q460 q461 q462 q463 q464 q465
     try clear hw
     by_cases he0 : ce = 0
     rotate_left
     · have heb : (ce != 0) = true := by simpa using he0
       have heb2 : (ce == 0) = false := by simpa using he0
       clear he0
       go_wp2
       go_ret
       exact ⟨rfl, (lz j1 (lz j2 (lz j5 (lz j8 (lz j10 (lz j14 (lz j17 (lz j19 (lz j23 (lz j25 (lz j29 (lz j31 (lz j36 (lz j40 (lz j44 j48)))))))))))))))⟩
     · by_cases hf0 : cf = 0
       rotate_left
       · subst he0
         have hfb : (cf != 0) = true := by simpa using hf0
         have hfb2 : (cf == 0) = false := by simpa using hf0
         clear hf0
         go_wp2
         go_ret
         exact ⟨rfl, (lz j1 (lz j2 (lz j5 (lz j8 (lz j10 (lz j14 (lz j17 (lz j19 (lz j23 (lz j25 (lz j29 (lz j31 (lz j36 (lz j40 (lz j44 j48)))))))))))))))⟩
       · obtain ⟨q1, q2⟩ := BL.out he0 hf0
         subst he0 hf0
         obtain ⟨c0, h0⟩ : ∃ c, cmpD x y = c := ⟨_, rfl⟩
         obtain ⟨c1, h1⟩ : ∃ c, cmpD (whole low) x = c := ⟨_, rfl⟩
         obtain ⟨c2, h2⟩ : ∃ c, cmpD y (whole high) = c := ⟨_, rfl⟩
         have C0 := Lib.hid (cmp_two iX.out iY.out mXY.out.1 mXY.out.2)
         obtain ⟨s1, hs1⟩ : ∃ s, decide (low < 0) = s := ⟨_, rfl⟩
         obtain ⟨a1, ha1⟩ : ∃ s, low.natAbs = s := ⟨_, rfl⟩
         obtain ⟨s2, hs2⟩ : ∃ s, decide (high < 0) = s := ⟨_, rfl⟩
         obtain ⟨a2, ha2⟩ : ∃ s, high.natAbs = s := ⟨_, rfl⟩
         have C1 := Lib.hid (cmp_is iX.out mXY.out.1 LW.out.1 LW.out.2 hs1 ha1).1
         have C2 := Lib.hid (cmp_is iY.out mXY.out.2 HW.out.1 HW.out.2 hs2 ha2).2
         have D1 := Lib.hid hs1
         have D2 := Lib.hid ha1
         have D3 := Lib.hid hs2
         have D4 := Lib.hid ha2
         rw [h0] at q1 C0
         rw [h1, h2] at q2
         rw [h1] at C1
         rw [h2] at C2
         have Q2 := Lib.hid q2
         clear h0 h1 h2 hs1 ha1 hs2 ha2 q2 BL GI
         obtain ⟨⟨q490, q491, q492⟩, q493, q494, q495⟩ := boxD (box_later bX (lz j14 (lz j17 (lz j19 (lz j23 (lz j25 (lz j29 (lz j31 (lz j36 (lz j40 (lz j44 j48)))))))))) s11)
         obtain ⟨⟨q500, q501, q502⟩, q503, q504, q505⟩ := boxD (box_later bY (lz j14 (lz j17 (lz j19 (lz j23 (lz j25 (lz j29 (lz j31 (lz j36 (lz j40 (lz j44 j48)))))))))) s11b)
         go_wp2_with fail
         refine (Cmp_all v47 X.s Y.s X.A Y.A X.n X.c Y.n Y.c _ _ X.e Y.e (ints_on RX (lz j10 (lz j14 (lz j17 (lz j19 (lz j23 (lz j25 (lz j29 (lz j31 (lz j36 (lz j40 (lz j44 j48)))))))))))) (ints_on RY (lz j10 (lz j14 (lz j17 (lz j19 (lz j23 (lz j25 (lz j29 (lz j31 (lz j36 (lz j40 (lz j44 j48)))))))))))) (tab_later hT (lz j1 (lz j2 (lz j5 (lz j8 (lz j10 (lz j14 (lz j17 (lz j19 (lz j23 (lz j25 (lz j29 (lz j31 (lz j36 (lz j40 (lz j44 j48)))))))))))))))) c0 0 C0.out).mono ?_
         rintro e' v51 ⟨rfl, j52⟩
         clear q490 q491 q492 q493 q494 q495 q500 q501 q502 q503 q504 q505
         try clear hw
         go_wp2_with fail
         try clear hw
         refine region_E (Keeps v51) [] (m := 9) (L := #[zF,zF,zF,zF,zF,zF,zF,zF,zF]) (by kernel_rfl) (by rfl) (by rfl) ?_
         have j54 : Below v51.heap.size v51 v51.drew := (Below.refl _ _).drew
         generalize v51.drew = v53 at *
         refine zE 0 #[zT,zF,zF,zF,zF,zF,zF,zF,zF] ?_ rfl ?hy1 ?rest1
         case hy1 => intro w; go_simp; (try with_reducible rfl)
         try simp only [Act.put, zp]
         have kpy55 : Keeps v51 v53 := fun p hp => Below.block j54 p hp
         refine readE (i := 2) (L := #[zT,zF,zT,zF,zF,zF,zF,zF,zF]) (v := .agg #[.bool X.s, .slice X.A X.n X.c, .int .i64 X.e]) rfl (by rfl) (by kernel_rfl) (by kernel_rfl) (by kernel_rfl) (fun _ _ _ h => h) (by assumption) (by rfl) ?y55 ?z56
         case y55 =>
          intro w' h1
          obtain ⟨⟨p1, p2, p3⟩, p4, p5, p6⟩ := boxD ((h1 _ (Nat.lt_of_lt_of_le s11 (Below.size (lz j14 (lz j17 (lz j19 (lz j23 (lz j25 (lz j29 (lz j31 (lz j36 (lz j40 (lz j44 (lz j48 j52)))))))))))))).trans (box_later bX (lz j14 (lz j17 (lz j19 (lz j23 (lz j25 (lz j29 (lz j31 (lz j36 (lz j40 (lz j44 (lz j48 j52))))))))))) s11))
          go_simp
         try simp only [Act.put, zp]
         refine stepK (i := 1) (L := #[zT,zT,zT,zF,zF,zF,zF,zF,zF]) rfl (by rfl) (by kernel_rfl) (by rfl) (fun K hK => ?_)
         go_simp
         go_at_call 25
         refine (Of_any v53 low LW.out.1 LW.out.2 s1 a1 D1.out D2.out).mono ?_
         rintro e' v57 ⟨X9, n9, rfl, j58, I9⟩
         replace I9 := ints_all I9
         refine hK _ _ ⟨fun _ _ => fun p hp => Below.block (lz j54 j58) p hp, ?_⟩
         clear hK K
         try simp only [Act.put, zp]
         refine stepK (i := 3) (L := #[zT,zT,zT,zT,zF,zF,zF,zF,zF]) rfl (by rfl) (by kernel_rfl) (by rfl) (fun K hK => ?_)
         go_simp
         go_at_call 27
         refine (Cmp_all v57 s1 X.s X9 X.A n9 n9 X.n X.c _ _ 0 X.e I9 (ints_on RX (lz j10 (lz j14 (lz j17 (lz j19 (lz j23 (lz j25 (lz j29 (lz j31 (lz j36 (lz j40 (lz j44 (lz j48 (lz j52 (lz j54 j58))))))))))))))) (tab_later hT (lz j1 (lz j2 (lz j5 (lz j8 (lz j10 (lz j14 (lz j17 (lz j19 (lz j23 (lz j25 (lz j29 (lz j31 (lz j36 (lz j40 (lz j44 (lz j48 (lz j52 (lz j54 j58))))))))))))))))))) c1 0 C1.out).mono ?_
         rintro e' v59 ⟨rfl, j60⟩
         refine hK _ _ ⟨fun _ _ => fun p hp => Below.block (lz j54 (lz j58 j60)) p hp, ?_⟩
         clear hK K
         try simp only [Act.put, zp]
         refine zE 4 #[zT,zT,zT,zT,zT,zF,zF,zF,zF] ?_ rfl ?hy5 ?rest5
         case hy5 => intro w; go_simp; (try with_reducible rfl)
         try simp only [Act.put, zp]
         refine zE 5 #[zT,zT,zT,zT,zT,zT,zF,zF,zF] ?_ rfl ?hy6 ?rest6
         case hy6 => intro w; go_simp; (try with_reducible rfl)
         try simp only [Act.put, zp]
         refine zE 6 #[zT,zT,zT,zT,zT,zT,zT,zF,zF] ?_ rfl ?hy7 ?rest7
         case hy7 => intro w; go_simp; (try with_reducible rfl)
         try simp only [Act.put, zp]
         refine zE 7 #[zT,zT,zT,zT,zT,zT,zT,zT,zF] ?_ rfl ?hy8 ?rest8
         case hy8 => intro w; go_simp; (try with_reducible rfl)
         try simp only [Act.put, zp]
         refine zE 8 #[zT,zT,zT,zT,zT,zT,zT,zT,zT] ?_ rfl ?hy9 ?rest9
         case hy9 => intro w; go_simp; (try with_reducible rfl)
         try simp only [Act.put, zp]
         refine doneE (by kernel_rfl) ?_ _
         go_wp2_with fail
         try clear hw
         refine region_E (Keeps v59) [] (m := 9) (L := #[zF,zF,zF,zF,zF,zF,zF,zF,zF]) (by kernel_rfl) (by rfl) (by rfl) ?_
         have j62 : Below v59.heap.size v59 v59.drew := (Below.refl _ _).drew
         generalize v59.drew = v61 at *
         have kpy63 : Keeps v59 v61 := fun p hp => Below.block j62 p hp
         refine readE (i := 0) (L := #[zT,zF,zF,zF,zF,zF,zF,zF,zF]) (v := .agg #[.bool Y.s, .slice Y.A Y.n Y.c, .int .i64 Y.e]) rfl (by rfl) (by kernel_rfl) (by kernel_rfl) (by kernel_rfl) (fun _ _ _ h => h) (by assumption) (by rfl) ?y63 ?z64
         case y63 =>
          intro w' h1
          obtain ⟨⟨p1, p2, p3⟩, p4, p5, p6⟩ := boxD ((h1 _ (Nat.lt_of_lt_of_le s11b (Below.size (lz j14 (lz j17 (lz j19 (lz j23 (lz j25 (lz j29 (lz j31 (lz j36 (lz j40 (lz j44 (lz j48 (lz j52 (lz j54 (lz j58 j60))))))))))))))))).trans (box_later bY (lz j14 (lz j17 (lz j19 (lz j23 (lz j25 (lz j29 (lz j31 (lz j36 (lz j40 (lz j44 (lz j48 (lz j52 (lz j54 (lz j58 j60)))))))))))))) s11b))
          go_simp
         try simp only [Act.put, zp]
         refine zE 1 #[zT,zT,zF,zF,zF,zF,zF,zF,zF] ?_ rfl ?hy11 ?rest11
         case hy11 => intro w; go_simp; (try with_reducible rfl)
         try simp only [Act.put, zp]
         refine stepK (i := 2) (L := #[zT,zT,zT,zF,zF,zF,zF,zF,zF]) rfl (by rfl) (by kernel_rfl) (by rfl) (fun K hK => ?_)
         go_simp
         go_at_call 25
         refine (Of_any v61 high HW.out.1 HW.out.2 s2 a2 D3.out D4.out).mono ?_
         rintro e' v65 ⟨X8, n8, rfl, j66, I8⟩
         replace I8 := ints_all I8
         refine hK _ _ ⟨fun _ _ => fun p hp => Below.block (lz j62 j66) p hp, ?_⟩
         clear hK K
         try simp only [Act.put, zp]
         refine stepK (i := 3) (L := #[zT,zT,zT,zT,zF,zF,zF,zF,zF]) rfl (by rfl) (by kernel_rfl) (by rfl) (fun K hK => ?_)
         go_simp
         go_at_call 27
         refine (Cmp_all v65 Y.s s2 Y.A X8 Y.n Y.c n8 n8 _ _ Y.e 0 (ints_on RY (lz j10 (lz j14 (lz j17 (lz j19 (lz j23 (lz j25 (lz j29 (lz j31 (lz j36 (lz j40 (lz j44 (lz j48 (lz j52 (lz j54 (lz j58 (lz j60 (lz j62 j66)))))))))))))))))) I8 (tab_later hT (lz j1 (lz j2 (lz j5 (lz j8 (lz j10 (lz j14 (lz j17 (lz j19 (lz j23 (lz j25 (lz j29 (lz j31 (lz j36 (lz j40 (lz j44 (lz j48 (lz j52 (lz j54 (lz j58 (lz j60 (lz j62 j66)))))))))))))))))))))) c2 0 C2.out).mono ?_
         rintro e' v67 ⟨rfl, j68⟩
         refine hK _ _ ⟨fun _ _ => fun p hp => Below.block (lz j62 (lz j66 j68)) p hp, ?_⟩
         clear hK K
         try simp only [Act.put, zp]
         refine zE 4 #[zT,zT,zT,zT,zT,zF,zF,zF,zF] ?_ rfl ?hy14 ?rest14
         case hy14 => intro w; go_simp; (try with_reducible rfl)
         try simp only [Act.put, zp]
         refine zE 5 #[zT,zT,zT,zT,zT,zT,zF,zF,zF] ?_ rfl ?hy15 ?rest15
         case hy15 => intro w; go_simp; (try with_reducible rfl)
         try simp only [Act.put, zp]
         refine zE 6 #[zT,zT,zT,zT,zT,zT,zT,zF,zF] ?_ rfl ?hy16 ?rest16
         case hy16 => intro w; go_simp; (try with_reducible rfl)
         try simp only [Act.put, zp]
         refine zE 7 #[zT,zT,zT,zT,zT,zT,zT,zT,zF] ?_ rfl ?hy17 ?rest17
         case hy17 => intro w; go_simp; (try with_reducible rfl)
         try simp only [Act.put, zp]
         refine zE 8 #[zT,zT,zT,zT,zT,zT,zT,zT,zT] ?_ rfl ?hy18 ?rest18
         case hy18 => intro w; go_simp; (try with_reducible rfl)
         try simp only [Act.put, zp]
         refine doneE (by kernel_rfl) ?_ _
         cases r
         · go_wp2
           go_ret
           exact ⟨rfl, (lz j1 (lz j2 (lz j5 (lz j8 (lz j10 (lz j14 (lz j17 (lz j19 (lz j23 (lz j25 (lz j29 (lz j31 (lz j36 (lz j40 (lz j44 (lz j48 (lz j52 (lz j54 (lz j58 (lz j60 (lz j62 (lz j66 j68))))))))))))))))))))))⟩
         · obtain ⟨q3, q4⟩ := Q2.out rfl
           clear Q2
           go_wp2
           go_ret
           exact ⟨rfl, (lz j1 (lz j2 (lz j5 (lz j8 (lz j10 (lz j14 (lz j17 (lz j19 (lz j23 (lz j25 (lz j29 (lz j31 (lz j36 (lz j40 (lz j44 (lz j48 (lz j52 (lz j54 (lz j58 (lz j60 (lz j62 (lz j66 j68))))))))))))))))))))))⟩
   · have hgb : (cg != 0) = true := by simpa using hg0
     have hgb2 : (cg == 0) = false := by simpa using hg0
     clear hg0 GI
     have GI := BL
     by_cases he0 : ce = 0
     rotate_left
     · have heb : (ce != 0) = true := by simpa using he0
       have heb2 : (ce == 0) = false := by simpa using he0
       clear he0
       go_wp2
       go_ret
       exact ⟨rfl, (lz j1 (lz j2 (lz j5 (lz j8 (lz j10 (lz j14 (lz j17 j19)))))))⟩
     · by_cases hf0 : cf = 0
       rotate_left
       · subst he0
         have hfb : (cf != 0) = true := by simpa using hf0
         have hfb2 : (cf == 0) = false := by simpa using hf0
         clear hf0
         go_wp2
         go_ret
         exact ⟨rfl, (lz j1 (lz j2 (lz j5 (lz j8 (lz j10 (lz j14 (lz j17 j19)))))))⟩
       · obtain ⟨q1, q2⟩ := BL.out he0 hf0
         subst he0 hf0
         obtain ⟨c0, h0⟩ : ∃ c, cmpD x y = c := ⟨_, rfl⟩
         obtain ⟨c1, h1⟩ : ∃ c, cmpD (whole low) x = c := ⟨_, rfl⟩
         obtain ⟨c2, h2⟩ : ∃ c, cmpD y (whole high) = c := ⟨_, rfl⟩
         have C0 := Lib.hid (cmp_two iX.out iY.out mXY.out.1 mXY.out.2)
         obtain ⟨s1, hs1⟩ : ∃ s, decide (low < 0) = s := ⟨_, rfl⟩
         obtain ⟨a1, ha1⟩ : ∃ s, low.natAbs = s := ⟨_, rfl⟩
         obtain ⟨s2, hs2⟩ : ∃ s, decide (high < 0) = s := ⟨_, rfl⟩
         obtain ⟨a2, ha2⟩ : ∃ s, high.natAbs = s := ⟨_, rfl⟩
         have C1 := Lib.hid (cmp_is iX.out mXY.out.1 LW.out.1 LW.out.2 hs1 ha1).1
         have C2 := Lib.hid (cmp_is iY.out mXY.out.2 HW.out.1 HW.out.2 hs2 ha2).2
         have D1 := Lib.hid hs1
         have D2 := Lib.hid ha1
         have D3 := Lib.hid hs2
         have D4 := Lib.hid ha2
         rw [h0] at q1 C0
         rw [h1, h2] at q2
         rw [h1] at C1
         rw [h2] at C2
         have Q2 := Lib.hid q2
         clear h0 h1 h2 hs1 ha1 hs2 ha2 q2 BL GI
         obtain ⟨⟨q690, q691, q692⟩, q693, q694, q695⟩ := boxD (box_later bX (lz j14 (lz j17 j19)) s11)
         obtain ⟨⟨q700, q701, q702⟩, q703, q704, q705⟩ := boxD (box_later bY (lz j14 (lz j17 j19)) s11b)
         go_wp2_with fail
         refine (Cmp_all v18 X.s Y.s X.A Y.A X.n X.c Y.n Y.c _ _ X.e Y.e (ints_on RX (lz j10 (lz j14 (lz j17 j19)))) (ints_on RY (lz j10 (lz j14 (lz j17 j19)))) (tab_later hT (lz j1 (lz j2 (lz j5 (lz j8 (lz j10 (lz j14 (lz j17 j19)))))))) c0 0 C0.out).mono ?_
         rintro e' v71 ⟨rfl, j72⟩
         clear q690 q691 q692 q693 q694 q695 q700 q701 q702 q703 q704 q705
         try clear hw
         go_wp2_with fail
         try clear hw
         refine region_E (Keeps v71) [] (m := 9) (L := #[zF,zF,zF,zF,zF,zF,zF,zF,zF]) (by kernel_rfl) (by rfl) (by rfl) ?_
         have j74 : Below v71.heap.size v71 v71.drew := (Below.refl _ _).drew
         generalize v71.drew = v73 at *
         refine zE 0 #[zT,zF,zF,zF,zF,zF,zF,zF,zF] ?_ rfl ?hy19 ?rest19
         case hy19 => intro w; go_simp; (try with_reducible rfl)
         try simp only [Act.put, zp]
         have kpy75 : Keeps v71 v73 := fun p hp => Below.block j74 p hp
         refine readE (i := 2) (L := #[zT,zF,zT,zF,zF,zF,zF,zF,zF]) (v := .agg #[.bool X.s, .slice X.A X.n X.c, .int .i64 X.e]) rfl (by rfl) (by kernel_rfl) (by kernel_rfl) (by kernel_rfl) (fun _ _ _ h => h) (by assumption) (by rfl) ?y75 ?z76
         case y75 =>
          intro w' h1
          obtain ⟨⟨p1, p2, p3⟩, p4, p5, p6⟩ := boxD ((h1 _ (Nat.lt_of_lt_of_le s11 (Below.size (lz j14 (lz j17 (lz j19 j72)))))).trans (box_later bX (lz j14 (lz j17 (lz j19 j72))) s11))
          go_simp
         try simp only [Act.put, zp]
         refine stepK (i := 1) (L := #[zT,zT,zT,zF,zF,zF,zF,zF,zF]) rfl (by rfl) (by kernel_rfl) (by rfl) (fun K hK => ?_)
         go_simp
         go_at_call 25
         refine (Of_any v73 low LW.out.1 LW.out.2 s1 a1 D1.out D2.out).mono ?_
         rintro e' v77 ⟨X9, n9, rfl, j78, I9⟩
         replace I9 := ints_all I9
         refine hK _ _ ⟨fun _ _ => fun p hp => Below.block (lz j74 j78) p hp, ?_⟩
         clear hK K
         try simp only [Act.put, zp]
         refine stepK (i := 3) (L := #[zT,zT,zT,zT,zF,zF,zF,zF,zF]) rfl (by rfl) (by kernel_rfl) (by rfl) (fun K hK => ?_)
         go_simp
         go_at_call 27
         refine (Cmp_all v77 s1 X.s X9 X.A n9 n9 X.n X.c _ _ 0 X.e I9 (ints_on RX (lz j10 (lz j14 (lz j17 (lz j19 (lz j72 (lz j74 j78))))))) (tab_later hT (lz j1 (lz j2 (lz j5 (lz j8 (lz j10 (lz j14 (lz j17 (lz j19 (lz j72 (lz j74 j78))))))))))) c1 0 C1.out).mono ?_
         rintro e' v79 ⟨rfl, j80⟩
         refine hK _ _ ⟨fun _ _ => fun p hp => Below.block (lz j74 (lz j78 j80)) p hp, ?_⟩
         clear hK K
         try simp only [Act.put, zp]
         refine zE 4 #[zT,zT,zT,zT,zT,zF,zF,zF,zF] ?_ rfl ?hy23 ?rest23
         case hy23 => intro w; go_simp; (try with_reducible rfl)
         try simp only [Act.put, zp]
         refine zE 5 #[zT,zT,zT,zT,zT,zT,zF,zF,zF] ?_ rfl ?hy24 ?rest24
         case hy24 => intro w; go_simp; (try with_reducible rfl)
         try simp only [Act.put, zp]
         refine zE 6 #[zT,zT,zT,zT,zT,zT,zT,zF,zF] ?_ rfl ?hy25 ?rest25
         case hy25 => intro w; go_simp; (try with_reducible rfl)
         try simp only [Act.put, zp]
         refine zE 7 #[zT,zT,zT,zT,zT,zT,zT,zT,zF] ?_ rfl ?hy26 ?rest26
         case hy26 => intro w; go_simp; (try with_reducible rfl)
         try simp only [Act.put, zp]
         refine zE 8 #[zT,zT,zT,zT,zT,zT,zT,zT,zT] ?_ rfl ?hy27 ?rest27
         case hy27 => intro w; go_simp; (try with_reducible rfl)
         try simp only [Act.put, zp]
         refine doneE (by kernel_rfl) ?_ _
         go_wp2_with fail
         try clear hw
         refine region_E (Keeps v79) [] (m := 9) (L := #[zF,zF,zF,zF,zF,zF,zF,zF,zF]) (by kernel_rfl) (by rfl) (by rfl) ?_
         have j82 : Below v79.heap.size v79 v79.drew := (Below.refl _ _).drew
         generalize v79.drew = v81 at *
         have kpy83 : Keeps v79 v81 := fun p hp => Below.block j82 p hp
         refine readE (i := 0) (L := #[zT,zF,zF,zF,zF,zF,zF,zF,zF]) (v := .agg #[.bool Y.s, .slice Y.A Y.n Y.c, .int .i64 Y.e]) rfl (by rfl) (by kernel_rfl) (by kernel_rfl) (by kernel_rfl) (fun _ _ _ h => h) (by assumption) (by rfl) ?y83 ?z84
         case y83 =>
          intro w' h1
          obtain ⟨⟨p1, p2, p3⟩, p4, p5, p6⟩ := boxD ((h1 _ (Nat.lt_of_lt_of_le s11b (Below.size (lz j14 (lz j17 (lz j19 (lz j72 (lz j74 (lz j78 j80))))))))).trans (box_later bY (lz j14 (lz j17 (lz j19 (lz j72 (lz j74 (lz j78 j80)))))) s11b))
          go_simp
         try simp only [Act.put, zp]
         refine zE 1 #[zT,zT,zF,zF,zF,zF,zF,zF,zF] ?_ rfl ?hy29 ?rest29
         case hy29 => intro w; go_simp; (try with_reducible rfl)
         try simp only [Act.put, zp]
         refine stepK (i := 2) (L := #[zT,zT,zT,zF,zF,zF,zF,zF,zF]) rfl (by rfl) (by kernel_rfl) (by rfl) (fun K hK => ?_)
         go_simp
         go_at_call 25
         refine (Of_any v81 high HW.out.1 HW.out.2 s2 a2 D3.out D4.out).mono ?_
         rintro e' v85 ⟨X8, n8, rfl, j86, I8⟩
         replace I8 := ints_all I8
         refine hK _ _ ⟨fun _ _ => fun p hp => Below.block (lz j82 j86) p hp, ?_⟩
         clear hK K
         try simp only [Act.put, zp]
         refine stepK (i := 3) (L := #[zT,zT,zT,zT,zF,zF,zF,zF,zF]) rfl (by rfl) (by kernel_rfl) (by rfl) (fun K hK => ?_)
         go_simp
         go_at_call 27
         refine (Cmp_all v85 Y.s s2 Y.A X8 Y.n Y.c n8 n8 _ _ Y.e 0 (ints_on RY (lz j10 (lz j14 (lz j17 (lz j19 (lz j72 (lz j74 (lz j78 (lz j80 (lz j82 j86)))))))))) I8 (tab_later hT (lz j1 (lz j2 (lz j5 (lz j8 (lz j10 (lz j14 (lz j17 (lz j19 (lz j72 (lz j74 (lz j78 (lz j80 (lz j82 j86)))))))))))))) c2 0 C2.out).mono ?_
         rintro e' v87 ⟨rfl, j88⟩
         refine hK _ _ ⟨fun _ _ => fun p hp => Below.block (lz j82 (lz j86 j88)) p hp, ?_⟩
         clear hK K
         try simp only [Act.put, zp]
         refine zE 4 #[zT,zT,zT,zT,zT,zF,zF,zF,zF] ?_ rfl ?hy32 ?rest32
         case hy32 => intro w; go_simp; (try with_reducible rfl)
         try simp only [Act.put, zp]
         refine zE 5 #[zT,zT,zT,zT,zT,zT,zF,zF,zF] ?_ rfl ?hy33 ?rest33
         case hy33 => intro w; go_simp; (try with_reducible rfl)
         try simp only [Act.put, zp]
         refine zE 6 #[zT,zT,zT,zT,zT,zT,zT,zF,zF] ?_ rfl ?hy34 ?rest34
         case hy34 => intro w; go_simp; (try with_reducible rfl)
         try simp only [Act.put, zp]
         refine zE 7 #[zT,zT,zT,zT,zT,zT,zT,zT,zF] ?_ rfl ?hy35 ?rest35
         case hy35 => intro w; go_simp; (try with_reducible rfl)
         try simp only [Act.put, zp]
         refine zE 8 #[zT,zT,zT,zT,zT,zT,zT,zT,zT] ?_ rfl ?hy36 ?rest36
         case hy36 => intro w; go_simp; (try with_reducible rfl)
         try simp only [Act.put, zp]
         refine doneE (by kernel_rfl) ?_ _
         cases r
         · go_wp2
           go_ret
           exact ⟨rfl, (lz j1 (lz j2 (lz j5 (lz j8 (lz j10 (lz j14 (lz j17 (lz j19 (lz j72 (lz j74 (lz j78 (lz j80 (lz j82 (lz j86 j88))))))))))))))⟩
         · obtain ⟨q3, q4⟩ := Q2.out rfl
           clear Q2
           go_wp2
           go_ret
           exact ⟨rfl, (lz j1 (lz j2 (lz j5 (lz j8 (lz j10 (lz j14 (lz j17 (lz j19 (lz j72 (lz j74 (lz j78 (lz j80 (lz j82 (lz j86 j88))))))))))))))⟩
end Ma
end Go.Proofs.YtbbnbgllgomolaaDoor