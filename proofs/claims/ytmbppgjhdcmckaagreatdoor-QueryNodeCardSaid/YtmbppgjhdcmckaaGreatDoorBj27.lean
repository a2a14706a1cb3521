/- query.Ask: a walk (printed by a program of mine). -/
import Derived.Test.YtmbppgjhdcmckaaGreatDoorBj26
set_option maxHeartbeats 102400000
set_option maxRecDepth 100000
namespace Go.Proofs.YtmbppgjhdcmckaaGreatDoor
open Go.RowKit
namespace Ma
open Dp Dy
noncomputable def qcr(p:Pv)(kind k:Int):Dn×Dn×Int :=
 if kind=1 then qeb p.M.C else if kind=2 then qb4 p.M.A p.M.C k else if kind=3 then qb4 p.M.S p.M.W k else
 if kind=4 then qf3 p.M k else if kind=5 then qjj p.h p.mn p.mx else if kind=6 then qe2 p.xs else (Dn.zero,Dn.zero,2)
noncomputable def ql7(p:Pv)(kind k:Int):Dn×Dn×Int :=
 if qd6 p=false then (Dn.zero,Dn.zero,8) else if k < 0∨64 < k then (Dn.zero,Dn.zero,2) else qcr p kind k
theorem qc1{p:Pv}(h:qd6 p=true):(-9223372036854775808<=p.mn/\p.mn<=9223372036854775807)/\(-9223372036854775808<=p.mx/\p.mx<=9223372036854775807)/\Least.checkCode p.xs=0:=by
 unfold qd6 at h
 simp only [Bool.and_eq_true,decide_eq_true_eq] at h
 obtain⟨_,h1,h2⟩:=h
 refine⟨?_,?_,h2⟩<;>(unfold qzb at h1; split at h1<;>simp only [decide_eq_true_eq] at h1<;>omega)
theorem qaz.rangeM{w:World}{g:Nat}{m:Mv}(h:qaz w g m):w.rangeAt g 0 (qcm m):=fun j v hj=>by
 rw [Nat.zero_add,cell_of_row w g j _ _ _ h]
 simpa [qcm] using hj
theorem q05(w:World)(p:Pv)(hR:PRows w 0 w.heap.size p)(hT:Tab w)(kind k:Int)(lo hi:Dn)(code:Int)(h:ql7 p kind k=(lo,hi,code)) :
  Calls Tryz.prog 10 #[.agg #[.bool p.M.S.s,.slice p.M.S.A p.M.S.n p.M.S.c,.int .i64 p.M.S.e,.bool p.M.W.s,.slice p.M.W.A p.M.W.n p.M.W.c,.int .i64 p.M.W.e,.bool p.M.C.s,.slice p.M.C.A p.M.C.n p.M.C.c,.int .i64 p.M.C.e,.bool p.M.A.s,.slice p.M.A.A p.M.A.n p.M.A.c,.int .i64 p.M.A.e,.bool p.h,.int .i64 p.mn,.int .i64 p.mx,.slice p.A p.n p.c],.int .u8 kind,.int .i64 k] w (qnz w lo hi code):=by
 obtain⟨w1,hw1,bP,j1,S1⟩:=alloc_p w p
 obtain⟨w2,hw2,bT,j2,S2⟩:=qba w1
 have s1:=j1.size
 have s2:=j2.size
 have z1:w1.heap.size=w.heap.size+1:=by rw [<-hw1]; simp
 have jw:Below w.heap.size w w2:=j1.trans (j2.mono s1)
 have S1':w.heap.size < w2.heap.size:=by omega
 replace bP:PBox w2 w.heap.size p:=(j2.block _ S1).trans bP
 subst hw1
 rw [z1] at bT S2
 obtain⟨m,hm⟩:∃ m,qd6 p=m:=⟨_,rfl⟩
 have HM:=Lib.hid hm
 have HH:=Lib.hid h
 clear hm h j1 j2
 go_enter Tryz.func10,Tryz.ntmps10
 have rP:=PBox.range bP
 go_wp2_with (first | (refine wpList_load_mid rfl 30 (.tmp 3) rfl w.heap.size 0 rfl [.bool p.M.S.s,.slice p.M.S.A p.M.S.n p.M.S.c,.int .i64 p.M.S.e,.bool p.M.W.s,.slice p.M.W.A p.M.W.n p.M.W.c,.int .i64 p.M.W.e,.bool p.M.C.s,.slice p.M.C.A p.M.C.n p.M.C.c,.int .i64 p.M.C.e,.bool p.M.A.s,.slice p.M.A.A p.M.A.n p.M.A.c,.int .i64 p.M.A.e,.bool p.h,.int .i64 p.mn,.int .i64 p.mx,.slice p.A p.n p.c] _ rP Tryz.underlying30 rfl (by kernel_rfl) ?_))
 clear rP
 refine (CheckPart_any w2 p (PRows.on hR jw) m HM.out).mono ?_
 rintro e' v1 ⟨rfl,j2⟩
 try clear hw
 cases m
 . have h:=HH.out
   unfold ql7 at h
   rw [if_pos HM.out] at h
   injection h with h1 h2
   injection h2 with h2 h3
   subst h1 h2 h3
   clear HH HM
   have bz_:qar v1 (w.heap.size+1) ZDv ZDv:=(qaa bT j2 S2)
   obtain⟨U_,hU_,bU_,hb_,hf_,l5_,l5'_⟩:=qaj bz_ ZDv ZDv
   have th_:=qar.there bz_
   replace hU_:v1.setCells ((w.heap.size+1)) 0 (#[.bool false,.slice none 0 0,.int .i64 0,.bool false,.slice none 0 0,.int .i64 0]:Array Value).toList=U_:=hU_
   have HU_:=Lib.hid hU_
   clear hU_
   have fin_:=hb_ _ _ (lz jw j2) (by omega)
   go_wp2_with (first | (refine wpList_store_mid rfl 32 (.tmp 6) (.tmp 15) rfl (w.heap.size+1) 0 #[.bool false,.slice none 0 0,.int .i64 0,.bool false,.slice none 0 0,.int .i64 0] rfl rfl th_ (by kernel_rfl) (all_oneCell_toArray (qac ZDv ZDv)) ?_; rw [HU_.out]))
   exact bodyPost_ret (qab Tryz.results10 _ _ (w.heap.size+1) 32 #[.bool false,.slice none 0 0,.int .i64 0,.bool false,.slice none 0 0,.int .i64 0] (0,0) _ (.int .i64 8) rfl rfl bU_ Tryz.underlying32 rfl (by kernel_rfl)) rfl (qbz _ _ _ fin_)
 skip
 by_cases k0:k < 0
 . have h:=HH.out
   unfold ql7 at h
   rw [if_neg (by rw [HM.out]; simp),if_pos (.inl k0)] at h
   injection h with h1 h2
   injection h2 with h2 h3
   subst h1 h2 h3
   clear HH HM
   have bz_:qar v1 (w.heap.size+1) ZDv ZDv:=(qaa bT j2 S2)
   obtain⟨U_,hU_,bU_,hb_,hf_,l5_,l5'_⟩:=qaj bz_ ZDv ZDv
   have th_:=qar.there bz_
   replace hU_:v1.setCells ((w.heap.size+1)) 0 (#[.bool false,.slice none 0 0,.int .i64 0,.bool false,.slice none 0 0,.int .i64 0]:Array Value).toList=U_:=hU_
   have HU_:=Lib.hid hU_
   clear hU_
   have fin_:=hb_ _ _ (lz jw j2) (by omega)
   go_wp2_with (first | (refine wpList_store_mid rfl 32 (.tmp 6) (.tmp 23) rfl (w.heap.size+1) 0 #[.bool false,.slice none 0 0,.int .i64 0,.bool false,.slice none 0 0,.int .i64 0] rfl rfl th_ (by kernel_rfl) (all_oneCell_toArray (qac ZDv ZDv)) ?_; rw [HU_.out]))
   exact bodyPost_ret (qab Tryz.results10 _ _ (w.heap.size+1) 32 #[.bool false,.slice none 0 0,.int .i64 0,.bool false,.slice none 0 0,.int .i64 0] (0,0) _ (.int .i64 2) rfl rfl bU_ Tryz.underlying32 rfl (by kernel_rfl)) rfl (qbz _ _ _ fin_)
 skip
 by_cases k1:64 < k
 . have h:=HH.out
   unfold ql7 at h
   rw [if_neg (by rw [HM.out]; simp),if_pos (.inr k1)] at h
   injection h with h1 h2
   injection h2 with h2 h3
   subst h1 h2 h3
   clear HH HM
   have bz_:qar v1 (w.heap.size+1) ZDv ZDv:=(qaa bT j2 S2)
   obtain⟨U_,hU_,bU_,hb_,hf_,l5_,l5'_⟩:=qaj bz_ ZDv ZDv
   have th_:=qar.there bz_
   replace hU_:v1.setCells ((w.heap.size+1)) 0 (#[.bool false,.slice none 0 0,.int .i64 0,.bool false,.slice none 0 0,.int .i64 0]:Array Value).toList=U_:=hU_
   have HU_:=Lib.hid hU_
   clear hU_
   have fin_:=hb_ _ _ (lz jw j2) (by omega)
   go_wp2_with (first | (refine wpList_store_mid rfl 32 (.tmp 6) (.tmp 23) rfl (w.heap.size+1) 0 #[.bool false,.slice none 0 0,.int .i64 0,.bool false,.slice none 0 0,.int .i64 0] rfl rfl th_ (by kernel_rfl) (all_oneCell_toArray (qac ZDv ZDv)) ?_; rw [HU_.out]))
   exact bodyPost_ret (qab Tryz.results10 _ _ (w.heap.size+1) 32 #[.bool false,.slice none 0 0,.int .i64 0,.bool false,.slice none 0 0,.int .i64 0] (0,0) _ (.int .i64 2) rfl rfl bU_ Tryz.underlying32 rfl (by kernel_rfl)) rfl (qbz _ _ _ fin_)
 skip
 replace HH:=Lib.hid (show qcr p kind k=(lo,hi,code) by have h:=HH.out; unfold ql7 at h; rw [if_neg (by rw [HM.out]; simp),if_neg (by omega)] at h; exact h)
 have HE:=Lib.hid (qc1 HM.out)
 clear HM
 have rM:=PBox.mass (qaa bP j2 S1')
 obtain⟨w3,hw3,bM,j3,S3⟩:=qe7 v1 p.M
 go_upto_region 7 with (first
  | (refine wpList_load_mid rfl 26 (.tmp 24) rfl w.heap.size 0 rfl [.bool p.M.S.s,.slice p.M.S.A p.M.S.n p.M.S.c,.int .i64 p.M.S.e,.bool p.M.W.s,.slice p.M.W.A p.M.W.n p.M.W.c,.int .i64 p.M.W.e,.bool p.M.C.s,.slice p.M.C.A p.M.C.n p.M.C.c,.int .i64 p.M.C.e,.bool p.M.A.s,.slice p.M.A.A p.M.A.n p.M.A.c,.int .i64 p.M.A.e] _ rM Tryz.underlying26 rfl (by kernel_rfl) ?_)
  | (refine qai rfl 26 (.tmp 9) (.tmp 25) rfl _ #[.bool p.M.S.s,.slice p.M.S.A p.M.S.n p.M.S.c,.int .i64 p.M.S.e,.bool p.M.W.s,.slice p.M.W.A p.M.W.n p.M.W.c,.int .i64 p.M.W.e,.bool p.M.C.s,.slice p.M.C.A p.M.C.n p.M.C.c,.int .i64 p.M.C.e,.bool p.M.A.s,.slice p.M.A.A p.M.A.n p.M.A.c,.int .i64 p.M.A.e] rfl rfl (by kernel_rfl) rfl (all_oneCell_toArray (qbu p.M)) ?_))
 try rw [hw3]
 try clear hw3
 clear rM
 by_cases c1:kind=1
 . subst c1
   obtain⟨⟨q30,q31,q32,q33,q34,q35,q36,q37,q38,q39,q310,q311⟩,q3f⟩:=qaz.cells bM
   go_wp2_with fail
   refine (qru w3 p.M.C (PRows.on hR (lz jw (lz j2 j3))).M.C).mono ?_
   rintro e' v4 ⟨V,rfl,TV,j5⟩
   clear q30 q31 q32 q33 q34 q35 q36 q37 q38 q39 q310 q311 q3f
   try clear hw
   obtain⟨cs,rfl,hV⟩:=TV
   rw [show qeb p.M.C=qcr p 1 k by unfold qcr; rw [if_pos rfl],HH.out] at hV
   clear HH HE
   have sz_:=Below.size (lz j2 (lz j3 j5))
   have szA_:=Below.size (lz jw (lz j2 (lz j3 j5)))
   have bT_:qar v4 (w.heap.size+1) ZDv ZDv:=(qaa bT (lz j2 (lz j3 j5)) S2)
   have bl_:Below w.heap.size w v4:=(lz jw (lz j2 (lz j3 j5)))
   go_wp2_with fail
   refine (hV v4 (Below.refl _ _)).mono ?_
   rintro e' u ⟨x,y,B,rfl,ix,iy,ju,l1,l2,rx,ry⟩
   have su:=ju.size
   have bTu:qar u (w.heap.size+1) ZDv ZDv:=(ju.block _ (by omega)).trans bT_
   have bu:Below w.heap.size w u:=bl_.trans (ju.mono (by omega))
   obtain⟨U,hU,bF,hbF,hfF,g1,g1'⟩:=qaj bTu x y
   have th:=qar.there bTu
   replace hU:u.setCells (w.heap.size+1) 0 (#[.bool x.s,.slice x.A x.n x.c,.int .i64 x.e,.bool y.s,.slice y.A y.n y.c,.int .i64 y.e]:Array Value).toList=U:=hU
   have HU:=Lib.hid hU
   clear hU
   go_wp2_with (first
    | (refine wpList_store_mid rfl 32 (.tmp 6) (.tmp 68) rfl (w.heap.size+1) 0 #[.bool x.s,.slice x.A x.n x.c,.int .i64 x.e,.bool y.s,.slice y.A y.n y.c,.int .i64 y.e] rfl rfl th (by kernel_rfl) (all_oneCell_toArray (qac x y)) ?_; rw [HU.out]))
   have fin:=hbF _ _ bu (by omega)
   exact bodyPost_ret (qab Tryz.results10 _ _ (w.heap.size+1) 32 #[.bool x.s,.slice x.A x.n x.c,.int .i64 x.e,.bool y.s,.slice y.A y.n y.c,.int .i64 y.e] (0,0) _ (.int .i64 code) rfl rfl bF Tryz.underlying32 rfl (by kernel_rfl)) rfl ⟨x,y,B,rfl,ix,iy,fin,by omega,by omega,(qaq rx (w':=U) (fun b h1 h2=>hfF b (by omega))).more (by omega) (Nat.le_refl _),(qaq ry (w':=U) (fun b h1 h2=>hfF b (by omega))).more (Nat.le_refl _) (by omega)⟩
 skip
 by_cases c2:kind=2
 . subst c2
   obtain⟨⟨q60,q61,q62,q63,q64,q65,q66,q67,q68,q69,q610,q611⟩,q6f⟩:=qaz.cells bM
   go_wp2_with fail
   refine (qfj w3 p.M.A p.M.C k (PRows.on hR (lz jw (lz j2 j3))).M.A (PRows.on hR (lz jw (lz j2 j3))).M.C).mono ?_
   rintro e' v7 ⟨V,rfl,TV,j8⟩
   clear q60 q61 q62 q63 q64 q65 q66 q67 q68 q69 q610 q611 q6f
   try clear hw
   obtain⟨cs,rfl,hV⟩:=TV
   rw [show qb4 p.M.A p.M.C k=qcr p 2 k by unfold qcr; rw [if_neg (by decide),if_pos rfl],HH.out] at hV
   clear HH HE
   have sz_:=Below.size (lz j2 (lz j3 j8))
   have szA_:=Below.size (lz jw (lz j2 (lz j3 j8)))
   have bT_:qar v7 (w.heap.size+1) ZDv ZDv:=(qaa bT (lz j2 (lz j3 j8)) S2)
   have bl_:Below w.heap.size w v7:=(lz jw (lz j2 (lz j3 j8)))
   go_wp2_with fail
   refine (hV v7 (Below.refl _ _)).mono ?_
   rintro e' u ⟨x,y,B,rfl,ix,iy,ju,l1,l2,rx,ry⟩
   have su:=ju.size
   have bTu:qar u (w.heap.size+1) ZDv ZDv:=(ju.block _ (by omega)).trans bT_
   have bu:Below w.heap.size w u:=bl_.trans (ju.mono (by omega))
   obtain⟨U,hU,bF,hbF,hfF,g1,g1'⟩:=qaj bTu x y
   have th:=qar.there bTu
   replace hU:u.setCells (w.heap.size+1) 0 (#[.bool x.s,.slice x.A x.n x.c,.int .i64 x.e,.bool y.s,.slice y.A y.n y.c,.int .i64 y.e]:Array Value).toList=U:=hU
   have HU:=Lib.hid hU
   clear hU
   go_wp2_with (first
    | (refine wpList_store_mid rfl 32 (.tmp 6) (.tmp 68) rfl (w.heap.size+1) 0 #[.bool x.s,.slice x.A x.n x.c,.int .i64 x.e,.bool y.s,.slice y.A y.n y.c,.int .i64 y.e] rfl rfl th (by kernel_rfl) (all_oneCell_toArray (qac x y)) ?_; rw [HU.out]))
   have fin:=hbF _ _ bu (by omega)
   exact bodyPost_ret (qab Tryz.results10 _ _ (w.heap.size+1) 32 #[.bool x.s,.slice x.A x.n x.c,.int .i64 x.e,.bool y.s,.slice y.A y.n y.c,.int .i64 y.e] (0,0) _ (.int .i64 code) rfl rfl bF Tryz.underlying32 rfl (by kernel_rfl)) rfl ⟨x,y,B,rfl,ix,iy,fin,by omega,by omega,(qaq rx (w':=U) (fun b h1 h2=>hfF b (by omega))).more (by omega) (Nat.le_refl _),(qaq ry (w':=U) (fun b h1 h2=>hfF b (by omega))).more (Nat.le_refl _) (by omega)⟩
 skip
 by_cases c3:kind=3
 . subst c3
   obtain⟨⟨q90,q91,q92,q93,q94,q95,q96,q97,q98,q99,q910,q911⟩,q9f⟩:=qaz.cells bM
   go_wp2_with fail
   refine (qfj w3 p.M.S p.M.W k (PRows.on hR (lz jw (lz j2 j3))).M.S (PRows.on hR (lz jw (lz j2 j3))).M.W).mono ?_
   rintro e' v10 ⟨V,rfl,TV,j11⟩
   clear q90 q91 q92 q93 q94 q95 q96 q97 q98 q99 q910 q911 q9f
   try clear hw
   obtain⟨cs,rfl,hV⟩:=TV
   rw [show qb4 p.M.S p.M.W k=qcr p 3 k by unfold qcr; rw [if_neg (by decide),if_neg (by decide),if_pos rfl],HH.out] at hV
   clear HH HE
   have sz_:=Below.size (lz j2 (lz j3 j11))
   have szA_:=Below.size (lz jw (lz j2 (lz j3 j11)))
   have bT_:qar v10 (w.heap.size+1) ZDv ZDv:=(qaa bT (lz j2 (lz j3 j11)) S2)
   have bl_:Below w.heap.size w v10:=(lz jw (lz j2 (lz j3 j11)))
   go_wp2_with fail
   refine (hV v10 (Below.refl _ _)).mono ?_
   rintro e' u ⟨x,y,B,rfl,ix,iy,ju,l1,l2,rx,ry⟩
   have su:=ju.size
   have bTu:qar u (w.heap.size+1) ZDv ZDv:=(ju.block _ (by omega)).trans bT_
   have bu:Below w.heap.size w u:=bl_.trans (ju.mono (by omega))
   obtain⟨U,hU,bF,hbF,hfF,g1,g1'⟩:=qaj bTu x y
   have th:=qar.there bTu
   replace hU:u.setCells (w.heap.size+1) 0 (#[.bool x.s,.slice x.A x.n x.c,.int .i64 x.e,.bool y.s,.slice y.A y.n y.c,.int .i64 y.e]:Array Value).toList=U:=hU
   have HU:=Lib.hid hU
   clear hU
   go_wp2_with (first
    | (refine wpList_store_mid rfl 32 (.tmp 6) (.tmp 68) rfl (w.heap.size+1) 0 #[.bool x.s,.slice x.A x.n x.c,.int .i64 x.e,.bool y.s,.slice y.A y.n y.c,.int .i64 y.e] rfl rfl th (by kernel_rfl) (all_oneCell_toArray (qac x y)) ?_; rw [HU.out]))
   have fin:=hbF _ _ bu (by omega)
   exact bodyPost_ret (qab Tryz.results10 _ _ (w.heap.size+1) 32 #[.bool x.s,.slice x.A x.n x.c,.int .i64 x.e,.bool y.s,.slice y.A y.n y.c,.int .i64 y.e] (0,0) _ (.int .i64 code) rfl rfl bF Tryz.underlying32 rfl (by kernel_rfl)) rfl ⟨x,y,B,rfl,ix,iy,fin,by omega,by omega,(qaq rx (w':=U) (fun b h1 h2=>hfF b (by omega))).more (by omega) (Nat.le_refl _),(qaq ry (w':=U) (fun b h1 h2=>hfF b (by omega))).more (Nat.le_refl _) (by omega)⟩
 skip
 by_cases c4:kind=4
 . subst c4
   have rM:=qaz.rangeM bM
   go_wp2_with (first | (refine wpList_load_mid rfl 26 (.tmp 9) rfl (v1.heap.size) 0 rfl [.bool p.M.S.s,.slice p.M.S.A p.M.S.n p.M.S.c,.int .i64 p.M.S.e,.bool p.M.W.s,.slice p.M.W.A p.M.W.n p.M.W.c,.int .i64 p.M.W.e,.bool p.M.C.s,.slice p.M.C.A p.M.C.n p.M.C.c,.int .i64 p.M.C.e,.bool p.M.A.s,.slice p.M.A.A p.M.A.n p.M.A.c,.int .i64 p.M.A.e] _ rM Tryz.underlying26 rfl (by kernel_rfl) ?_))
   clear rM
   refine (qt8 w3 p.M (PRows.on hR (lz jw (lz j2 j3))).M k).mono ?_
   rintro e' v12 ⟨V,rfl,TV,j13⟩
   try clear hw
   obtain⟨cs,rfl,hV⟩:=TV
   rw [show qf3 p.M k=qcr p 4 k by unfold qcr; rw [if_neg (by decide),if_neg (by decide),if_neg (by decide),if_pos rfl],HH.out] at hV
   clear HH HE
   have sz_:=Below.size (lz j2 (lz j3 j13))
   have szA_:=Below.size (lz jw (lz j2 (lz j3 j13)))
   have bT_:qar v12 (w.heap.size+1) ZDv ZDv:=(qaa bT (lz j2 (lz j3 j13)) S2)
   have bl_:Below w.heap.size w v12:=(lz jw (lz j2 (lz j3 j13)))
   go_wp2_with fail
   refine (hV v12 (Below.refl _ _)).mono ?_
   rintro e' u ⟨x,y,B,rfl,ix,iy,ju,l1,l2,rx,ry⟩
   have su:=ju.size
   have bTu:qar u (w.heap.size+1) ZDv ZDv:=(ju.block _ (by omega)).trans bT_
   have bu:Below w.heap.size w u:=bl_.trans (ju.mono (by omega))
   obtain⟨U,hU,bF,hbF,hfF,g1,g1'⟩:=qaj bTu x y
   have th:=qar.there bTu
   replace hU:u.setCells (w.heap.size+1) 0 (#[.bool x.s,.slice x.A x.n x.c,.int .i64 x.e,.bool y.s,.slice y.A y.n y.c,.int .i64 y.e]:Array Value).toList=U:=hU
   have HU:=Lib.hid hU
   clear hU
   go_wp2_with (first
    | (refine wpList_store_mid rfl 32 (.tmp 6) (.tmp 68) rfl (w.heap.size+1) 0 #[.bool x.s,.slice x.A x.n x.c,.int .i64 x.e,.bool y.s,.slice y.A y.n y.c,.int .i64 y.e] rfl rfl th (by kernel_rfl) (all_oneCell_toArray (qac x y)) ?_; rw [HU.out]))
   have fin:=hbF _ _ bu (by omega)
   exact bodyPost_ret (qab Tryz.results10 _ _ (w.heap.size+1) 32 #[.bool x.s,.slice x.A x.n x.c,.int .i64 x.e,.bool y.s,.slice y.A y.n y.c,.int .i64 y.e] (0,0) _ (.int .i64 code) rfl rfl bF Tryz.underlying32 rfl (by kernel_rfl)) rfl ⟨x,y,B,rfl,ix,iy,fin,by omega,by omega,(qaq rx (w':=U) (fun b h1 h2=>hfF b (by omega))).more (by omega) (Nat.le_refl _),(qaq ry (w':=U) (fun b h1 h2=>hfF b (by omega))).more (Nat.le_refl _) (by omega)⟩
 skip
 by_cases c5:kind=5
 . subst c5
   obtain⟨⟨q140,q141,q142,q143,q144,q145,q146,q147,q148,q149,q1410,q1411,q1412,q1413,q1414,q1415⟩,q14f⟩:=PBox.cell (qaa bP (lz j2 j3) S1')
   go_wp2_with fail
   refine (qt9 w3 p.h p.mn p.mx HE.out.1 HE.out.2.1).mono ?_
   rintro e' v15 ⟨V,rfl,TV,j16⟩
   clear q140 q141 q142 q143 q144 q145 q146 q147 q148 q149 q1410 q1411 q1412 q1413 q1414 q1415 q14f
   try clear hw
   obtain⟨cs,rfl,hV⟩:=TV
   rw [show qjj p.h p.mn p.mx=qcr p 5 k by unfold qcr; rw [if_neg (by decide),if_neg (by decide),if_neg (by decide),if_neg (by decide),if_pos rfl],HH.out] at hV
   clear HH HE
   have sz_:=Below.size (lz j2 (lz j3 j16))
   have szA_:=Below.size (lz jw (lz j2 (lz j3 j16)))
   have bT_:qar v15 (w.heap.size+1) ZDv ZDv:=(qaa bT (lz j2 (lz j3 j16)) S2)
   have bl_:Below w.heap.size w v15:=(lz jw (lz j2 (lz j3 j16)))
   go_wp2_with fail
   refine (hV v15 (Below.refl _ _)).mono ?_
   rintro e' u ⟨x,y,B,rfl,ix,iy,ju,l1,l2,rx,ry⟩
   have su:=ju.size
   have bTu:qar u (w.heap.size+1) ZDv ZDv:=(ju.block _ (by omega)).trans bT_
   have bu:Below w.heap.size w u:=bl_.trans (ju.mono (by omega))
   obtain⟨U,hU,bF,hbF,hfF,g1,g1'⟩:=qaj bTu x y
   have th:=qar.there bTu
   replace hU:u.setCells (w.heap.size+1) 0 (#[.bool x.s,.slice x.A x.n x.c,.int .i64 x.e,.bool y.s,.slice y.A y.n y.c,.int .i64 y.e]:Array Value).toList=U:=hU
   have HU:=Lib.hid hU
   clear hU
   go_wp2_with (first
    | (refine wpList_store_mid rfl 32 (.tmp 6) (.tmp 68) rfl (w.heap.size+1) 0 #[.bool x.s,.slice x.A x.n x.c,.int .i64 x.e,.bool y.s,.slice y.A y.n y.c,.int .i64 y.e] rfl rfl th (by kernel_rfl) (all_oneCell_toArray (qac x y)) ?_; rw [HU.out]))
   have fin:=hbF _ _ bu (by omega)
   exact bodyPost_ret (qab Tryz.results10 _ _ (w.heap.size+1) 32 #[.bool x.s,.slice x.A x.n x.c,.int .i64 x.e,.bool y.s,.slice y.A y.n y.c,.int .i64 y.e] (0,0) _ (.int .i64 code) rfl rfl bF Tryz.underlying32 rfl (by kernel_rfl)) rfl ⟨x,y,B,rfl,ix,iy,fin,by omega,by omega,(qaq rx (w':=U) (fun b h1 h2=>hfF b (by omega))).more (by omega) (Nat.le_refl _),(qaq ry (w':=U) (fun b h1 h2=>hfF b (by omega))).more (Nat.le_refl _) (by omega)⟩
 skip
 by_cases c6:kind=6
 . subst c6
   obtain⟨⟨q170,q171,q172,q173,q174,q175,q176,q177,q178,q179,q1710,q1711,q1712,q1713,q1714,q1715⟩,q17f⟩:=PBox.cell (qaa bP (lz j2 j3) S1')
   go_wp2_with fail
   refine (qrt w3 p.A p.n p.c p.xs (PRows.on hR (lz jw (lz j2 j3))).L (qbs hT (lz jw (lz j2 j3))) HE.out.2.2).mono ?_
   rintro e' v18 ⟨V,rfl,TV,j19⟩
   clear q170 q171 q172 q173 q174 q175 q176 q177 q178 q179 q1710 q1711 q1712 q1713 q1714 q1715 q17f
   try clear hw
   obtain⟨cs,rfl,hV⟩:=TV
   rw [show qe2 p.xs=qcr p 6 k by unfold qcr; rw [if_neg (by decide),if_neg (by decide),if_neg (by decide),if_neg (by decide),if_neg (by decide),if_pos rfl],HH.out] at hV
   clear HH HE
   have sz_:=Below.size (lz j2 (lz j3 j19))
   have szA_:=Below.size (lz jw (lz j2 (lz j3 j19)))
   have bT_:qar v18 (w.heap.size+1) ZDv ZDv:=(qaa bT (lz j2 (lz j3 j19)) S2)
   have bl_:Below w.heap.size w v18:=(lz jw (lz j2 (lz j3 j19)))
   go_wp2_with fail
   refine (hV v18 (Below.refl _ _)).mono ?_
   rintro e' u ⟨x,y,B,rfl,ix,iy,ju,l1,l2,rx,ry⟩
   have su:=ju.size
   have bTu:qar u (w.heap.size+1) ZDv ZDv:=(ju.block _ (by omega)).trans bT_
   have bu:Below w.heap.size w u:=bl_.trans (ju.mono (by omega))
   obtain⟨U,hU,bF,hbF,hfF,g1,g1'⟩:=qaj bTu x y
   have th:=qar.there bTu
   replace hU:u.setCells (w.heap.size+1) 0 (#[.bool x.s,.slice x.A x.n x.c,.int .i64 x.e,.bool y.s,.slice y.A y.n y.c,.int .i64 y.e]:Array Value).toList=U:=hU
   have HU:=Lib.hid hU
   clear hU
   go_wp2_with (first
    | (refine wpList_store_mid rfl 32 (.tmp 6) (.tmp 68) rfl (w.heap.size+1) 0 #[.bool x.s,.slice x.A x.n x.c,.int .i64 x.e,.bool y.s,.slice y.A y.n y.c,.int .i64 y.e] rfl rfl th (by kernel_rfl) (all_oneCell_toArray (qac x y)) ?_; rw [HU.out]))
   have fin:=hbF _ _ bu (by omega)
   exact bodyPost_ret (qab Tryz.results10 _ _ (w.heap.size+1) 32 #[.bool x.s,.slice x.A x.n x.c,.int .i64 x.e,.bool y.s,.slice y.A y.n y.c,.int .i64 y.e] (0,0) _ (.int .i64 code) rfl rfl bF Tryz.underlying32 rfl (by kernel_rfl)) rfl ⟨x,y,B,rfl,ix,iy,fin,by omega,by omega,(qaq rx (w':=U) (fun b h1 h2=>hfF b (by omega))).more (by omega) (Nat.le_refl _),(qaq ry (w':=U) (fun b h1 h2=>hfF b (by omega))).more (Nat.le_refl _) (by omega)⟩
 skip
 have h:=HH.out
 unfold qcr at h
 rw [if_neg c1,if_neg c2,if_neg c3,if_neg c4,if_neg c5,if_neg c6] at h
 injection h with h1 h2
 injection h2 with h2 h3
 subst h1 h2 h3
 clear HH HE
 have d1:(kind==1)=false:=by simpa using c1
 have d2:(kind==2)=false:=by simpa using c2
 have d3:(kind==3)=false:=by simpa using c3
 have d4:(kind==4)=false:=by simpa using c4
 have d5:(kind==5)=false:=by simpa using c5
 have d6:(kind==6)=false:=by simpa using c6
 by_cases c0:kind=0
 . subst c0
   have bz_:qar w3 (w.heap.size+1) ZDv ZDv:=(qaa bT (lz j2 j3) S2)
   obtain⟨U_,hU_,bU_,hb_,hf_,l5_,l5'_⟩:=qaj bz_ ZDv ZDv
   have th_:=qar.there bz_
   replace hU_:w3.setCells ((w.heap.size+1)) 0 (#[.bool false,.slice none 0 0,.int .i64 0,.bool false,.slice none 0 0,.int .i64 0]:Array Value).toList=U_:=hU_
   have HU_:=Lib.hid hU_
   clear hU_
   have fin_:=hb_ _ _ (lz jw (lz j2 j3)) (by omega)
   go_wp2_with (first | (refine wpList_store_mid rfl 32 (.tmp 6) (.tmp 65) rfl (w.heap.size+1) 0 #[.bool false,.slice none 0 0,.int .i64 0,.bool false,.slice none 0 0,.int .i64 0] rfl rfl th_ (by kernel_rfl) (all_oneCell_toArray (qac ZDv ZDv)) ?_; rw [HU_.out]))
   exact bodyPost_ret (qab Tryz.results10 _ _ (w.heap.size+1) 32 #[.bool false,.slice none 0 0,.int .i64 0,.bool false,.slice none 0 0,.int .i64 0] (0,0) _ (.int .i64 2) rfl rfl bU_ Tryz.underlying32 rfl (by kernel_rfl)) rfl (qbz _ _ _ fin_)
 skip
 have d0:(kind==0)=false:=by simpa using c0
 have bz_:qar w3 (w.heap.size+1) ZDv ZDv:=(qaa bT (lz j2 j3) S2)
 obtain⟨U_,hU_,bU_,hb_,hf_,l5_,l5'_⟩:=qaj bz_ ZDv ZDv
 have th_:=qar.there bz_
 replace hU_:w3.setCells ((w.heap.size+1)) 0 (#[.bool false,.slice none 0 0,.int .i64 0,.bool false,.slice none 0 0,.int .i64 0]:Array Value).toList=U_:=hU_
 have HU_:=Lib.hid hU_
 clear hU_
 have fin_:=hb_ _ _ (lz jw (lz j2 j3)) (by omega)
 go_wp2_with (first | (refine wpList_store_mid rfl 32 (.tmp 6) (.tmp 65) rfl (w.heap.size+1) 0 #[.bool false,.slice none 0 0,.int .i64 0,.bool false,.slice none 0 0,.int .i64 0] rfl rfl th_ (by kernel_rfl) (all_oneCell_toArray (qac ZDv ZDv)) ?_; rw [HU_.out]))
 exact bodyPost_ret (qab Tryz.results10 _ _ (w.heap.size+1) 32 #[.bool false,.slice none 0 0,.int .i64 0,.bool false,.slice none 0 0,.int .i64 0] (0,0) _ (.int .i64 2) rfl rfl bU_ Tryz.underlying32 rfl (by kernel_rfl)) rfl (qbz _ _ _ fin_)
theorem qiu(w:World):∃ U,w.alloc (.cells #[.bool false,.slice none 0 0,.int .i64 0] 24)=U/\qex U w.heap.size ZDv/\Below w.heap.size w U/\w.heap.size < U.heap.size :=
 ⟨_,rfl,heap_alloc_last _ _,(Below.refl _ w).alloc (Nat.le_refl _) _,by simp⟩
theorem qnl{w:World}{g:Nat}{x:Dv}(h:qex w g x)(x':Dv):∃ U,w.setCells g 0 (qap x')=U/\qex U g x'/\(∀ w0 B,Below B w0 w->B<=g->Below B w0 U)/\(∀ j,j≠g->U.heap[j]? = w.heap[j]?)/\U.heap.size<=w.heap.size/\w.heap.size<=U.heap.size:=by
 refine⟨_,rfl,?_,fun w0 B hb hg=>?_,fun j hj=>?_,?_,?_⟩
 . unfold qex at h ⊢
   simp [qap,World.setCells,World.setCell,Array.getElem?_modify,h]
 . simp only [qap,World.setCells]
   repeat (refine Below.setCell ?_ hg _)
   exact hb
 . have hj':¬ g=j:=fun e=>hj e.symm
   simp [qap,World.setCells,World.setCell,Array.getElem?_modify,hj']
 . simp [qap,World.setCells,World.setCell]
 simp [qap,World.setCells,World.setCell]
def q2d(w:World)(r:Dn)(code:Int)(e:Ending)(w':World):Prop :=
 ∃ X:Dv,e=.returned (.tuple #[.agg #[.bool X.s,.slice X.A X.n X.c,.int .i64 X.e],.int .i64 code])/\Is r X/\Below w.heap.size w w'/\qbr w' w.heap.size w'.heap.size X
def NumR(w:World)(r:Dn)(e:Ending)(w':World):Prop :=
 ∃ X:Dv,e=.returned (.agg #[.bool X.s,.slice X.A X.n X.c,.int .i64 X.e])/\Is r X/\Below w.heap.size w w'/\qbr w' w.heap.size w'.heap.size X
theorem qgv{w:World}{r:Dn}{code:Int}{e:Ending}{w':World}(h:qb0 w r code e w'):q2d w r code e w':=by
 obtain⟨A,n,c,rfl,_,hb,hI⟩:=h
 exact⟨⟨r.neg,A,n,c,r.e,qaf 4294967296 r.m⟩,rfl,⟨rfl,rfl,rfl⟩,hb,hI⟩
theorem qqq{r:Dn}{d:Dv}(h:Is r d)(hr:r.May){w:World}{lo hi:Nat}(hI:qbr w lo hi d):d.n<=1000000:=by
 have h1:d.xs.length=d.n:=hI.len
 have h2:(qaf 4294967296 r.m).length<=40:=qe6 (by rw [<-qo7]; exact hr.1)
 rw [h.2.2] at h1
 omega
theorem qi4(w:World)(z:Int)(h0:-9223372036854775808<=z)(h1:z<=9223372036854775807):Calls Tryz.prog 88 #[.int .i64 z] w (NumR w (qd3 z)):=by
 refine (qzx w z h0 h1 _ _ rfl rfl).mono ?_
 rintro e w' ⟨A,n,c,rfl,_,hb,hI⟩
 exact⟨⟨decide (z < 0),A,n,c,0,qaf 4294967296 z.natAbs⟩,rfl,⟨rfl,rfl,rfl⟩,hb,hI⟩
theorem qp8(w:World)(x:Dv)(hX:qbr w 0 w.heap.size x)(hn:x.n<=1000000):Calls Tryz.prog 66 #[.agg #[.bool x.s,.slice x.A x.n x.c,.int .i64 x.e]] w fun e w'=>∃ X:Dv,e=.returned (.agg #[.bool X.s,.slice X.A X.n X.c,.int .i64 X.e])/\(∀ r,Is r x->Is r X)/\Below w.heap.size w w'/\qbr w' w.heap.size w'.heap.size X:=by
 refine (Pa.rTwin_any w x.s x.A x.n x.c x.xs x.e hX hn).mono ?_
 rintro e w' ⟨A,c,rfl,_,hb,_,hI⟩
 exact⟨⟨x.s,A,x.n,c,x.e,x.xs⟩,rfl,fun r h=>h,hb,qae.more hI (by omega) (Nat.le_refl _)⟩
theorem qqa(w:World)(x:Dv)(hX:qbr w 0 w.heap.size x){r:Dn}(h:Is r x)(hr:r.May)(y:Dn)(c:Int)(hy:qgt r=(y,c)):Calls Tryz.prog 152 #[.agg #[.bool x.s,.slice x.A x.n x.c,.int .i64 x.e]] w (q2d w y c) :=
 (qt2 w x.s x.A x.n x.c x.xs x.e hX y c ((qot h hr).trans hy)).mono fun _ _ h=>qgv h
theorem qt3(w:World)(a b:Dv)(hA:qbr w 0 w.heap.size a)(hB:qbr w 0 w.heap.size b)(k:Int)(r:Dn)(c:Int)(h:toX a.s a.xs a.e b.s b.xs b.e k a.s=(r,c)):Calls Tryz.prog 150 #[.agg #[.bool a.s,.slice a.A a.n a.c,.int .i64 a.e],.agg #[.bool b.s,.slice b.A b.n b.c,.int .i64 b.e],.int .i64 k] w (q2d w r c) :=
 (qrr w a.s b.s a.A b.A a.n a.c b.n b.c a.xs b.xs a.e b.e hA hB k r c h).mono fun _ _ h=>qgv h
theorem qxi(w:World)(a b:Dv)(hA:qbr w 0 w.heap.size a)(hB:qbr w 0 w.heap.size b)(k:Int)(r:Dn)(c:Int)(h:toX a.s a.xs a.e b.s b.xs b.e k (!a.s)=(r,c)):Calls Tryz.prog 151 #[.agg #[.bool a.s,.slice a.A a.n a.c,.int .i64 a.e],.agg #[.bool b.s,.slice b.A b.n b.c,.int .i64 b.e],.int .i64 k] w (q2d w r c) :=
 (qt6 w a.s b.s a.A b.A a.n a.c b.n b.c a.xs b.xs a.e b.e hA hB k r c h).mono fun _ _ h=>qgv h
theorem qlf(w:World)(a b:Dv)(hA:qbr w 0 w.heap.size a)(hB:qbr w 0 w.heap.size b)(r:Dn)(c:Int)(h:qf2 a.s a.xs a.e b.s b.xs b.e=(r,c)):Calls Tryz.prog 87 #[.agg #[.bool a.s,.slice a.A a.n a.c,.int .i64 a.e],.agg #[.bool b.s,.slice b.A b.n b.c,.int .i64 b.e]] w (q2d w r c) :=
 (qt0 w a.s b.s a.A b.A a.n a.c b.n b.c a.xs b.xs a.e b.e hA hB r c h).mono fun _ _ h=>qgv h
def qzu(a b c d:Dv):Bool:=qdd a c && qdd b d
theorem qff(w:World)(d:Dv)(b:Bool)(hb:qcg d=b) :
  Calls Tryz.prog 86 #[.agg #[.bool d.s,.slice d.A d.n d.c,.int .i64 d.e]] w fun e w'=>e=.returned (.bool b)/\Below w.heap.size w w':=by
 obtain⟨w1,hw,bQ,j1,S1⟩:=qdc w d
 obtain⟨k0,k1,k2⟩:=(qam bQ).1
 obtain⟨f0,f1,f2⟩:=(qam bQ).2
 obtain⟨s,hs⟩:∃ s,d.s=s:=⟨_,rfl⟩
 rw [hs] at k0
 have HB:=Lib.hid hb
 have HS:=Lib.hid hs
 rw [hs] at hw
 clear hb
 rw [hs]
 clear hs
 cases s
 . by_cases h0:0 < d.n
   . have hb':b=true:=by rw [<-HB.out,qcg,HS.out,decide_eq_true h0]; rfl
     subst hb'
     clear HB HS
     go_enter Tryz.func86,Tryz.ntmps86
     go_wp2
     go_ret
     exact⟨by simp [h0],j1⟩
   have hb':b=false:=by rw [<-HB.out,qcg,HS.out,decide_eq_false h0]; rfl
   subst hb'
   clear HB HS
   go_enter Tryz.func86,Tryz.ntmps86
   go_wp2
   go_ret
   exact⟨by simp [h0],j1⟩
 have hb':b=false:=by rw [<-HB.out,qcg,HS.out]; rfl
 subst hb'
 clear HB HS
 go_enter Tryz.func86,Tryz.ntmps86
 go_wp2
 go_ret
 exact⟨rfl,j1⟩
theorem qrp(w:World)(a b c d:Dv)(hA:qbr w 0 w.heap.size a)(hB:qbr w 0 w.heap.size b)(hC:qbr w 0 w.heap.size c)(hD:qbr w 0 w.heap.size d)(r:Bool)(hr:qzu a b c d=r) :
  Calls Tryz.prog 12 #[.agg #[.bool a.s,.slice a.A a.n a.c,.int .i64 a.e,.bool b.s,.slice b.A b.n b.c,.int .i64 b.e],.agg #[.bool c.s,.slice c.A c.n c.c,.int .i64 c.e,.bool d.s,.slice d.A d.n d.c,.int .i64 d.e]] w fun e w'=>e=.returned (.bool r)/\Below w.heap.size w w':=by
 obtain⟨w1,hw1,bX,ja,S1⟩:=qes w a b
 obtain⟨w2,hw2,bY,jb,S2⟩:=qes w1 c d
 have s1:=ja.size
 obtain⟨t1,ht1⟩:∃ t,qdd a c=t:=⟨_,rfl⟩
 obtain⟨t2,ht2⟩:∃ t,qdd b d=t:=⟨_,rfl⟩
 have H1:=Lib.hid ht1
 have H2:=Lib.hid ht2
 have HR:Hid (r=(t1 && t2)):=Lib.hid (by rw [<-hr,<-ht1,<-ht2]; rfl)
 clear ht1 ht2 hr
 have z1:w1.heap.size=w.heap.size+1:=by rw [<-hw1]; simp
 subst hw1
 rw [z1] at bY S2
 go_enter Tryz.func12,Tryz.ntmps12
 replace bX:qar w2 w.heap.size a b:=(jb.block _ S1).trans bX
 have r1:=qar.low bX
 have r2:=qar.low bY
 go_wp2_with (first
  | (refine wpList_load_mid rfl 24 (.tmp 5) rfl (w.heap.size) 0 rfl [.bool a.s,.slice a.A a.n a.c,.int .i64 a.e] _ r1 Tryz.underlying24 rfl (by kernel_rfl) ?_)
  | (refine wpList_load_mid rfl 24 (.tmp 7) rfl ((w.heap.size+1)) 0 rfl [.bool c.s,.slice c.A c.n c.c,.int .i64 c.e] _ r2 Tryz.underlying24 rfl (by kernel_rfl) ?_))
 refine (Pa.rSame_any w2 _ _ _ _ _ _ _ _ _ _ _ _ (qao hA (lz ja jb)) (qao hC (lz ja jb)) t1 H1.out).mono ?_
 rintro e' v1 ⟨rfl,j2⟩
 try clear hw
 clear r1 r2
 try clear hw2
 cases t1
 case false =>
  obtain rfl:r=false:=HR.out
  go_wp2
  go_ret
  exact⟨rfl,(lz (lz ja jb) j2)⟩
 obtain rfl:r=t2:=HR.out.trans (Bool.true_and _)
 have r1:=qar.high (qaa bX j2 (show w.heap.size < w2.heap.size by omega))
 have r2:=qar.high (qaa bY j2 S2)
 go_wp2_with (first
  | (refine wpList_load_midG (by rfl) 24 (.tmp 11) rfl (w.heap.size) 3 rfl [.bool b.s,.slice b.A b.n b.c,.int .i64 b.e] _ r1 Tryz.underlying24 rfl (by kernel_rfl) ?_)
  | (refine wpList_load_midG (by rfl) 24 (.tmp 13) rfl ((w.heap.size+1)) 3 rfl [.bool d.s,.slice d.A d.n d.c,.int .i64 d.e] _ r2 Tryz.underlying24 rfl (by kernel_rfl) ?_))
 refine (Pa.rSame_any v1 _ _ _ _ _ _ _ _ _ _ _ _ (qao hB (lz (lz ja jb) j2)) (qao hD (lz (lz ja jb) j2)) r H2.out).mono ?_
 rintro e' v3 ⟨rfl,j4⟩
 try clear hw
 clear r1 r2
 go_wp2
 go_ret
 exact⟨rfl,(lz (lz ja jb) (lz j2 j4))⟩
theorem qeg(w:World)(s:Bool)(A:Option Addr)(n c:Nat)(ex:Int)(lo hi:Nat)(h:WrR w lo hi A n)(hn:n<=1000000)(hhi:hi<=w.heap.size)(hlo:lo<=w.heap.size) :
  Calls Tryz.prog 14 #[.agg #[.bool s,.slice A n c,.int .i64 ex]] w fun e w'=>e=.returned (.tuple #[])/\Below lo w w'/\qwu hi w w'/\∀ b off k,WrS w b off k->WrS w' b off k:=by
 generalize hw:w.alloc (.cells #[.bool s,.slice A n c,.int .i64 ex] 24)=w1 at *
 have X1:w1.heap[w.heap.size]? = some (.cells #[.bool s,.slice A n c,.int .i64 ex] 24 (0,0)):=by rw [<-hw]; exact heap_alloc_last _ _
 have b1:Below lo w w1:=by rw [<-hw]; exact (Below.refl _ w).alloc hlo _
 have f1:qwu hi w w1:=by rw [<-hw]; exact fun k _ h2=>Below.heap_alloc _ _ _ h2
 have k1:∀ b off k,WrS w b off k->WrS w1 b off k:=fun b off k hW=>by
  by_cases hk:k=0
  . subst hk
    exact fun j hj=>absurd hj (Nat.not_lt_zero _)
  refine hW.blk ?_
  rw [<-hw]
  obtain⟨⟨u,h1⟩,_⟩:=hW 0 (by omega)
  exact Below.heap_alloc _ _ _ (World.block_lt_of_cell? w _ h1)
 have hc:=h.keep k1
 clear h
 go_enter Tryz.func14,Tryz.ntmps14
 go_wp2
 try clear hw
 go_loopw [2] (fun iv wr=>∃ i:Nat,iv=.int .i64 i/\i<=n/\wr.heap[w.heap.size]? = some (.cells #[.bool s,.slice A n c,.int .i64 ex] 24 (0,0))/\Below lo w wr/\qwu hi w wr/\Hid (WrR wr lo hi A n)/\Hid (∀ b off k,WrS w b off k->WrS wr b off k)) (fun iv _=>n-(intOf iv).toNat)
 case atStart=>exact⟨0,rfl,Nat.zero_le _,X1,b1,f1,Lib.hid hc,Lib.hid k1⟩
 clear X1 b1 f1 hc k1
 obtain⟨i,rfl,hi1,X1,b1,f1,hc,k1⟩:=hrel
 obtain⟨⟨y1,y2,y3⟩,y4,y5,y6⟩:=qam X1
 by_cases hlt:i < n
 . obtain⟨b,off,rfl,hb1,hb2,hW⟩:=hc.out (by omega)
   clear hc
   obtain⟨⟨u,q1⟩,q2⟩:=hW i hlt
   have hwr:IntKind.i64.wrap ((i:Int)+1)=((i+1:Nat):Int):=by rw [IntKind.wrap_i64]; omega
   go_wp2
   go_roundw
   case rel=>exact⟨i+1,by first | rfl | (congr 1; omega) | go_num,by omega,(Below.heap_setCell _ _ _ _ (by simp; omega)).trans X1,b1.setCell hb1 _,f1.setCell hb2 _,Lib.hid fun _=>⟨b,off,rfl,hb1,hb2,hW.set_ _ _⟩,Lib.hid fun b' off' k' h'=>(k1.out b' off' k' h').set_ _ _⟩
   case measure=>first | (simp [intOf]; done) | (simp [intOf]; omega)
 obtain rfl:i=n:=by omega
 clear hc
 go_wp2
 go_end0
 exact⟨rfl,b1,f1,k1.out⟩
def qha(w:World)(lo hi:Dn)(code:Int)(e:Ending)(w':World):Prop :=
 ∃ (x y:Dv),e=.returned (.tuple #[.agg #[.bool x.s,.slice x.A x.n x.c,.int .i64 x.e,.bool y.s,.slice y.A y.n y.c,.int .i64 y.e],.int .i64 code])/\Is lo x/\Is hi y/\Below w.heap.size w w'/\qbr w' w.heap.size w'.heap.size x/\qbr w' w.heap.size w'.heap.size y
noncomputable def qjw(a b:Dv)(k:Int):Dn×Dn×Int :=
 if max (toX a.s a.xs a.e b.s b.xs b.e k a.s).2 (toX a.s a.xs a.e b.s b.xs b.e k (!a.s)).2=0 then ((toX a.s a.xs a.e b.s b.xs b.e k a.s).1,(toX a.s a.xs a.e b.s b.xs b.e k (!a.s)).1,0)
 else (Dn.zero,Dn.zero,max (toX a.s a.xs a.e b.s b.xs b.e k a.s).2 (toX a.s a.xs a.e b.s b.xs b.e k (!a.s)).2)
theorem qee(w:World)(a b:Dv)(k:Int)(hA:qbr w 0 w.heap.size a)(hB:qbr w 0 w.heap.size b)(lo hi:Dn)(code:Int)(h:qjw a b k=(lo,hi,code)) :
  Calls Tryz.prog 90 #[.agg #[.bool a.s,.slice a.A a.n a.c,.int .i64 a.e],.agg #[.bool b.s,.slice b.A b.n b.c,.int .i64 b.e],.int .i64 k] w (qha w lo hi code):=by
 obtain⟨w1,hw1,bA,ja,S1⟩:=qdc w a
 obtain⟨w2,hw2,bB,jb,S2⟩:=qdc w1 b
 obtain⟨w3,hw3,bT,jc,S3⟩:=qba w2
 have s1:=ja.size
 have s2:=jb.size
 have s3:=jc.size
 have z1:w1.heap.size=w.heap.size+1:=by rw [<-hw1]; simp
 have z2:w2.heap.size=w.heap.size+1+1:=by rw [<-hw2]; simp [z1]
 have jw:Below w.heap.size w w3:=lz ja (lz jb jc)
 have SA:w.heap.size < w3.heap.size:=by omega
 have SB:w.heap.size+1 < w3.heap.size:=by omega
 replace bA:qex w3 w.heap.size a:=((lz jb jc).block _ (by omega)).trans bA
 replace bB:qex w3 w1.heap.size b:=(jc.block _ S2).trans bB
 subst hw1 hw2
 rw [z1] at bB
 rw [z2] at bT S3
 obtain⟨r1,c1,h1⟩:∃ r c,toX a.s a.xs a.e b.s b.xs b.e k a.s=(r,c):=⟨_,_,rfl⟩
 obtain⟨r2,c2,h2⟩:∃ r c,toX a.s a.xs a.e b.s b.xs b.e k (!a.s)=(r,c):=⟨_,_,rfl⟩
 obtain⟨m,hm⟩:∃ m:Int,max c1 c2=m:=⟨_,rfl⟩
 have HB_:Hid ((if m=0 then (r1,r2,(0:Int)) else (Dn.zero,Dn.zero,m))=(lo,hi,code)):=Lib.hid (by unfold qjw at h; rw [h1,h2] at h; simp only [hm] at h; exact h)
 have H1:=Lib.hid h1
 have H2:=Lib.hid h2
 clear h h1 h2 ja jb jc
 go_enter Tryz.func90,Tryz.ntmps90
 have ra:w3.rangeAt (w.heap.size) 0 [.bool a.s,.slice a.A a.n a.c,.int .i64 a.e]:=qex.range (x:=a) bA
 have rb:w3.rangeAt ((w.heap.size+1)) 0 [.bool b.s,.slice b.A b.n b.c,.int .i64 b.e]:=qex.range (x:=b) bB
 go_wp2_with (first
  | (refine wpList_load_mid rfl 24 (.tmp 3) rfl (w.heap.size) 0 rfl [.bool a.s,.slice a.A a.n a.c,.int .i64 a.e] _ ra Tryz.underlying24 rfl (by kernel_rfl) ?_)
  | (refine wpList_load_mid rfl 24 (.tmp 4) rfl ((w.heap.size+1)) 0 rfl [.bool b.s,.slice b.A b.n b.c,.int .i64 b.e] _ rb Tryz.underlying24 rfl (by kernel_rfl) ?_))
 refine (qt3 w3 a b (qao hA jw) (qao hB jw) k r1 c1 H1.out).mono ?_
 rintro e' v5 ⟨X,rfl,iX,j6,dX⟩
 try clear hw
 replace iX:=Lib.hid iX
 have eX:=dX
 replace dX:=qcw dX
 clear ra rb
 try clear hw3
 obtain⟨u7,h10,bx,j8,s9⟩:=qdc v5 X
 have ra:u7.rangeAt (w.heap.size) 0 [.bool a.s,.slice a.A a.n a.c,.int .i64 a.e]:=qex.range (x:=a) (qaa bA (lz j6 j8) SA)
 have rb:u7.rangeAt ((w.heap.size+1)) 0 [.bool b.s,.slice b.A b.n b.c,.int .i64 b.e]:=qex.range (x:=b) (qaa bB (lz j6 j8) SB)
 go_wp2_with (first
  | (refine qai rfl 24 (.tmp 8) (.tmp 17) rfl _ #[.bool X.s,.slice X.A X.n X.c,.int .i64 X.e] rfl rfl (by kernel_rfl) rfl (all_oneCell_toArray (qa1 X)) ?_; rw [h10])
  | (refine wpList_load_mid rfl 24 (.tmp 3) rfl (w.heap.size) 0 rfl [.bool a.s,.slice a.A a.n a.c,.int .i64 a.e] _ ra Tryz.underlying24 rfl (by kernel_rfl) ?_)
  | (refine wpList_load_mid rfl 24 (.tmp 4) rfl ((w.heap.size+1)) 0 rfl [.bool b.s,.slice b.A b.n b.c,.int .i64 b.e] _ rb Tryz.underlying24 rfl (by kernel_rfl) ?_))
 refine (qxi u7 a b (qao hA (lz jw (lz j6 j8))) (qao hB (lz jw (lz j6 j8))) k r2 c2 H2.out).mono ?_
 rintro e' v11 ⟨Y,rfl,iY,j12,dY⟩
 try clear hw
 replace iY:=Lib.hid iY
 have eY:=dY
 replace dY:=qcw dY
 clear ra rb
 try clear h10
 obtain⟨u13,h16,by_,j14,s15⟩:=qdc v11 Y
 by_cases m0:m=0
 . subst m0
   have he:=HB_.out
   rw [if_pos rfl] at he
   injection he with he1 he2
   injection he2 with he2 he3
   subst he1 he2 he3
   clear HB_
   have s4:w3.heap.size<=u13.heap.size:=Below.size (lz j6 (lz j8 (lz j12 j14)))
   replace eX:qbr u13 w3.heap.size u13.heap.size X:=qae.more (qae.below eX (lz j8 (lz j12 j14)) (Nat.le_refl _)) (Nat.le_refl _) (Below.size (lz j8 (lz j12 j14)))
   replace eY:qbr u13 w3.heap.size u13.heap.size Y:=qae.more (qae.below eY j14 (Nat.le_refl _)) (Below.size (lz j6 j8)) (Below.size j14)
   have rx:u13.rangeAt (v5.heap.size) 0 [.bool X.s,.slice X.A X.n X.c,.int .i64 X.e]:=qex.range (x:=X) (qaa bx (lz j12 j14) s9)
   have ry:u13.rangeAt (v11.heap.size) 0 [.bool Y.s,.slice Y.A Y.n Y.c,.int .i64 Y.e]:=qex.range (x:=Y) by_
   have u17_b:qar u13 ((w.heap.size+1+1)) ZDv ZDv:=(qaa bT (lz j6 (lz j8 (lz j12 j14))) S3)
   obtain⟨u17,h18,bTu17,h18_b,h18_f,h18_l,h18_m⟩:=qaj u17_b X Y
   have h18_t:=qar.there u17_b
   replace h18:u13.setCells ((w.heap.size+1+1)) 0 (#[.bool X.s,.slice X.A X.n X.c,.int .i64 X.e,.bool Y.s,.slice Y.A Y.n Y.c,.int .i64 Y.e]:Array Value).toList=u17:=h18
   have h18_H:=Lib.hid h18
   clear h18
   have fin_:=h18_b _ _ (lz jw (lz j6 (lz j8 (lz j12 j14)))) (by omega)
   go_wp2_with (first
    | (refine qai rfl 24 (.tmp 10) (.tmp 24) rfl _ #[.bool Y.s,.slice Y.A Y.n Y.c,.int .i64 Y.e] rfl rfl (by kernel_rfl) rfl (all_oneCell_toArray (qa1 Y)) ?_; rw [h16])
    | (refine wpList_load_mid rfl 24 (.tmp 8) rfl (v5.heap.size) 0 rfl [.bool X.s,.slice X.A X.n X.c,.int .i64 X.e] _ rx Tryz.underlying24 rfl (by kernel_rfl) ?_)
    | (refine wpList_load_mid rfl 24 (.tmp 10) rfl (v11.heap.size) 0 rfl [.bool Y.s,.slice Y.A Y.n Y.c,.int .i64 Y.e] _ ry Tryz.underlying24 rfl (by kernel_rfl) ?_)
    | (refine wpList_store_mid rfl 32 (.tmp 6) (.tmp 36) rfl ((w.heap.size+1+1)) 0 #[.bool X.s,.slice X.A X.n X.c,.int .i64 X.e,.bool Y.s,.slice Y.A Y.n Y.c,.int .i64 Y.e] rfl rfl h18_t (by kernel_rfl) (all_oneCell_toArray (qac X Y)) ?_; rw [h18_H.out]))
   exact bodyPost_ret (qab Tryz.results90 _ _ (w.heap.size+1+1) 32 #[.bool X.s,.slice X.A X.n X.c,.int .i64 X.e,.bool Y.s,.slice Y.A Y.n Y.c,.int .i64 Y.e] (0,0) _ (.int .i64 0) rfl rfl bTu17 Tryz.underlying32 rfl (by kernel_rfl)) rfl ⟨X,Y,rfl,iX.out,iY.out,fin_,(qaq eX (w':=u17) (fun b h1 h2=>h18_f b (by omega))).more (by omega) (by omega),(qaq eY (w':=u17) (fun b h1 h2=>h18_f b (by omega))).more (by omega) (by omega)⟩
 skip
 have he:=HB_.out
 rw [if_neg m0] at he
 injection he with he1 he2
 injection he2 with he2 he3
 subst he1 he2 he3
 clear HB_
 have u19_b:qar u13 ((w.heap.size+1+1)) ZDv ZDv:=(qaa bT (lz j6 (lz j8 (lz j12 j14))) S3)
 obtain⟨u19,h20,bTu19,h20_b,h20_f,h20_l,h20_m⟩:=qaj u19_b ZDv ZDv
 have h20_t:=qar.there u19_b
 replace h20:u13.setCells ((w.heap.size+1+1)) 0 (#[.bool false,.slice none 0 0,.int .i64 0,.bool false,.slice none 0 0,.int .i64 0]:Array Value).toList=u19:=h20
 have h20_H:=Lib.hid h20
 clear h20
 have fin_:=h20_b _ _ (lz jw (lz j6 (lz j8 (lz j12 j14)))) (by omega)
 go_wp2_with (first
  | (refine qai rfl 24 (.tmp 10) (.tmp 24) rfl _ #[.bool Y.s,.slice Y.A Y.n Y.c,.int .i64 Y.e] rfl rfl (by kernel_rfl) rfl (all_oneCell_toArray (qa1 Y)) ?_; rw [h16])
  | (refine wpList_store_mid rfl 32 (.tmp 6) (.tmp 30) rfl ((w.heap.size+1+1)) 0 #[.bool false,.slice none 0 0,.int .i64 0,.bool false,.slice none 0 0,.int .i64 0] rfl rfl h20_t (by kernel_rfl) (all_oneCell_toArray (qac ZDv ZDv)) ?_; rw [h20_H.out]))
 exact bodyPost_ret (qab Tryz.results90 _ _ (w.heap.size+1+1) 32 #[.bool false,.slice none 0 0,.int .i64 0,.bool false,.slice none 0 0,.int .i64 0] (0,0) _ (.int .i64 m) rfl rfl bTu19 Tryz.underlying32 rfl (by kernel_rfl)) rfl ⟨ZDv,ZDv,rfl,isZ,isZ,fin_,qf8 _ _ _,qf8 _ _ _⟩
theorem qk0(w:World)(a:Dv)(hA:qbr w 0 w.heap.size a)(hn:a.n<=1000000) :
  Calls Tryz.prog 89 #[.agg #[.bool a.s,.slice a.A a.n a.c,.int .i64 a.e]] w fun e w'=>∃ x y:Dv,e=.returned (.agg #[.bool x.s,.slice x.A x.n x.c,.int .i64 x.e,.bool y.s,.slice y.A y.n y.c,.int .i64 y.e])/\(∀ r,Is r a->Is r x/\Is r y)/\Below w.heap.size w w'/\qbr w' w.heap.size w'.heap.size x/\qbr w' w.heap.size w'.heap.size y:=by
 obtain⟨w1,hw1,bA,ja,S1⟩:=qdc w a
 obtain⟨w2,hw2,bT,jb,S2⟩:=qba w1
 have s1:=ja.size
 have s2:=jb.size
 have z1:w1.heap.size=w.heap.size+1:=by rw [<-hw1]; simp
 have jw:Below w.heap.size w w2:=lz ja jb
 have SA:w.heap.size < w2.heap.size:=by omega
 replace bA:qex w2 w.heap.size a:=(jb.block _ S1).trans bA
 subst hw1
 rw [z1] at bT S2
 clear ja jb
 go_enter Tryz.func89,Tryz.ntmps89
 go_upto_region 1 with fail
 try rw [hw2]
 try clear hw2
 try clear hw
 refine zB (qan w2) [5] 6 ?_
 have j22:Below w2.heap.size w2 w2.drew:=(Below.refl _ _).drew
 generalize w2.drew=v21 at *
 have kpy23:qan w2 v21:=fun p hp=>Below.block j22 p hp
 refine zD 0 (.agg #[.bool a.s,.slice a.A a.n a.c,.int .i64 a.e]) rfl ?y23 ?z24
 case y23 =>
  intro w' h1
  exact run_load_op 24 (.tmp 1) rfl w.heap.size 0 rfl [.bool a.s,.slice a.A a.n a.c,.int .i64 a.e] _ (qex.range (x:=a) ((h1 _ SA).trans bA)) Tryz.underlying24 rfl (by kernel_rfl)
 try simp only [Act.put,zp]
 have kpy25:qan w2 v21:=fun p hp=>Below.block j22 p hp
 refine zD 2 (.agg #[.bool a.s,.slice a.A a.n a.c,.int .i64 a.e]) rfl ?y25 ?z26
 case y25 =>
  intro w' h1
  exact run_load_op 24 (.tmp 1) rfl w.heap.size 0 rfl [.bool a.s,.slice a.A a.n a.c,.int .i64 a.e] _ (qex.range (x:=a) ((h1 _ SA).trans bA)) Tryz.underlying24 rfl (by kernel_rfl)
 try simp only [Act.put,zp]
 refine zK 1 rfl fun K hK=>?_
 go_simp
 go_at_call 66
 refine (qp8 v21 a (qao hA (lz jw j22)) hn).mono ?_
 rintro e' v27 ⟨x,rfl,ix,j28,dx⟩
 refine hK _ _ ⟨fun _ _=>fun p hp=>Below.block (lz j22 j28) p hp,?_⟩
 clear hK K
 try simp only [Act.put,zp]
 refine zK 3 rfl fun K hK=>?_
 go_simp
 go_at_call 66
 refine (qp8 v27 a (qao hA (lz jw (lz j22 j28))) hn).mono ?_
 rintro e' v29 ⟨y,rfl,iy,j30,dy⟩
 refine hK _ _ ⟨fun _ _=>fun p hp=>Below.block (lz j22 (lz j28 j30)) p hp,?_⟩
 clear hK K
 try simp only [Act.put,zp]
 refine zM 1 [4] ?_ ?_
 have bT_:qar v29 (w.heap.size+1) ZDv ZDv:=(qaa bT (lz j22 (lz j28 j30)) S2)
 have s3:w2.heap.size<=v29.heap.size:=Below.size (lz j22 (lz j28 j30))
 have s4:w2.heap.size<=v27.heap.size:=Below.size (lz j22 j28)
 have dx_:qbr v29 w2.heap.size v29.heap.size x:=qae.more (qae.below dx j30 (Nat.le_refl _)) (by have:=Below.size j22; omega) (Below.size j30)
 have dy_:qbr v29 w2.heap.size v29.heap.size y:=qae.more dy s4 (Nat.le_refl _)
 obtain⟨U,hU,bU,hb_,hf_,l5,l6⟩:=qaj bT_ x y
 have fin_:=hb_ _ _ (lz jw (lz j22 (lz j28 j30))) (by omega)
 refine zK 5 rfl fun K hK=>?_
 refine wp_store_mid 32 (.tmp 2) (.tmp 7) rfl (w.heap.size+1) 0 #[.bool x.s,.slice x.A x.n x.c,.int .i64 x.e,.bool y.s,.slice y.A y.n y.c,.int .i64 y.e] rfl rfl bT_.there (by kernel_rfl) (all_oneCell_toArray (qac x y)) ?_
 rw [show v29.setCells (w.heap.size+1) 0 (#[.bool x.s,.slice x.A x.n x.c,.int .i64 x.e,.bool y.s,.slice y.A y.n y.c,.int .i64 y.e]:Array Value).toList=U from hU]
 refine hK _ _ ⟨fun h=>absurd h (by decide),?_⟩
 clear hK K
 try simp only [Act.put,zp]
 refine qa2 (by kernel_rfl) ?_ _
 go_wp2
 exact bodyPost_ret (results_cell_row Tryz.results89 _ _ (w.heap.size+1) 32 #[.bool x.s,.slice x.A x.n x.c,.int .i64 x.e,.bool y.s,.slice y.A y.n y.c,.int .i64 y.e] (0,0) _ rfl bU Tryz.underlying32 rfl (by kernel_rfl)) rfl ⟨x,y,rfl,fun r h=>⟨ix r h,iy r h⟩,fin_,(qaq dx_ (w':=U) (fun b h1 h2=>hf_ b (by omega))).more (by omega) (by omega),(qaq dy_ (w':=U) (fun b h1 h2=>hf_ b (by omega))).more (by omega) (by omega)⟩
theorem qxv{r x:Dn}{c:Int}(h:qgt r=(x,c)):x.May:=by
 have:=qis r
 rw [h] at this
 exact this
theorem qol(w:World)(n:Int)(h0:-9223372036854775808<=n)(h1:n<=9223372036854775807) :
  Calls Tryz.prog 91 #[.int .i64 n] w (NumR w (qgn n)):=by
 obtain⟨w1,hw1,bQ,ja,S1⟩:=qiu w
 have s1:=ja.size
 obtain⟨r1,c1,e1⟩:∃ r c,qgt (qd3 n)=(r,c):=⟨_,_,rfl⟩
 obtain⟨r2,c2,e2⟩:∃ r c,qgt r1=(r,c):=⟨_,_,rfl⟩
 have HQ:Hid (qgn n=r2):=Lib.hid (by unfold qgn; rw [e1]; simp only [e2])
 have H1:=Lib.hid e1
 have H2:=Lib.hid e2
 clear e1 e2
 go_enter Tryz.func91,Tryz.ntmps91
 go_wp2_with fail
 refine (qi4 w1 n h0 h1).mono ?_
 rintro e' v31 ⟨X,rfl,iX,j32,dX⟩
 try clear hw
 replace iX:=Lib.hid iX
 have eX:=dX
 replace dX:=qcw dX
 go_wp2_with fail
 refine (qqa v31 X dX iX.out (qgb h0 h1) r1 c1 H1.out).mono ?_
 rintro e' v33 ⟨Y,rfl,iY,j34,dY⟩
 try clear hw
 replace iY:=Lib.hid iY
 have eY:=dY
 replace dY:=qcw dY
 obtain⟨u35,h38,by_,j36,s37⟩:=qdc v33 Y
 have ra:u35.rangeAt (v33.heap.size) 0 [.bool Y.s,.slice Y.A Y.n Y.c,.int .i64 Y.e]:=qex.range (x:=Y) by_
 go_wp2_with (first
  | (refine qai rfl 24 (.tmp 3) (.tmp 11) rfl _ #[.bool Y.s,.slice Y.A Y.n Y.c,.int .i64 Y.e] rfl rfl (by kernel_rfl) rfl (all_oneCell_toArray (qa1 Y)) ?_; rw [h38])
  | (refine wpList_load_mid rfl 24 (.tmp 3) rfl (v33.heap.size) 0 rfl [.bool Y.s,.slice Y.A Y.n Y.c,.int .i64 Y.e] _ ra Tryz.underlying24 rfl (by kernel_rfl) ?_))
 refine (qqa u35 Y (qao dY j36) iY.out (qxv H1.out) r2 c2 H2.out).mono ?_
 rintro e' v39 ⟨Z,rfl,iZ,j40,dZ⟩
 try clear hw
 replace iZ:=Lib.hid iZ
 have eZ:=dZ
 replace dZ:=qcw dZ
 clear ra
 try clear h38
 have s4:w1.heap.size<=u35.heap.size:=Below.size (lz j32 (lz j34 j36))
 obtain⟨u41,h44,bz,j42,s43⟩:=qdc v39 Z
 have bQ_:qex u41 w.heap.size ZDv:=(qaa bQ (lz j32 (lz j34 (lz j36 (lz j40 j42)))) S1)
 have eZ_:qbr u41 w1.heap.size u41.heap.size Z:=qae.more (qae.below eZ j42 (Nat.le_refl _)) s4 (Below.size j42)
 obtain⟨U,hU,bU,hb_,hf_,l5,l6⟩:=qnl bQ_ Z
 have th:=qex.there bQ_
 replace hU:u41.setCells w.heap.size 0 (#[.bool Z.s,.slice Z.A Z.n Z.c,.int .i64 Z.e]:Array Value).toList=U:=hU
 have HU:=Lib.hid hU
 clear hU
 have fin_:=hb_ _ _ (lz ja (lz j32 (lz j34 (lz j36 (lz j40 j42))))) (Nat.le_refl _)
 have rz:u41.rangeAt (v39.heap.size) 0 [.bool Z.s,.slice Z.A Z.n Z.c,.int .i64 Z.e]:=qex.range (x:=Z) bz
 go_wp2_with (first
  | (refine qai rfl 24 (.tmp 5) (.tmp 16) rfl _ #[.bool Z.s,.slice Z.A Z.n Z.c,.int .i64 Z.e] rfl rfl (by kernel_rfl) rfl (all_oneCell_toArray (qa1 Z)) ?_; rw [h44])
  | (refine wpList_load_mid rfl 24 (.tmp 5) rfl (v39.heap.size) 0 rfl [.bool Z.s,.slice Z.A Z.n Z.c,.int .i64 Z.e] _ rz Tryz.underlying24 rfl (by kernel_rfl) ?_)
  | (refine wpList_store_mid rfl 24 (.tmp 2) (.tmp 18) rfl w.heap.size 0 #[.bool Z.s,.slice Z.A Z.n Z.c,.int .i64 Z.e] rfl rfl th (by kernel_rfl) (all_oneCell_toArray (qa1 Z)) ?_; rw [HU.out]))
 exact bodyPost_ret (results_cell_row Tryz.results91 _ _ w.heap.size 24 #[.bool Z.s,.slice Z.A Z.n Z.c,.int .i64 Z.e] (0,0) _ rfl bU Tryz.underlying24 rfl (by kernel_rfl)) rfl ⟨Z,rfl,by rw [HQ.out]; exact iZ.out,fin_,(qaq eZ_ (w':=U) (fun b h1 h2=>hf_ b (by omega))).more (by omega) (by omega)⟩
theorem qaz.rS{w:World}{g:Nat}{m:Mv}(h:qaz w g m):w.rangeAt g 0 (qap m.S):=fun j v hj=>by
 have hl:j < 3:=by
  rcases Nat.lt_or_ge j 3 with h'|h'
  . exact h'
  rw [List.getElem?_eq_none (by simpa [qap] using h')] at hj
  cases hj
 have hc:j=0∨j=1∨j=2:=by omega
 rcases hc with rfl|rfl|rfl
 . exact (qaz.rangeM h 0 v hj)
 . exact (qaz.rangeM h 1 v hj)
 exact (qaz.rangeM h 2 v hj)
theorem qaz.rW{w:World}{g:Nat}{m:Mv}(h:qaz w g m):w.rangeAt g 3 (qap m.W):=fun j v hj=>by
 have hl:j < 3:=by
  rcases Nat.lt_or_ge j 3 with h'|h'
  . exact h'
  rw [List.getElem?_eq_none (by simpa [qap] using h')] at hj
  cases hj
 have hc:j=0∨j=1∨j=2:=by omega
 rcases hc with rfl|rfl|rfl
 . exact (qaz.rangeM h 3 v hj)
 . exact (qaz.rangeM h 4 v hj)
 exact (qaz.rangeM h 5 v hj)
theorem qaz.rC{w:World}{g:Nat}{m:Mv}(h:qaz w g m):w.rangeAt g 6 (qap m.C):=fun j v hj=>by
 have hl:j < 3:=by
  rcases Nat.lt_or_ge j 3 with h'|h'
  . exact h'
  rw [List.getElem?_eq_none (by simpa [qap] using h')] at hj
  cases hj
 have hc:j=0∨j=1∨j=2:=by omega
 rcases hc with rfl|rfl|rfl
 . exact (qaz.rangeM h 6 v hj)
 . exact (qaz.rangeM h 7 v hj)
 exact (qaz.rangeM h 8 v hj)
theorem qaz.rA{w:World}{g:Nat}{m:Mv}(h:qaz w g m):w.rangeAt g 9 (qap m.A):=fun j v hj=>by
 have hl:j < 3:=by
  rcases Nat.lt_or_ge j 3 with h'|h'
  . exact h'
  rw [List.getElem?_eq_none (by simpa [qap] using h')] at hj
  cases hj
 have hc:j=0∨j=1∨j=2:=by omega
 rcases hc with rfl|rfl|rfl
 . exact (qaz.rangeM h 9 v hj)
 . exact (qaz.rangeM h 10 v hj)
 exact (qaz.rangeM h 11 v hj)
theorem qmn{s1:Bool}{xs1:List Int}{e1:Int}{s2:Bool}{xs2:List Int}{e2 k:Int}(away:Bool):(qez s1 xs1 e1 s2 xs2 e2 k=0/\((toX s1 xs1 e1 s2 xs2 e2 k away).2=0∨(toX s1 xs1 e1 s2 xs2 e2 k away).2=10))∨(0 < qez s1 xs1 e1 s2 xs2 e2 k/\(toX s1 xs1 e1 s2 xs2 e2 k away).2=qez s1 xs1 e1 s2 xs2 e2 k):=by
 by_cases h:qez s1 xs1 e1 s2 xs2 e2 k=0
 . refine .inl ⟨h,?_⟩
   unfold toX
   rw [if_pos h]
   unfold toD
   rcases qng (dn s1 xs1 e1).neg ((qew (dn s1 xs1 e1) (dn s2 xs2 e2) k.toNat).1+if (qew (dn s1 xs1 e1) (dn s2 xs2 e2) k.toNat).2≠0/\away=true then 1 else 0) k.toNat with h'|h'
   . exact .inl h'
   rw [h']
   exact .inr rfl
 refine .inr ⟨?_,?_⟩
 . unfold qez at h ⊢
   split
   . split
     . omega
     rename_i h1 h2
     rw [if_pos h1,if_neg h2] at h
     exact absurd rfl h
   omega
 unfold toX
 rw [if_neg h]
theorem qhv{a b:Dv}{k:Int}(h:qcg b=true):qjw a b k=qb4 a b k:=by
 unfold qjw qb4
 simp only [h,Bool.true_eq_false,if_false]
 have c1:=qmn (s1:=a.s) (xs1:=a.xs) (e1:=a.e) (s2:=b.s) (xs2:=b.xs) (e2:=b.e) (k:=k) a.s
 have c2:=qmn (s1:=a.s) (xs1:=a.xs) (e1:=a.e) (s2:=b.s) (xs2:=b.xs) (e2:=b.e) (k:=k) (!a.s)
 generalize toX a.s a.xs a.e b.s b.xs b.e k a.s=p at *
 generalize toX a.s a.xs a.e b.s b.xs b.e k (!a.s)=q at *
 generalize qez a.s a.xs a.e b.s b.xs b.e k=t at *
 by_cases hp:p.2=0
 . by_cases hq:q.2=0
   . rw [if_pos (by omega),if_neg (by omega),if_neg (by omega)]
   have e:max p.2 q.2=q.2:=by omega
   rw [e,if_neg hq,if_neg (show ¬ p.2≠0 by omega),if_pos (show q.2≠0 from hq)]
 have e:max p.2 q.2=p.2:=by omega
 rw [e,if_neg hp,if_pos (show p.2≠0 from hp)]
end Ma
end Go.Proofs.YtmbppgjhdcmckaaGreatDoor