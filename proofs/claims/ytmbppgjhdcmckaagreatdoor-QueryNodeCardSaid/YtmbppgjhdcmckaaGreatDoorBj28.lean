/- headcountref25.Tells: kind 1: a walk (printed by a program of mine). -/
import Derived.Test.YtmbppgjhdcmckaaGreatDoorBj27
set_option maxHeartbeats 102400000
set_option maxRecDepth 100000
namespace Go.Proofs.YtmbppgjhdcmckaaGreatDoor
open Go.RowKit
namespace Ma
open Dp Dy
theorem qpp(w:World)(p:Pv)(hR:PRows w 0 w.heap.size p)(hT:Tab w)(k:Int)(hm:qd6 p=true)(lo hi:Dn)(code:Int)(h:qcr p 1 k=(lo,hi,code)) :
  Calls Tryz.prog 42 #[.agg #[.bool p.M.S.s,.slice p.M.S.A p.M.S.n p.M.S.c,.int .i64 p.M.S.e,.bool p.M.W.s,.slice p.M.W.A p.M.W.n p.M.W.c,.int .i64 p.M.W.e,.bool p.M.C.s,.slice p.M.C.A p.M.C.n p.M.C.c,.int .i64 p.M.C.e,.bool p.M.A.s,.slice p.M.A.A p.M.A.n p.M.A.c,.int .i64 p.M.A.e,.bool p.h,.int .i64 p.mn,.int .i64 p.mx,.slice p.A p.n p.c],.int .u8 1,.int .i64 k] w (qha w lo hi code):=by
 obtain⟨w1,hw1,bP,ja,S1⟩:=alloc_p w p
 obtain⟨w2,hw2,bT,jb,S2⟩:=qba w1
 have s1:=ja.size
 have s2:=jb.size
 have z1:w1.heap.size=w.heap.size+1:=by rw [<-hw1]; simp
 have jw:Below w.heap.size w w2:=lz ja jb
 have SP:w.heap.size < w2.heap.size:=by omega
 replace bP:PBox w2 w.heap.size p:=(jb.block _ S1).trans bP
 subst hw1
 rw [z1] at bT S2
 have HH:=Lib.hid h
 have HE:=Lib.hid (qc1 hm)
 obtain⟨u,hu,bM,ju,Su⟩:=qe7 w2 p.M
 have rM:=PBox.mass bP
 clear h ja jb hm S1 s1 s2 z1
 go_enter Tryz.func42,Tryz.ntmps42
 go_upto_region 2 with (first
  | (refine wpList_load_mid rfl 26 (.tmp 18) rfl w.heap.size 0 rfl [.bool p.M.S.s,.slice p.M.S.A p.M.S.n p.M.S.c,.int .i64 p.M.S.e,.bool p.M.W.s,.slice p.M.W.A p.M.W.n p.M.W.c,.int .i64 p.M.W.e,.bool p.M.C.s,.slice p.M.C.A p.M.C.n p.M.C.c,.int .i64 p.M.C.e,.bool p.M.A.s,.slice p.M.A.A p.M.A.n p.M.A.c,.int .i64 p.M.A.e] _ rM Tryz.underlying26 rfl (by kernel_rfl) ?_)
  | (refine qai rfl 26 (.tmp 8) (.tmp 19) rfl _ #[.bool p.M.S.s,.slice p.M.S.A p.M.S.n p.M.S.c,.int .i64 p.M.S.e,.bool p.M.W.s,.slice p.M.W.A p.M.W.n p.M.W.c,.int .i64 p.M.W.e,.bool p.M.C.s,.slice p.M.C.A p.M.C.n p.M.C.c,.int .i64 p.M.C.e,.bool p.M.A.s,.slice p.M.A.A p.M.A.n p.M.A.c,.int .i64 p.M.A.e] rfl rfl (by kernel_rfl) rfl (all_oneCell_toArray (qbu p.M)) ?_; rw [hu]))
 try rw [hu]
 try clear hu
 try clear hw2
 clear rM
 obtain⟨b,hb⟩:∃ b,qcg p.M.C=b:=⟨_,rfl⟩
 have HB_:=Lib.hid hb
 clear hb
 have rf:=qaz.rC bM
 go_wp2_with (first
  | (refine wpList_load_midG (by rfl) 24 (.tmp 27) rfl (w2.heap.size) 6 rfl [.bool p.M.C.s,.slice p.M.C.A p.M.C.n p.M.C.c,.int .i64 p.M.C.e] _ rf Tryz.underlying24 rfl (by kernel_rfl) ?_))
 refine (qff u p.M.C b HB_.out).mono ?_
 rintro e' v1 ⟨rfl,j2⟩
 try clear hw
 clear rf
 cases b
 . have he:=HH.out
   replace he:qeb p.M.C=_:=he
   unfold qeb at he
   rw [if_pos HB_.out] at he
   injection he with he1 he2
   injection he2 with he2 he3
   subst he1 he2 he3
   clear HH
   go_upto_region 4 with fail
   have u3_b:qar v1 ((w.heap.size+1)) ZDv ZDv:=(qaa bT (lz ju j2) S2)
   obtain⟨u3,h4,bTu3,h4_b,h4_f,h4_l,h4_m⟩:=qaj u3_b ZDv ZDv
   have h4_t:=qar.there u3_b
   replace h4:v1.setCells ((w.heap.size+1)) 0 (#[.bool false,.slice none 0 0,.int .i64 0,.bool false,.slice none 0 0,.int .i64 0]:Array Value).toList=u3:=h4
   have h4_H:=Lib.hid h4
   clear h4
   have fin_:=h4_b _ _ (lz jw (lz ju j2)) (by omega)
   go_wp2_with (first
    | (refine wpList_store_mid rfl 32 (.tmp 6) (.tmp 67) rfl ((w.heap.size+1)) 0 #[.bool false,.slice none 0 0,.int .i64 0,.bool false,.slice none 0 0,.int .i64 0] rfl rfl h4_t (by kernel_rfl) (all_oneCell_toArray (qac ZDv ZDv)) ?_; rw [h4_H.out]))
   exact bodyPost_ret (qab Tryz.results42 _ _ (w.heap.size+1) 32 #[.bool false,.slice none 0 0,.int .i64 0,.bool false,.slice none 0 0,.int .i64 0] (0,0) _ (.int .i64 6) rfl rfl bTu3 Tryz.underlying32 rfl (by kernel_rfl)) rfl ⟨ZDv,ZDv,rfl,isZ,isZ,fin_,qf8 _ _ _,qf8 _ _ _⟩
 skip
 obtain⟨r,c,hr⟩:∃ r c,qf2 false (qaf 4294967296 1) 0 p.M.C.s p.M.C.xs p.M.C.e=(r,c):=⟨_,_,rfl⟩
 have HN:=Lib.hid hr
 have HK:Hid ((if c=0 then (r,r,(0:Int)) else (Dn.zero,Dn.zero,c))=(lo,hi,code)):=Lib.hid (by
  have he:=HH.out
  replace he:qeb p.M.C=_:=he
  unfold qeb at he
  rw [if_neg (by rw [HB_.out]; simp),hr] at he
  exact he)
 have HMy:=Lib.hid (qi8 hr)
 clear hr HH
 go_upto_region 7 with fail
 try clear hw
 refine zB (qan v1) [] 10 ?_
 have j6:Below v1.heap.size v1 v1.drew:=(Below.refl _ _).drew
 generalize v1.drew=v5 at *
 refine zM 1 [1] ?_ ?_
 have kpy7:qan v1 v5:=fun p hp=>Below.block j6 p hp
 refine zD 2 (.agg #[.bool p.M.C.s,.slice p.M.C.A p.M.C.n p.M.C.c,.int .i64 p.M.C.e]) rfl ?y7 ?z8
 case y7 =>
  intro w' h1
  exact run_load_op 24 (.tmp 73) rfl (w2.heap.size) 6 rfl [.bool p.M.C.s,.slice p.M.C.A p.M.C.n p.M.C.c,.int .i64 p.M.C.e] _ (qaz.rC ((h1 _ (Nat.lt_of_lt_of_le Su (Below.size j2))).trans (qaa bM j2 Su))) Tryz.underlying24 rfl (by kernel_rfl)
 try simp only [Act.put,zp]
 refine qzi (fun (A:Act) a' w'=>∃ (v72 v75 v71:Value) (X:Dv) (g10 l_ h_:Nat),a'=((((((A.put (some 72) (v72)).put (some 75) (v75)).put (some 71) (v71)).put (some 76) (.agg #[.bool X.s,.slice X.A X.n X.c,.int .i64 X.e])).put (some 77) (.int .i64 c)).put (some 10) (.pointer (some ⟨g10,0,none⟩)))/\v1.heap.size<=g10/\v1.heap.size<=l_/\h_<=w'.heap.size/\(g10 < l_∨h_<=g10)/\qex w' g10 ZDv/\Below v1.heap.size v1 w'/\Hid (Is r X)/\qbr w' l_ h_ X) #[zT,zT,zT,zT,zT,zT,zT,zT,zF,zF] 2 ?leaf ?tree
 case tree =>
  have zv5:=Below.size j6
  refine qp1 (i:=0) (j:=7) (Li:=#[zT,zT,zT,zF,zF,zF,zF,zF,zF,zF]) (Lj:=#[zF,zT,zT,zF,zF,zF,zF,zT,zF,zF]) rfl rfl (by rfl) (by rfl) (by kernel_rfl) (by rfl) (by rfl) (fun K hK=>?o1_0) (fun K hK=>?o1_7)
  case o1_0 =>
   go_simp
   go_at_call 88
   refine (qi4 v5 1 (by decide) (by decide)).mono ?_
   rintro e' v9 ⟨O,rfl,iO,j10,dO⟩
   replace iO:=Lib.hid iO
   replace dO:=qcw dO
   have zv9:=Below.size j10
   refine hK _ _ ⟨fun _ _=>fun p hp=>Below.block (lz j6 j10) p hp,?_⟩
   clear hK K
   try simp only [Act.put,zp]
   refine qp1 (i:=3) (j:=7) (Li:=#[zT,zT,zT,zT,zF,zF,zF,zF,zF,zF]) (Lj:=#[zT,zT,zT,zF,zF,zF,zF,zT,zF,zF]) rfl rfl (by rfl) (by rfl) (by kernel_rfl) (by rfl) (by rfl) (fun K hK=>?o2_3) (fun K hK=>?o2_7)
   case o2_3 =>
    go_simp
    go_at_call 87
    refine (qlf v9 O p.M.C dO (PRows.on hR (lz jw (lz ju (lz j2 (lz j6 j10))))).1.C r c (by rw [iO.out.1,iO.out.2.1,iO.out.2.2]; exact HN.out)).mono ?_
    rintro e' v11 ⟨X,rfl,iX,j12,eX⟩
    replace iX:=Lib.hid iX
    have zv11:=Below.size j12
    refine hK _ _ ⟨fun _ _=>fun p hp=>Below.block (lz j6 (lz j10 j12)) p hp,?_⟩
    clear hK K
    try simp only [Act.put,zp]
    refine zC 4 #[zT,zT,zT,zT,zT,zF,zF,zF,zF,zF] ?_ rfl ?hy3 ?rest3
    case hy3=>intro w; go_simp; (try with_reducible rfl)
    try simp only [Act.put,zp]
    refine zC 5 #[zT,zT,zT,zT,zT,zT,zF,zF,zF,zF] ?_ rfl ?hy4 ?rest4
    case hy4=>intro w; go_simp; (try with_reducible rfl)
    try simp only [Act.put,zp]
    refine zC 6 #[zT,zT,zT,zT,zT,zT,zT,zF,zF,zF] ?_ rfl ?hy5 ?rest5
    case hy5=>intro w; go_simp; (try with_reducible rfl)
    try simp only [Act.put,zp]
    refine qmo (i:=7) (L:=#[zT,zT,zT,zT,zT,zT,zT,zT,zF,zF]) rfl (by rfl) (by kernel_rfl) (by rfl) (fun K hK=>?_)
    go_simp
    obtain⟨v13,hc_,bQ,j14,s15⟩:=qiu v11
    rw [hc_]
    clear hc_
    have zv13:=Below.size j14
    refine hK _ _ ⟨fun _ _=>fun p hp=>Below.block (lz j6 (lz j10 (lz j12 j14))) p hp,?_⟩
    clear hK K
    try simp only [Act.put,zp]
    exact qsb ⟨_,_,_,X,v11.heap.size,v9.heap.size,v11.heap.size,rfl,by omega,by omega,by omega,by omega,bQ,(lz j6 (lz j10 (lz j12 j14))),iX,(qae.below eX j14 (Nat.le_refl _))⟩
   case o2_7 =>
    go_simp
    obtain⟨v16,hc_,bQ,j17,s18⟩:=qiu v9
    rw [hc_]
    clear hc_
    have zv16:=Below.size j17
    refine hK _ _ ⟨fun _ _=>fun p hp=>Below.block (lz j6 (lz j10 j17)) p hp,?_⟩
    clear hK K
    try simp only [Act.put,zp]
    refine qmo (i:=3) (L:=#[zT,zT,zT,zT,zF,zF,zF,zT,zF,zF]) rfl (by rfl) (by kernel_rfl) (by rfl) (fun K hK=>?_)
    go_simp
    go_at_call 87
    refine (qlf v16 O p.M.C (qao dO j17) (PRows.on hR (lz jw (lz ju (lz j2 (lz j6 (lz j10 j17)))))).1.C r c (by rw [iO.out.1,iO.out.2.1,iO.out.2.2]; exact HN.out)).mono ?_
    rintro e' v19 ⟨X,rfl,iX,j20,eX⟩
    replace iX:=Lib.hid iX
    have zv19:=Below.size j20
    refine hK _ _ ⟨fun _ _=>fun p hp=>Below.block (lz j6 (lz j10 (lz j17 j20))) p hp,?_⟩
    clear hK K
    try simp only [Act.put,zp]
    refine zC 4 #[zT,zT,zT,zT,zT,zF,zF,zT,zF,zF] ?_ rfl ?hy8 ?rest8
    case hy8=>intro w; go_simp; (try with_reducible rfl)
    try simp only [Act.put,zp]
    refine zC 5 #[zT,zT,zT,zT,zT,zT,zF,zT,zF,zF] ?_ rfl ?hy9 ?rest9
    case hy9=>intro w; go_simp; (try with_reducible rfl)
    try simp only [Act.put,zp]
    refine zC 6 #[zT,zT,zT,zT,zT,zT,zT,zT,zF,zF] ?_ rfl ?hy10 ?rest10
    case hy10=>intro w; go_simp; (try with_reducible rfl)
    try simp only [Act.put,zp]
    exact qsb ⟨_,_,_,X,v9.heap.size,v16.heap.size,v19.heap.size,rfl,by omega,by omega,by omega,by omega,(qaa bQ j20 s18),(lz j6 (lz j10 (lz j17 j20))),iX,eX⟩
  case o1_7 =>
   go_simp
   obtain⟨v21,hc_,bQ,j22,s23⟩:=qiu v5
   rw [hc_]
   clear hc_
   have zv21:=Below.size j22
   refine hK _ _ ⟨fun _ _=>fun p hp=>Below.block (lz j6 j22) p hp,?_⟩
   clear hK K
   try simp only [Act.put,zp]
   refine qmo (i:=0) (L:=#[zT,zT,zT,zF,zF,zF,zF,zT,zF,zF]) rfl (by rfl) (by kernel_rfl) (by rfl) (fun K hK=>?_)
   go_simp
   go_at_call 88
   refine (qi4 v21 1 (by decide) (by decide)).mono ?_
   rintro e' v24 ⟨O,rfl,iO,j25,dO⟩
   replace iO:=Lib.hid iO
   replace dO:=qcw dO
   have zv24:=Below.size j25
   refine hK _ _ ⟨fun _ _=>fun p hp=>Below.block (lz j6 (lz j22 j25)) p hp,?_⟩
   clear hK K
   try simp only [Act.put,zp]
   refine qmo (i:=3) (L:=#[zT,zT,zT,zT,zF,zF,zF,zT,zF,zF]) rfl (by rfl) (by kernel_rfl) (by rfl) (fun K hK=>?_)
   go_simp
   go_at_call 87
   refine (qlf v24 O p.M.C dO (PRows.on hR (lz jw (lz ju (lz j2 (lz j6 (lz j22 j25)))))).1.C r c (by rw [iO.out.1,iO.out.2.1,iO.out.2.2]; exact HN.out)).mono ?_
   rintro e' v26 ⟨X,rfl,iX,j27,eX⟩
   replace iX:=Lib.hid iX
   have zv26:=Below.size j27
   refine hK _ _ ⟨fun _ _=>fun p hp=>Below.block (lz j6 (lz j22 (lz j25 j27))) p hp,?_⟩
   clear hK K
   try simp only [Act.put,zp]
   refine zC 4 #[zT,zT,zT,zT,zT,zF,zF,zT,zF,zF] ?_ rfl ?hy13 ?rest13
   case hy13=>intro w; go_simp; (try with_reducible rfl)
   try simp only [Act.put,zp]
   refine zC 5 #[zT,zT,zT,zT,zT,zT,zF,zT,zF,zF] ?_ rfl ?hy14 ?rest14
   case hy14=>intro w; go_simp; (try with_reducible rfl)
   try simp only [Act.put,zp]
   refine zC 6 #[zT,zT,zT,zT,zT,zT,zT,zT,zF,zF] ?_ rfl ?hy15 ?rest15
   case hy15=>intro w; go_simp; (try with_reducible rfl)
   try simp only [Act.put,zp]
   exact qsb ⟨_,_,_,X,v5.heap.size,v24.heap.size,v26.heap.size,rfl,by omega,by omega,by omega,by omega,(qaa bQ (lz j25 j27) s23),(lz j6 (lz j22 (lz j25 j27))),iX,eX⟩
 case leaf =>
  rintro a' w' ⟨v72,v75,v71,X,g10,l_,h_,rfl,l8,l9,l10,l11,bQ,bw,iX,rX⟩
  try simp only [Act.put,zp]
  have lt8:=qaw bQ
  have kp_:qan v1 w':=fun p hp=>Below.block bw p hp
  obtain⟨U,hc_,bU,hb_,hf_,q5,q5'⟩:=qnl bQ X
  refine zK 8 rfl fun K hK=>?_
  refine wp_store_mid 24 (.tmp 10) (.tmp 76) rfl g10 0 #[.bool X.s,.slice X.A X.n X.c,.int .i64 X.e] rfl rfl bQ.there (by kernel_rfl) (all_oneCell_toArray (qa1 X)) ?_
  rw [show w'.setCells g10 0 (#[.bool X.s,.slice X.A X.n X.c,.int .i64 X.e]:Array Value).toList=U from hc_]
  clear hc_
  replace kp_:qan v1 U:=fun p hp=>(hf_ p (by omega)).trans (kp_ p hp)
  refine hK _ _ ⟨fun _ _=>kp_,?_⟩
  clear hK K kp_
  try simp only [Act.put,zp]
  refine zM 1 [9] ?_ ?_
  refine qa2 (by kernel_rfl) ?_ _
  have jU:=hb_ _ _ bw l8
  have dX:qbr U 0 U.heap.size X:=(qaq rX (w':=U) (fun b h1 h2=>hf_ b (by omega))).more (Nat.zero_le _) (by omega)
  have sU:g10 < U.heap.size:=by omega
  clear hb_ hf_ bQ bw rX l9 l10 l11
  by_cases c0:c=0
  . subst c0
    have he:=HK.out
    rw [if_pos rfl] at he
    injection he with he1 he2
    injection he2 with he2 he3
    subst he1
    subst he2 he3
    clear HK
    have rq:U.rangeAt (g10) 0 [.bool X.s,.slice X.A X.n X.c,.int .i64 X.e]:=qex.range (x:=X) bU
    go_wp2_with (first
     | (refine wpList_load_mid rfl 24 (.tmp 10) rfl (g10) 0 rfl [.bool X.s,.slice X.A X.n X.c,.int .i64 X.e] _ rq Tryz.underlying24 rfl (by kernel_rfl) ?_))
    refine (qk0 U X dX (qqq iX.out HMy.out dX)).mono ?_
    rintro e' v28 ⟨Y1,Y2,rfl,iY,j29,eY1,eY2⟩
    try clear hw
    clear rq
    have iY1:=Lib.hid (iY _ iX.out).1
    have iY2:=Lib.hid (iY _ iX.out).2
    clear iY
    have s8:w2.heap.size<=U.heap.size:=Below.size (lz ju (lz j2 jU))
    have eY1_:qbr v28 w2.heap.size v28.heap.size Y1:=qae.more eY1 s8 (Nat.le_refl _)
    have eY2_:qbr v28 w2.heap.size v28.heap.size Y2:=qae.more eY2 s8 (Nat.le_refl _)
    have u30_b:qar v28 ((w.heap.size+1)) ZDv ZDv:=(qaa bT (lz ju (lz j2 (lz jU j29))) S2)
    obtain⟨u30,h31,bTu30,h31_b,h31_f,h31_l,h31_m⟩:=qaj u30_b Y1 Y2
    have h31_t:=qar.there u30_b
    replace h31:v28.setCells ((w.heap.size+1)) 0 (#[.bool Y1.s,.slice Y1.A Y1.n Y1.c,.int .i64 Y1.e,.bool Y2.s,.slice Y2.A Y2.n Y2.c,.int .i64 Y2.e]:Array Value).toList=u30:=h31
    have h31_H:=Lib.hid h31
    clear h31
    have fin_:=h31_b _ _ (lz jw (lz ju (lz j2 (lz jU j29)))) (by omega)
    go_wp2_with (first
     | (refine wpList_store_mid rfl 32 (.tmp 6) (.tmp 83) rfl ((w.heap.size+1)) 0 #[.bool Y1.s,.slice Y1.A Y1.n Y1.c,.int .i64 Y1.e,.bool Y2.s,.slice Y2.A Y2.n Y2.c,.int .i64 Y2.e] rfl rfl h31_t (by kernel_rfl) (all_oneCell_toArray (qac Y1 Y2)) ?_; rw [h31_H.out]))
    exact bodyPost_ret (qab Tryz.results42 _ _ (w.heap.size+1) 32 #[.bool Y1.s,.slice Y1.A Y1.n Y1.c,.int .i64 Y1.e,.bool Y2.s,.slice Y2.A Y2.n Y2.c,.int .i64 Y2.e] (0,0) _ (.int .i64 0) rfl rfl bTu30 Tryz.underlying32 rfl (by kernel_rfl)) rfl ⟨Y1,Y2,rfl,iY1.out,iY2.out,fin_,(qaq eY1_ (w':=u30) (fun b h1 h2=>h31_f b (by omega))).more (by omega) (by omega),(qaq eY2_ (w':=u30) (fun b h1 h2=>h31_f b (by omega))).more (by omega) (by omega)⟩
  skip
  have he:=HK.out
  rw [if_neg c0] at he
  injection he with he1 he2
  injection he2 with he2 he3
  subst he1 he2 he3
  clear HK
  have u32_b:qar U ((w.heap.size+1)) ZDv ZDv:=(qaa bT (lz ju (lz j2 jU)) S2)
  obtain⟨u32,h33,bTu32,h33_b,h33_f,h33_l,h33_m⟩:=qaj u32_b ZDv ZDv
  have h33_t:=qar.there u32_b
  replace h33:U.setCells ((w.heap.size+1)) 0 (#[.bool false,.slice none 0 0,.int .i64 0,.bool false,.slice none 0 0,.int .i64 0]:Array Value).toList=u32:=h33
  have h33_H:=Lib.hid h33
  clear h33
  have fin_:=h33_b _ _ (lz jw (lz ju (lz j2 jU))) (by omega)
  go_wp2_with (first
   | (refine wpList_store_mid rfl 32 (.tmp 6) (.tmp 80) rfl ((w.heap.size+1)) 0 #[.bool false,.slice none 0 0,.int .i64 0,.bool false,.slice none 0 0,.int .i64 0] rfl rfl h33_t (by kernel_rfl) (all_oneCell_toArray (qac ZDv ZDv)) ?_; rw [h33_H.out]))
  exact bodyPost_ret (qab Tryz.results42 _ _ (w.heap.size+1) 32 #[.bool false,.slice none 0 0,.int .i64 0,.bool false,.slice none 0 0,.int .i64 0] (0,0) _ (.int .i64 c) rfl rfl bTu32 Tryz.underlying32 rfl (by kernel_rfl)) rfl ⟨ZDv,ZDv,rfl,isZ,isZ,fin_,qf8 _ _ _,qf8 _ _ _⟩
theorem qpo(w:World)(p:Pv)(hR:PRows w 0 w.heap.size p)(hT:Tab w)(k:Int)(hm:qd6 p=true)(lo hi:Dn)(code:Int)(h:qcr p 2 k=(lo,hi,code)) :
  Calls Tryz.prog 42 #[.agg #[.bool p.M.S.s,.slice p.M.S.A p.M.S.n p.M.S.c,.int .i64 p.M.S.e,.bool p.M.W.s,.slice p.M.W.A p.M.W.n p.M.W.c,.int .i64 p.M.W.e,.bool p.M.C.s,.slice p.M.C.A p.M.C.n p.M.C.c,.int .i64 p.M.C.e,.bool p.M.A.s,.slice p.M.A.A p.M.A.n p.M.A.c,.int .i64 p.M.A.e,.bool p.h,.int .i64 p.mn,.int .i64 p.mx,.slice p.A p.n p.c],.int .u8 2,.int .i64 k] w (qha w lo hi code):=by
 obtain⟨w1,hw1,bP,ja,S1⟩:=alloc_p w p
 obtain⟨w2,hw2,bT,jb,S2⟩:=qba w1
 have s1:=ja.size
 have s2:=jb.size
 have z1:w1.heap.size=w.heap.size+1:=by rw [<-hw1]; simp
 have jw:Below w.heap.size w w2:=lz ja jb
 have SP:w.heap.size < w2.heap.size:=by omega
 replace bP:PBox w2 w.heap.size p:=(jb.block _ S1).trans bP
 subst hw1
 rw [z1] at bT S2
 have HH:=Lib.hid h
 have HE:=Lib.hid (qc1 hm)
 obtain⟨u,hu,bM,ju,Su⟩:=qe7 w2 p.M
 have rM:=PBox.mass bP
 clear h ja jb hm S1 s1 s2 z1
 go_enter Tryz.func42,Tryz.ntmps42
 go_upto_region 2 with (first
  | (refine wpList_load_mid rfl 26 (.tmp 18) rfl w.heap.size 0 rfl [.bool p.M.S.s,.slice p.M.S.A p.M.S.n p.M.S.c,.int .i64 p.M.S.e,.bool p.M.W.s,.slice p.M.W.A p.M.W.n p.M.W.c,.int .i64 p.M.W.e,.bool p.M.C.s,.slice p.M.C.A p.M.C.n p.M.C.c,.int .i64 p.M.C.e,.bool p.M.A.s,.slice p.M.A.A p.M.A.n p.M.A.c,.int .i64 p.M.A.e] _ rM Tryz.underlying26 rfl (by kernel_rfl) ?_)
  | (refine qai rfl 26 (.tmp 8) (.tmp 19) rfl _ #[.bool p.M.S.s,.slice p.M.S.A p.M.S.n p.M.S.c,.int .i64 p.M.S.e,.bool p.M.W.s,.slice p.M.W.A p.M.W.n p.M.W.c,.int .i64 p.M.W.e,.bool p.M.C.s,.slice p.M.C.A p.M.C.n p.M.C.c,.int .i64 p.M.C.e,.bool p.M.A.s,.slice p.M.A.A p.M.A.n p.M.A.c,.int .i64 p.M.A.e] rfl rfl (by kernel_rfl) rfl (all_oneCell_toArray (qbu p.M)) ?_; rw [hu]))
 try rw [hu]
 try clear hu
 try clear hw2
 clear rM
 obtain⟨b,hb⟩:∃ b,qcg p.M.C=b:=⟨_,rfl⟩
 have HB_:=Lib.hid hb
 clear hb
 have rf:=qaz.rC bM
 go_wp2_with (first
  | (refine wpList_load_midG (by rfl) 24 (.tmp 27) rfl (w2.heap.size) 6 rfl [.bool p.M.C.s,.slice p.M.C.A p.M.C.n p.M.C.c,.int .i64 p.M.C.e] _ rf Tryz.underlying24 rfl (by kernel_rfl) ?_))
 refine (qff u p.M.C b HB_.out).mono ?_
 rintro e' v34 ⟨rfl,j35⟩
 try clear hw
 clear rf
 cases b
 . have he:=HH.out
   replace he:qb4 p.M.A p.M.C k=_:=he
   unfold qb4 at he
   rw [if_pos HB_.out] at he
   injection he with he1 he2
   injection he2 with he2 he3
   subst he1 he2 he3
   clear HH
   go_upto_region 4 with fail
   have u36_b:qar v34 ((w.heap.size+1)) ZDv ZDv:=(qaa bT (lz ju j35) S2)
   obtain⟨u36,h37,bTu36,h37_b,h37_f,h37_l,h37_m⟩:=qaj u36_b ZDv ZDv
   have h37_t:=qar.there u36_b
   replace h37:v34.setCells ((w.heap.size+1)) 0 (#[.bool false,.slice none 0 0,.int .i64 0,.bool false,.slice none 0 0,.int .i64 0]:Array Value).toList=u36:=h37
   have h37_H:=Lib.hid h37
   clear h37
   have fin_:=h37_b _ _ (lz jw (lz ju j35)) (by omega)
   go_wp2_with (first
    | (refine wpList_store_mid rfl 32 (.tmp 6) (.tmp 67) rfl ((w.heap.size+1)) 0 #[.bool false,.slice none 0 0,.int .i64 0,.bool false,.slice none 0 0,.int .i64 0] rfl rfl h37_t (by kernel_rfl) (all_oneCell_toArray (qac ZDv ZDv)) ?_; rw [h37_H.out]))
   exact bodyPost_ret (qab Tryz.results42 _ _ (w.heap.size+1) 32 #[.bool false,.slice none 0 0,.int .i64 0,.bool false,.slice none 0 0,.int .i64 0] (0,0) _ (.int .i64 6) rfl rfl bTu36 Tryz.underlying32 rfl (by kernel_rfl)) rfl ⟨ZDv,ZDv,rfl,isZ,isZ,fin_,qf8 _ _ _,qf8 _ _ _⟩
 skip
 go_upto_region 12 with fail
 have HX:=Lib.hid ((qhv (a:=p.M.A) (b:=p.M.C) (k:=k) HB_.out).trans HH.out)
 have ra:=qaz.rA (qaa bM j35 Su)
 have rb:=qaz.rC (qaa bM j35 Su)
 go_wp2_with (first
  | (refine wpList_load_mid rfl 24 (.tmp 87) rfl (w2.heap.size) 9 rfl [.bool p.M.A.s,.slice p.M.A.A p.M.A.n p.M.A.c,.int .i64 p.M.A.e] _ ra Tryz.underlying24 rfl (by kernel_rfl) ?_)
  | (refine wpList_load_mid rfl 24 (.tmp 89) rfl (w2.heap.size) 6 rfl [.bool p.M.C.s,.slice p.M.C.A p.M.C.n p.M.C.c,.int .i64 p.M.C.e] _ rb Tryz.underlying24 rfl (by kernel_rfl) ?_))
 refine (qee v34 p.M.A p.M.C k (PRows.on hR (lz jw (lz ju j35))).1.A (PRows.on hR (lz jw (lz ju j35))).1.C lo hi code HX.out).mono ?_
 rintro e' v38 ⟨X,Y,rfl,iX,iY,j39,eX,eY⟩
 try clear hw
 replace iX:=Lib.hid iX
 replace iY:=Lib.hid iY
 clear ra rb
 obtain⟨u40,h43,bN,j41,s42⟩:=qes v38 X Y
 have s8:w2.heap.size<=v34.heap.size:=Below.size (lz ju j35)
 have eX_:qbr u40 w2.heap.size u40.heap.size X:=qae.more (qae.below eX j41 (Nat.le_refl _)) s8 (Below.size j41)
 have eY_:qbr u40 w2.heap.size u40.heap.size Y:=qae.more (qae.below eY j41 (Nat.le_refl _)) s8 (Below.size j41)
 have rN:=qar.range bN
 have u44_b:qar u40 ((w.heap.size+1)) ZDv ZDv:=(qaa bT (lz ju (lz j35 (lz j39 j41))) S2)
 obtain⟨u44,h45,bTu44,h45_b,h45_f,h45_l,h45_m⟩:=qaj u44_b X Y
 have h45_t:=qar.there u44_b
 replace h45:u40.setCells ((w.heap.size+1)) 0 (#[.bool X.s,.slice X.A X.n X.c,.int .i64 X.e,.bool Y.s,.slice Y.A Y.n Y.c,.int .i64 Y.e]:Array Value).toList=u44:=h45
 have h45_H:=Lib.hid h45
 clear h45
 have fin_:=h45_b _ _ (lz jw (lz ju (lz j35 (lz j39 j41)))) (by omega)
 go_wp2_with (first
  | (refine qai rfl 32 (.tmp 12) (.tmp 93) rfl _ #[.bool X.s,.slice X.A X.n X.c,.int .i64 X.e,.bool Y.s,.slice Y.A Y.n Y.c,.int .i64 Y.e] rfl rfl (by kernel_rfl) rfl (all_oneCell_toArray (qac X Y)) ?_; rw [h43])
  | (refine wpList_load_mid rfl 32 (.tmp 12) rfl (v38.heap.size) 0 rfl [.bool X.s,.slice X.A X.n X.c,.int .i64 X.e,.bool Y.s,.slice Y.A Y.n Y.c,.int .i64 Y.e] _ rN Tryz.underlying32 rfl (by kernel_rfl) ?_)
  | (refine wpList_store_mid rfl 32 (.tmp 6) (.tmp 95) rfl ((w.heap.size+1)) 0 #[.bool X.s,.slice X.A X.n X.c,.int .i64 X.e,.bool Y.s,.slice Y.A Y.n Y.c,.int .i64 Y.e] rfl rfl h45_t (by kernel_rfl) (all_oneCell_toArray (qac X Y)) ?_; rw [h45_H.out]))
 exact bodyPost_ret (qab Tryz.results42 _ _ (w.heap.size+1) 32 #[.bool X.s,.slice X.A X.n X.c,.int .i64 X.e,.bool Y.s,.slice Y.A Y.n Y.c,.int .i64 Y.e] (0,0) _ (.int .i64 code) rfl rfl bTu44 Tryz.underlying32 rfl (by kernel_rfl)) rfl ⟨X,Y,rfl,iX.out,iY.out,fin_,(qaq eX_ (w':=u44) (fun b h1 h2=>h45_f b (by omega))).more (by omega) (by omega),(qaq eY_ (w':=u44) (fun b h1 h2=>h45_f b (by omega))).more (by omega) (by omega)⟩
theorem qpn(w:World)(p:Pv)(hR:PRows w 0 w.heap.size p)(hT:Tab w)(k:Int)(hm:qd6 p=true)(lo hi:Dn)(code:Int)(h:qcr p 3 k=(lo,hi,code)) :
  Calls Tryz.prog 42 #[.agg #[.bool p.M.S.s,.slice p.M.S.A p.M.S.n p.M.S.c,.int .i64 p.M.S.e,.bool p.M.W.s,.slice p.M.W.A p.M.W.n p.M.W.c,.int .i64 p.M.W.e,.bool p.M.C.s,.slice p.M.C.A p.M.C.n p.M.C.c,.int .i64 p.M.C.e,.bool p.M.A.s,.slice p.M.A.A p.M.A.n p.M.A.c,.int .i64 p.M.A.e,.bool p.h,.int .i64 p.mn,.int .i64 p.mx,.slice p.A p.n p.c],.int .u8 3,.int .i64 k] w (qha w lo hi code):=by
 obtain⟨w1,hw1,bP,ja,S1⟩:=alloc_p w p
 obtain⟨w2,hw2,bT,jb,S2⟩:=qba w1
 have s1:=ja.size
 have s2:=jb.size
 have z1:w1.heap.size=w.heap.size+1:=by rw [<-hw1]; simp
 have jw:Below w.heap.size w w2:=lz ja jb
 have SP:w.heap.size < w2.heap.size:=by omega
 replace bP:PBox w2 w.heap.size p:=(jb.block _ S1).trans bP
 subst hw1
 rw [z1] at bT S2
 have HH:=Lib.hid h
 have HE:=Lib.hid (qc1 hm)
 obtain⟨u,hu,bM,ju,Su⟩:=qe7 w2 p.M
 have rM:=PBox.mass bP
 clear h ja jb hm S1 s1 s2 z1
 go_enter Tryz.func42,Tryz.ntmps42
 go_upto_region 2 with (first
  | (refine wpList_load_mid rfl 26 (.tmp 18) rfl w.heap.size 0 rfl [.bool p.M.S.s,.slice p.M.S.A p.M.S.n p.M.S.c,.int .i64 p.M.S.e,.bool p.M.W.s,.slice p.M.W.A p.M.W.n p.M.W.c,.int .i64 p.M.W.e,.bool p.M.C.s,.slice p.M.C.A p.M.C.n p.M.C.c,.int .i64 p.M.C.e,.bool p.M.A.s,.slice p.M.A.A p.M.A.n p.M.A.c,.int .i64 p.M.A.e] _ rM Tryz.underlying26 rfl (by kernel_rfl) ?_)
  | (refine qai rfl 26 (.tmp 8) (.tmp 19) rfl _ #[.bool p.M.S.s,.slice p.M.S.A p.M.S.n p.M.S.c,.int .i64 p.M.S.e,.bool p.M.W.s,.slice p.M.W.A p.M.W.n p.M.W.c,.int .i64 p.M.W.e,.bool p.M.C.s,.slice p.M.C.A p.M.C.n p.M.C.c,.int .i64 p.M.C.e,.bool p.M.A.s,.slice p.M.A.A p.M.A.n p.M.A.c,.int .i64 p.M.A.e] rfl rfl (by kernel_rfl) rfl (all_oneCell_toArray (qbu p.M)) ?_; rw [hu]))
 try rw [hu]
 try clear hu
 try clear hw2
 clear rM
 obtain⟨b,hb⟩:∃ b,qcg p.M.W=b:=⟨_,rfl⟩
 have HB_:=Lib.hid hb
 clear hb
 have rf:=qaz.rW bM
 go_wp2_with (first
  | (refine wpList_load_midG (by rfl) 24 (.tmp 40) rfl (w2.heap.size) 3 rfl [.bool p.M.W.s,.slice p.M.W.A p.M.W.n p.M.W.c,.int .i64 p.M.W.e] _ rf Tryz.underlying24 rfl (by kernel_rfl) ?_))
 refine (qff u p.M.W b HB_.out).mono ?_
 rintro e' v46 ⟨rfl,j47⟩
 try clear hw
 clear rf
 cases b
 . have he:=HH.out
   replace he:qb4 p.M.S p.M.W k=_:=he
   unfold qb4 at he
   rw [if_pos HB_.out] at he
   injection he with he1 he2
   injection he2 with he2 he3
   subst he1 he2 he3
   clear HH
   go_upto_region 4 with fail
   have u48_b:qar v46 ((w.heap.size+1)) ZDv ZDv:=(qaa bT (lz ju j47) S2)
   obtain⟨u48,h49,bTu48,h49_b,h49_f,h49_l,h49_m⟩:=qaj u48_b ZDv ZDv
   have h49_t:=qar.there u48_b
   replace h49:v46.setCells ((w.heap.size+1)) 0 (#[.bool false,.slice none 0 0,.int .i64 0,.bool false,.slice none 0 0,.int .i64 0]:Array Value).toList=u48:=h49
   have h49_H:=Lib.hid h49
   clear h49
   have fin_:=h49_b _ _ (lz jw (lz ju j47)) (by omega)
   go_wp2_with (first
    | (refine wpList_store_mid rfl 32 (.tmp 6) (.tmp 67) rfl ((w.heap.size+1)) 0 #[.bool false,.slice none 0 0,.int .i64 0,.bool false,.slice none 0 0,.int .i64 0] rfl rfl h49_t (by kernel_rfl) (all_oneCell_toArray (qac ZDv ZDv)) ?_; rw [h49_H.out]))
   exact bodyPost_ret (qab Tryz.results42 _ _ (w.heap.size+1) 32 #[.bool false,.slice none 0 0,.int .i64 0,.bool false,.slice none 0 0,.int .i64 0] (0,0) _ (.int .i64 6) rfl rfl bTu48 Tryz.underlying32 rfl (by kernel_rfl)) rfl ⟨ZDv,ZDv,rfl,isZ,isZ,fin_,qf8 _ _ _,qf8 _ _ _⟩
 skip
 go_upto_region 15 with fail
 have HX:=Lib.hid ((qhv (a:=p.M.S) (b:=p.M.W) (k:=k) HB_.out).trans HH.out)
 have ra:=qaz.rS (qaa bM j47 Su)
 have rb:=qaz.rW (qaa bM j47 Su)
 go_wp2_with (first
  | (refine wpList_load_mid rfl 24 (.tmp 100) rfl (w2.heap.size) 0 rfl [.bool p.M.S.s,.slice p.M.S.A p.M.S.n p.M.S.c,.int .i64 p.M.S.e] _ ra Tryz.underlying24 rfl (by kernel_rfl) ?_)
  | (refine wpList_load_mid rfl 24 (.tmp 102) rfl (w2.heap.size) 3 rfl [.bool p.M.W.s,.slice p.M.W.A p.M.W.n p.M.W.c,.int .i64 p.M.W.e] _ rb Tryz.underlying24 rfl (by kernel_rfl) ?_))
 refine (qee v46 p.M.S p.M.W k (PRows.on hR (lz jw (lz ju j47))).1.S (PRows.on hR (lz jw (lz ju j47))).1.W lo hi code HX.out).mono ?_
 rintro e' v50 ⟨X,Y,rfl,iX,iY,j51,eX,eY⟩
 try clear hw
 replace iX:=Lib.hid iX
 replace iY:=Lib.hid iY
 clear ra rb
 obtain⟨u52,h55,bN,j53,s54⟩:=qes v50 X Y
 have s8:w2.heap.size<=v46.heap.size:=Below.size (lz ju j47)
 have eX_:qbr u52 w2.heap.size u52.heap.size X:=qae.more (qae.below eX j53 (Nat.le_refl _)) s8 (Below.size j53)
 have eY_:qbr u52 w2.heap.size u52.heap.size Y:=qae.more (qae.below eY j53 (Nat.le_refl _)) s8 (Below.size j53)
 have rN:=qar.range bN
 have u56_b:qar u52 ((w.heap.size+1)) ZDv ZDv:=(qaa bT (lz ju (lz j47 (lz j51 j53))) S2)
 obtain⟨u56,h57,bTu56,h57_b,h57_f,h57_l,h57_m⟩:=qaj u56_b X Y
 have h57_t:=qar.there u56_b
 replace h57:u52.setCells ((w.heap.size+1)) 0 (#[.bool X.s,.slice X.A X.n X.c,.int .i64 X.e,.bool Y.s,.slice Y.A Y.n Y.c,.int .i64 Y.e]:Array Value).toList=u56:=h57
 have h57_H:=Lib.hid h57
 clear h57
 have fin_:=h57_b _ _ (lz jw (lz ju (lz j47 (lz j51 j53)))) (by omega)
 go_wp2_with (first
  | (refine qai rfl 32 (.tmp 14) (.tmp 106) rfl _ #[.bool X.s,.slice X.A X.n X.c,.int .i64 X.e,.bool Y.s,.slice Y.A Y.n Y.c,.int .i64 Y.e] rfl rfl (by kernel_rfl) rfl (all_oneCell_toArray (qac X Y)) ?_; rw [h55])
  | (refine wpList_load_mid rfl 32 (.tmp 14) rfl (v50.heap.size) 0 rfl [.bool X.s,.slice X.A X.n X.c,.int .i64 X.e,.bool Y.s,.slice Y.A Y.n Y.c,.int .i64 Y.e] _ rN Tryz.underlying32 rfl (by kernel_rfl) ?_)
  | (refine wpList_store_mid rfl 32 (.tmp 6) (.tmp 108) rfl ((w.heap.size+1)) 0 #[.bool X.s,.slice X.A X.n X.c,.int .i64 X.e,.bool Y.s,.slice Y.A Y.n Y.c,.int .i64 Y.e] rfl rfl h57_t (by kernel_rfl) (all_oneCell_toArray (qac X Y)) ?_; rw [h57_H.out]))
 exact bodyPost_ret (qab Tryz.results42 _ _ (w.heap.size+1) 32 #[.bool X.s,.slice X.A X.n X.c,.int .i64 X.e,.bool Y.s,.slice Y.A Y.n Y.c,.int .i64 Y.e] (0,0) _ (.int .i64 code) rfl rfl bTu56 Tryz.underlying32 rfl (by kernel_rfl)) rfl ⟨X,Y,rfl,iX.out,iY.out,fin_,(qaq eX_ (w':=u56) (fun b h1 h2=>h57_f b (by omega))).more (by omega) (by omega),(qaq eY_ (w':=u56) (fun b h1 h2=>h57_f b (by omega))).more (by omega) (by omega)⟩
theorem qpm(w:World)(p:Pv)(hR:PRows w 0 w.heap.size p)(hT:Tab w)(k:Int)(hm:qd6 p=true)(lo hi:Dn)(code:Int)(h:qcr p 4 k=(lo,hi,code)) :
  Calls Tryz.prog 42 #[.agg #[.bool p.M.S.s,.slice p.M.S.A p.M.S.n p.M.S.c,.int .i64 p.M.S.e,.bool p.M.W.s,.slice p.M.W.A p.M.W.n p.M.W.c,.int .i64 p.M.W.e,.bool p.M.C.s,.slice p.M.C.A p.M.C.n p.M.C.c,.int .i64 p.M.C.e,.bool p.M.A.s,.slice p.M.A.A p.M.A.n p.M.A.c,.int .i64 p.M.A.e,.bool p.h,.int .i64 p.mn,.int .i64 p.mx,.slice p.A p.n p.c],.int .u8 4,.int .i64 k] w (qha w lo hi code):=by
 obtain⟨w1,hw1,bP,ja,S1⟩:=alloc_p w p
 obtain⟨w2,hw2,bT,jb,S2⟩:=qba w1
 have s1:=ja.size
 have s2:=jb.size
 have z1:w1.heap.size=w.heap.size+1:=by rw [<-hw1]; simp
 have jw:Below w.heap.size w w2:=lz ja jb
 have SP:w.heap.size < w2.heap.size:=by omega
 replace bP:PBox w2 w.heap.size p:=(jb.block _ S1).trans bP
 subst hw1
 rw [z1] at bT S2
 have HH:=Lib.hid h
 have HE:=Lib.hid (qc1 hm)
 obtain⟨u,hu,bM,ju,Su⟩:=qe7 w2 p.M
 have rM:=PBox.mass bP
 clear h ja jb hm S1 s1 s2 z1
 go_enter Tryz.func42,Tryz.ntmps42
 go_upto_region 2 with (first
  | (refine wpList_load_mid rfl 26 (.tmp 18) rfl w.heap.size 0 rfl [.bool p.M.S.s,.slice p.M.S.A p.M.S.n p.M.S.c,.int .i64 p.M.S.e,.bool p.M.W.s,.slice p.M.W.A p.M.W.n p.M.W.c,.int .i64 p.M.W.e,.bool p.M.C.s,.slice p.M.C.A p.M.C.n p.M.C.c,.int .i64 p.M.C.e,.bool p.M.A.s,.slice p.M.A.A p.M.A.n p.M.A.c,.int .i64 p.M.A.e] _ rM Tryz.underlying26 rfl (by kernel_rfl) ?_)
  | (refine qai rfl 26 (.tmp 8) (.tmp 19) rfl _ #[.bool p.M.S.s,.slice p.M.S.A p.M.S.n p.M.S.c,.int .i64 p.M.S.e,.bool p.M.W.s,.slice p.M.W.A p.M.W.n p.M.W.c,.int .i64 p.M.W.e,.bool p.M.C.s,.slice p.M.C.A p.M.C.n p.M.C.c,.int .i64 p.M.C.e,.bool p.M.A.s,.slice p.M.A.A p.M.A.n p.M.A.c,.int .i64 p.M.A.e] rfl rfl (by kernel_rfl) rfl (all_oneCell_toArray (qbu p.M)) ?_; rw [hu]))
 try rw [hu]
 try clear hu
 try clear hw2
 clear rM
 obtain⟨b,hb⟩:∃ b,qcg p.M.W=b:=⟨_,rfl⟩
 have HB_:=Lib.hid hb
 clear hb
 have rf:=qaz.rW bM
 go_wp2_with (first
  | (refine wpList_load_midG (by rfl) 24 (.tmp 40) rfl (w2.heap.size) 3 rfl [.bool p.M.W.s,.slice p.M.W.A p.M.W.n p.M.W.c,.int .i64 p.M.W.e] _ rf Tryz.underlying24 rfl (by kernel_rfl) ?_))
 refine (qff u p.M.W b HB_.out).mono ?_
 rintro e' v58 ⟨rfl,j59⟩
 try clear hw
 clear rf
 cases b
 . have he:=HH.out
   replace he:qf3 p.M k=_:=he
   unfold qf3 at he
   rw [if_pos HB_.out] at he
   injection he with he1 he2
   injection he2 with he2 he3
   subst he1 he2 he3
   clear HH
   go_upto_region 4 with fail
   have u60_b:qar v58 ((w.heap.size+1)) ZDv ZDv:=(qaa bT (lz ju j59) S2)
   obtain⟨u60,h61,bTu60,h61_b,h61_f,h61_l,h61_m⟩:=qaj u60_b ZDv ZDv
   have h61_t:=qar.there u60_b
   replace h61:v58.setCells ((w.heap.size+1)) 0 (#[.bool false,.slice none 0 0,.int .i64 0,.bool false,.slice none 0 0,.int .i64 0]:Array Value).toList=u60:=h61
   have h61_H:=Lib.hid h61
   clear h61
   have fin_:=h61_b _ _ (lz jw (lz ju j59)) (by omega)
   go_wp2_with (first
    | (refine wpList_store_mid rfl 32 (.tmp 6) (.tmp 67) rfl ((w.heap.size+1)) 0 #[.bool false,.slice none 0 0,.int .i64 0,.bool false,.slice none 0 0,.int .i64 0] rfl rfl h61_t (by kernel_rfl) (all_oneCell_toArray (qac ZDv ZDv)) ?_; rw [h61_H.out]))
   exact bodyPost_ret (qab Tryz.results42 _ _ (w.heap.size+1) 32 #[.bool false,.slice none 0 0,.int .i64 0,.bool false,.slice none 0 0,.int .i64 0] (0,0) _ (.int .i64 6) rfl rfl bTu60 Tryz.underlying32 rfl (by kernel_rfl)) rfl ⟨ZDv,ZDv,rfl,isZ,isZ,fin_,qf8 _ _ _,qf8 _ _ _⟩
 skip
 have HX:Hid (qjw p.M.A ⟨false,none,1,1,0,qaf 4294967296 1⟩ k=(lo,hi,code)):=Lib.hid (by
  refine (qhv rfl).trans ?_
  have he:=HH.out
  replace he:qf3 p.M k=_:=he
  unfold qf3 at he
  rw [if_neg (by rw [HB_.out]; simp)] at he
  exact he)
 clear HH
 go_upto_region 18 with fail
 try clear hw
 refine zB (qan v58) [] 11 ?_
 have j63:Below v58.heap.size v58 v58.drew:=(Below.refl _ _).drew
 generalize v58.drew=v62 at *
 refine zM 1 [0] ?_ ?_
 have kpy64:qan v58 v62:=fun p hp=>Below.block j63 p hp
 refine zD 1 (.agg #[.bool p.M.A.s,.slice p.M.A.A p.M.A.n p.M.A.c,.int .i64 p.M.A.e]) rfl ?y64 ?z65
 case y64 =>
  intro w' h1
  exact run_load_op 24 (.tmp 113) rfl (w2.heap.size) 9 rfl [.bool p.M.A.s,.slice p.M.A.A p.M.A.n p.M.A.c,.int .i64 p.M.A.e] _ (qaz.rA ((h1 _ (Nat.lt_of_lt_of_le Su (Below.size j59))).trans (qaa bM j59 Su))) Tryz.underlying24 rfl (by kernel_rfl)
 try simp only [Act.put,zp]
 refine zM 1 [3] ?_ ?_
 refine qzi (fun (A:Act) a' w'=>∃ (v115 v117 v112:Value) (X Y:Dv) (g16 l_ h_:Nat),a'=((((((A.put (some 115) (v115)).put (some 117) (v117)).put (some 112) (v112)).put (some 118) (.agg #[.bool X.s,.slice X.A X.n X.c,.int .i64 X.e,.bool Y.s,.slice Y.A Y.n Y.c,.int .i64 Y.e])).put (some 119) (.int .i64 code)).put (some 16) (.pointer (some ⟨g16,0,none⟩)))/\v58.heap.size<=g16/\v58.heap.size<=l_/\h_<=w'.heap.size/\(g16 < l_∨h_<=g16)/\qar w' g16 ZDv ZDv/\Below v58.heap.size v58 w'/\Hid (Is lo X/\Is hi Y)/\qbr w' l_ h_ X/\qbr w' l_ h_ Y) #[zT,zT,zT,zT,zT,zT,zT,zT,zT,zF,zF] 2 ?leaf ?tree
 case tree =>
  have zv62:=Below.size j63
  refine qp1 (i:=2) (j:=8) (Li:=#[zT,zT,zT,zT,zF,zF,zF,zF,zF,zF,zF]) (Lj:=#[zT,zT,zF,zT,zF,zF,zF,zF,zT,zF,zF]) rfl rfl (by rfl) (by rfl) (by kernel_rfl) (by rfl) (by rfl) (fun K hK=>?o3_2) (fun K hK=>?o3_8)
  case o3_2 =>
   go_simp
   go_at_call 88
   refine (qi4 v62 1 (by decide) (by decide)).mono ?_
   rintro e' v66 ⟨O,rfl,iO,j67,dO⟩
   replace iO:=Lib.hid iO
   replace dO:=qcw dO
   have zv66:=Below.size j67
   refine hK _ _ ⟨fun _ _=>fun p hp=>Below.block (lz j63 j67) p hp,?_⟩
   clear hK K
   try simp only [Act.put,zp]
   refine qp1 (i:=4) (j:=8) (Li:=#[zT,zT,zT,zT,zT,zF,zF,zF,zF,zF,zF]) (Lj:=#[zT,zT,zT,zT,zF,zF,zF,zF,zT,zF,zF]) rfl rfl (by rfl) (by rfl) (by kernel_rfl) (by rfl) (by rfl) (fun K hK=>?o4_4) (fun K hK=>?o4_8)
   case o4_4 =>
    go_simp
    have HO:qjw p.M.A O k=(lo,hi,code):=by
     have h:=HX.out
     unfold qjw at h ⊢
     rw [iO.out.1,iO.out.2.1,iO.out.2.2]
     exact h
    go_at_call 90
    refine (qee v66 p.M.A O k (PRows.on hR (lz jw (lz ju (lz j59 (lz j63 j67))))).1.A dO lo hi code HO).mono ?_
    rintro e' v68 ⟨X,Y,rfl,iX,iY,j69,eX,eY⟩
    clear HO
    have zv68:=Below.size j69
    refine hK _ _ ⟨fun _ _=>fun p hp=>Below.block (lz j63 (lz j67 j69)) p hp,?_⟩
    clear hK K
    try simp only [Act.put,zp]
    refine zC 5 #[zT,zT,zT,zT,zT,zT,zF,zF,zF,zF,zF] ?_ rfl ?hy21 ?rest21
    case hy21=>intro w; go_simp; (try with_reducible rfl)
    try simp only [Act.put,zp]
    refine zC 6 #[zT,zT,zT,zT,zT,zT,zT,zF,zF,zF,zF] ?_ rfl ?hy22 ?rest22
    case hy22=>intro w; go_simp; (try with_reducible rfl)
    try simp only [Act.put,zp]
    refine zC 7 #[zT,zT,zT,zT,zT,zT,zT,zT,zF,zF,zF] ?_ rfl ?hy23 ?rest23
    case hy23=>intro w; go_simp; (try with_reducible rfl)
    try simp only [Act.put,zp]
    refine qmo (i:=8) (L:=#[zT,zT,zT,zT,zT,zT,zT,zT,zT,zF,zF]) rfl (by rfl) (by kernel_rfl) (by rfl) (fun K hK=>?_)
    go_simp
    obtain⟨v70,hc_,bQ,j71,s72⟩:=qba v68
    rw [hc_]
    clear hc_
    have zv70:=Below.size j71
    refine hK _ _ ⟨fun _ _=>fun p hp=>Below.block (lz j63 (lz j67 (lz j69 j71))) p hp,?_⟩
    clear hK K
    try simp only [Act.put,zp]
    exact qsb ⟨_,_,_,X,Y,v68.heap.size,v66.heap.size,v68.heap.size,rfl,by omega,by omega,by omega,by omega,bQ,(lz j63 (lz j67 (lz j69 j71))),Lib.hid ⟨iX,iY⟩,(qae.below eX j71 (Nat.le_refl _)),(qae.below eY j71 (Nat.le_refl _))⟩
   case o4_8 =>
    go_simp
    obtain⟨v73,hc_,bQ,j74,s75⟩:=qba v66
    rw [hc_]
    clear hc_
    have zv73:=Below.size j74
    refine hK _ _ ⟨fun _ _=>fun p hp=>Below.block (lz j63 (lz j67 j74)) p hp,?_⟩
    clear hK K
    try simp only [Act.put,zp]
    refine qmo (i:=4) (L:=#[zT,zT,zT,zT,zT,zF,zF,zF,zT,zF,zF]) rfl (by rfl) (by kernel_rfl) (by rfl) (fun K hK=>?_)
    go_simp
    have HO:qjw p.M.A O k=(lo,hi,code):=by
     have h:=HX.out
     unfold qjw at h ⊢
     rw [iO.out.1,iO.out.2.1,iO.out.2.2]
     exact h
    go_at_call 90
    refine (qee v73 p.M.A O k (PRows.on hR (lz jw (lz ju (lz j59 (lz j63 (lz j67 j74)))))).1.A (qao dO j74) lo hi code HO).mono ?_
    rintro e' v76 ⟨X,Y,rfl,iX,iY,j77,eX,eY⟩
    clear HO
    have zv76:=Below.size j77
    refine hK _ _ ⟨fun _ _=>fun p hp=>Below.block (lz j63 (lz j67 (lz j74 j77))) p hp,?_⟩
    clear hK K
    try simp only [Act.put,zp]
    refine zC 5 #[zT,zT,zT,zT,zT,zT,zF,zF,zT,zF,zF] ?_ rfl ?hy26 ?rest26
    case hy26=>intro w; go_simp; (try with_reducible rfl)
    try simp only [Act.put,zp]
    refine zC 6 #[zT,zT,zT,zT,zT,zT,zT,zF,zT,zF,zF] ?_ rfl ?hy27 ?rest27
    case hy27=>intro w; go_simp; (try with_reducible rfl)
    try simp only [Act.put,zp]
    refine zC 7 #[zT,zT,zT,zT,zT,zT,zT,zT,zT,zF,zF] ?_ rfl ?hy28 ?rest28
    case hy28=>intro w; go_simp; (try with_reducible rfl)
    try simp only [Act.put,zp]
    exact qsb ⟨_,_,_,X,Y,v66.heap.size,v73.heap.size,v76.heap.size,rfl,by omega,by omega,by omega,by omega,(qaa bQ j77 s75),(lz j63 (lz j67 (lz j74 j77))),Lib.hid ⟨iX,iY⟩,eX,eY⟩
  case o3_8 =>
   go_simp
   obtain⟨v78,hc_,bQ,j79,s80⟩:=qba v62
   rw [hc_]
   clear hc_
   have zv78:=Below.size j79
   refine hK _ _ ⟨fun _ _=>fun p hp=>Below.block (lz j63 j79) p hp,?_⟩
   clear hK K
   try simp only [Act.put,zp]
   refine qmo (i:=2) (L:=#[zT,zT,zT,zT,zF,zF,zF,zF,zT,zF,zF]) rfl (by rfl) (by kernel_rfl) (by rfl) (fun K hK=>?_)
   go_simp
   go_at_call 88
   refine (qi4 v78 1 (by decide) (by decide)).mono ?_
   rintro e' v81 ⟨O,rfl,iO,j82,dO⟩
   replace iO:=Lib.hid iO
   replace dO:=qcw dO
   have zv81:=Below.size j82
   refine hK _ _ ⟨fun _ _=>fun p hp=>Below.block (lz j63 (lz j79 j82)) p hp,?_⟩
   clear hK K
   try simp only [Act.put,zp]
   refine qmo (i:=4) (L:=#[zT,zT,zT,zT,zT,zF,zF,zF,zT,zF,zF]) rfl (by rfl) (by kernel_rfl) (by rfl) (fun K hK=>?_)
   go_simp
   have HO:qjw p.M.A O k=(lo,hi,code):=by
    have h:=HX.out
    unfold qjw at h ⊢
    rw [iO.out.1,iO.out.2.1,iO.out.2.2]
    exact h
   go_at_call 90
   refine (qee v81 p.M.A O k (PRows.on hR (lz jw (lz ju (lz j59 (lz j63 (lz j79 j82)))))).1.A dO lo hi code HO).mono ?_
   rintro e' v83 ⟨X,Y,rfl,iX,iY,j84,eX,eY⟩
   clear HO
   have zv83:=Below.size j84
   refine hK _ _ ⟨fun _ _=>fun p hp=>Below.block (lz j63 (lz j79 (lz j82 j84))) p hp,?_⟩
   clear hK K
   try simp only [Act.put,zp]
   refine zC 5 #[zT,zT,zT,zT,zT,zT,zF,zF,zT,zF,zF] ?_ rfl ?hy31 ?rest31
   case hy31=>intro w; go_simp; (try with_reducible rfl)
   try simp only [Act.put,zp]
   refine zC 6 #[zT,zT,zT,zT,zT,zT,zT,zF,zT,zF,zF] ?_ rfl ?hy32 ?rest32
   case hy32=>intro w; go_simp; (try with_reducible rfl)
   try simp only [Act.put,zp]
   refine zC 7 #[zT,zT,zT,zT,zT,zT,zT,zT,zT,zF,zF] ?_ rfl ?hy33 ?rest33
   case hy33=>intro w; go_simp; (try with_reducible rfl)
   try simp only [Act.put,zp]
   exact qsb ⟨_,_,_,X,Y,v62.heap.size,v81.heap.size,v83.heap.size,rfl,by omega,by omega,by omega,by omega,(qaa bQ (lz j82 j84) s80),(lz j63 (lz j79 (lz j82 j84))),Lib.hid ⟨iX,iY⟩,eX,eY⟩
 case leaf =>
  rintro a' w' ⟨v115,v117,v112,X,Y,g16,l_,h_,rfl,l8,l9,l10,l11,bQ,bw,hXY,rX,rY⟩
  try simp only [Act.put,zp]
  have lt8:=qaw bQ
  have kp_:qan v58 w':=fun p hp=>Below.block bw p hp
  obtain⟨U,hc_,bN,hb_,hf_,q5,q5'⟩:=qaj bQ X Y
  refine zK 9 rfl fun K hK=>?_
  refine wp_store_mid 32 (.tmp 16) (.tmp 118) rfl g16 0 #[.bool X.s,.slice X.A X.n X.c,.int .i64 X.e,.bool Y.s,.slice Y.A Y.n Y.c,.int .i64 Y.e] rfl rfl bQ.there (by kernel_rfl) (all_oneCell_toArray (qac X Y)) ?_
  rw [show w'.setCells g16 0 (#[.bool X.s,.slice X.A X.n X.c,.int .i64 X.e,.bool Y.s,.slice Y.A Y.n Y.c,.int .i64 Y.e]:Array Value).toList=U from hc_]
  clear hc_
  replace kp_:qan v58 U:=fun p hp=>(hf_ p (by omega)).trans (kp_ p hp)
  refine hK _ _ ⟨fun _ _=>kp_,?_⟩
  clear hK K kp_
  try simp only [Act.put,zp]
  refine zM 1 [10] ?_ ?_
  refine qa2 (by kernel_rfl) ?_ _
  have jU:=hb_ _ _ bw l8
  have s8:w2.heap.size<=v58.heap.size:=Below.size (lz ju j59)
  have eX_:qbr U w2.heap.size U.heap.size X:=(qaq rX (w':=U) (fun b h1 h2=>hf_ b (by omega))).more (by omega) (by omega)
  have eY_:qbr U w2.heap.size U.heap.size Y:=(qaq rY (w':=U) (fun b h1 h2=>hf_ b (by omega))).more (by omega) (by omega)
  have sU:g16 < U.heap.size:=by omega
  have iX:=Lib.hid hXY.out.1
  have iY:=Lib.hid hXY.out.2
  clear hb_ hf_ bQ bw rX rY l9 l10 l11
  have rN:=qar.range bN
  have u85_b:qar U ((w.heap.size+1)) ZDv ZDv:=(qaa bT (lz ju (lz j59 jU)) S2)
  obtain⟨u85,h86,bTu85,h86_b,h86_f,h86_l,h86_m⟩:=qaj u85_b X Y
  have h86_t:=qar.there u85_b
  replace h86:U.setCells ((w.heap.size+1)) 0 (#[.bool X.s,.slice X.A X.n X.c,.int .i64 X.e,.bool Y.s,.slice Y.A Y.n Y.c,.int .i64 Y.e]:Array Value).toList=u85:=h86
  have h86_H:=Lib.hid h86
  clear h86
  have fin_:=h86_b _ _ (lz jw (lz ju (lz j59 jU))) (by omega)
  go_wp2_with (first
   | (refine wpList_load_mid rfl 32 (.tmp 16) rfl (g16) 0 rfl [.bool X.s,.slice X.A X.n X.c,.int .i64 X.e,.bool Y.s,.slice Y.A Y.n Y.c,.int .i64 Y.e] _ rN Tryz.underlying32 rfl (by kernel_rfl) ?_)
   | (refine wpList_store_mid rfl 32 (.tmp 6) (.tmp 120) rfl ((w.heap.size+1)) 0 #[.bool X.s,.slice X.A X.n X.c,.int .i64 X.e,.bool Y.s,.slice Y.A Y.n Y.c,.int .i64 Y.e] rfl rfl h86_t (by kernel_rfl) (all_oneCell_toArray (qac X Y)) ?_; rw [h86_H.out]))
  exact bodyPost_ret (qab Tryz.results42 _ _ (w.heap.size+1) 32 #[.bool X.s,.slice X.A X.n X.c,.int .i64 X.e,.bool Y.s,.slice Y.A Y.n Y.c,.int .i64 Y.e] (0,0) _ (.int .i64 code) rfl rfl bTu85 Tryz.underlying32 rfl (by kernel_rfl)) rfl ⟨X,Y,rfl,iX.out,iY.out,fin_,(qaq eX_ (w':=u85) (fun b h1 h2=>h86_f b (by omega))).more (by omega) (by omega),(qaq eY_ (w':=u85) (fun b h1 h2=>h86_f b (by omega))).more (by omega) (by omega)⟩
theorem qpl(w:World)(p:Pv)(hR:PRows w 0 w.heap.size p)(hT:Tab w)(k:Int)(hm:qd6 p=true)(lo hi:Dn)(code:Int)(h:qcr p 5 k=(lo,hi,code)) :
  Calls Tryz.prog 42 #[.agg #[.bool p.M.S.s,.slice p.M.S.A p.M.S.n p.M.S.c,.int .i64 p.M.S.e,.bool p.M.W.s,.slice p.M.W.A p.M.W.n p.M.W.c,.int .i64 p.M.W.e,.bool p.M.C.s,.slice p.M.C.A p.M.C.n p.M.C.c,.int .i64 p.M.C.e,.bool p.M.A.s,.slice p.M.A.A p.M.A.n p.M.A.c,.int .i64 p.M.A.e,.bool p.h,.int .i64 p.mn,.int .i64 p.mx,.slice p.A p.n p.c],.int .u8 5,.int .i64 k] w (qha w lo hi code):=by
 obtain⟨w1,hw1,bP,ja,S1⟩:=alloc_p w p
 obtain⟨w2,hw2,bT,jb,S2⟩:=qba w1
 have s1:=ja.size
 have s2:=jb.size
 have z1:w1.heap.size=w.heap.size+1:=by rw [<-hw1]; simp
 have jw:Below w.heap.size w w2:=lz ja jb
 have SP:w.heap.size < w2.heap.size:=by omega
 replace bP:PBox w2 w.heap.size p:=(jb.block _ S1).trans bP
 subst hw1
 rw [z1] at bT S2
 have HH:=Lib.hid h
 have HE:=Lib.hid (qc1 hm)
 obtain⟨u,hu,bM,ju,Su⟩:=qe7 w2 p.M
 have rM:=PBox.mass bP
 clear h ja jb hm S1 s1 s2 z1
 go_enter Tryz.func42,Tryz.ntmps42
 go_upto_region 2 with (first
  | (refine wpList_load_mid rfl 26 (.tmp 18) rfl w.heap.size 0 rfl [.bool p.M.S.s,.slice p.M.S.A p.M.S.n p.M.S.c,.int .i64 p.M.S.e,.bool p.M.W.s,.slice p.M.W.A p.M.W.n p.M.W.c,.int .i64 p.M.W.e,.bool p.M.C.s,.slice p.M.C.A p.M.C.n p.M.C.c,.int .i64 p.M.C.e,.bool p.M.A.s,.slice p.M.A.A p.M.A.n p.M.A.c,.int .i64 p.M.A.e] _ rM Tryz.underlying26 rfl (by kernel_rfl) ?_)
  | (refine qai rfl 26 (.tmp 8) (.tmp 19) rfl _ #[.bool p.M.S.s,.slice p.M.S.A p.M.S.n p.M.S.c,.int .i64 p.M.S.e,.bool p.M.W.s,.slice p.M.W.A p.M.W.n p.M.W.c,.int .i64 p.M.W.e,.bool p.M.C.s,.slice p.M.C.A p.M.C.n p.M.C.c,.int .i64 p.M.C.e,.bool p.M.A.s,.slice p.M.A.A p.M.A.n p.M.A.c,.int .i64 p.M.A.e] rfl rfl (by kernel_rfl) rfl (all_oneCell_toArray (qbu p.M)) ?_; rw [hu]))
 try rw [hu]
 try clear hu
 try clear hw2
 clear rM
 obtain⟨hb,hhb⟩:∃ b,p.h=b:=⟨_,rfl⟩
 have HB_:=Lib.hid hhb
 have cP:=PBox.cell (qaa bP ju SP)
 obtain⟨⟨c0,c1,c2,c3,c4,c5,c6,c7,c8,c9,c10,c11,c12,c13,c14,c15⟩,cf⟩:=cP
 rw [hhb] at c12
 clear hhb c0 c1 c2 c3 c4 c5 c6 c7 c8 c9 c10 c11 c15 cf
 cases hb
 . have he:=HH.out
   replace he:qjj p.h p.mn p.mx=_:=he
   unfold qjj at he
   rw [if_pos HB_.out] at he
   injection he with he1 he2
   injection he2 with he2 he3
   subst he1 he2 he3
   clear HH
   go_upto_region 4 with fail
   have u87_b:qar u ((w.heap.size+1)) ZDv ZDv:=(qaa bT ju S2)
   obtain⟨u87,h88,bTu87,h88_b,h88_f,h88_l,h88_m⟩:=qaj u87_b ZDv ZDv
   have h88_t:=qar.there u87_b
   replace h88:u.setCells ((w.heap.size+1)) 0 (#[.bool false,.slice none 0 0,.int .i64 0,.bool false,.slice none 0 0,.int .i64 0]:Array Value).toList=u87:=h88
   have h88_H:=Lib.hid h88
   clear h88
   have fin_:=h88_b _ _ (lz jw ju) (by omega)
   go_wp2_with (first
    | (refine wpList_store_mid rfl 32 (.tmp 6) (.tmp 67) rfl ((w.heap.size+1)) 0 #[.bool false,.slice none 0 0,.int .i64 0,.bool false,.slice none 0 0,.int .i64 0] rfl rfl h88_t (by kernel_rfl) (all_oneCell_toArray (qac ZDv ZDv)) ?_; rw [h88_H.out]))
   exact bodyPost_ret (qab Tryz.results42 _ _ (w.heap.size+1) 32 #[.bool false,.slice none 0 0,.int .i64 0,.bool false,.slice none 0 0,.int .i64 0] (0,0) _ (.int .i64 6) rfl rfl bTu87 Tryz.underlying32 rfl (by kernel_rfl)) rfl ⟨ZDv,ZDv,rfl,isZ,isZ,fin_,qf8 _ _ _,qf8 _ _ _⟩
 skip
 have he:=HH.out
 replace he:qjj p.h p.mn p.mx=_:=he
 unfold qjj at he
 rw [if_neg (by rw [HB_.out]; simp)] at he
 injection he with he1 he2
 injection he2 with he2 he3
 subst he1 he2 he3
 clear HH
 go_upto_region 21 with fail
 have c13_:∀ w',qan u w'->w'.cell? ⟨w.heap.size,13,none⟩=some (.int .i64 p.mn):=fun w' h1=>(World.cell?_of_block (h1 _ (Nat.lt_of_lt_of_le SP (Below.size ju)))).trans c13
 have c14_:∀ w',qan u w'->w'.cell? ⟨w.heap.size,14,none⟩=some (.int .i64 p.mx):=fun w' h1=>(World.cell?_of_block (h1 _ (Nat.lt_of_lt_of_le SP (Below.size ju)))).trans c14
 try clear hw
 refine zB (qan u) [9] 11 ?_
 have j90:Below u.heap.size u u.drew:=(Below.refl _ _).drew
 generalize u.drew=v89 at *
 refine zM 2 [0,1] ?_ ?_
 have kpy91:qan u v89:=fun p hp=>Below.block j90 p hp
 refine zD 2 (.int .i64 p.mn) rfl ?y91 ?z92
 case y91 =>
  intro w' h1
  have k_:=c13_ w' h1
  go_simp
 try simp only [Act.put,zp]
 refine zM 2 [4,5] ?_ ?_
 have kpy93:qan u v89:=fun p hp=>Below.block j90 p hp
 refine zD 6 (.int .i64 p.mx) rfl ?y93 ?z94
 case y93 =>
  intro w' h1
  have k_:=c14_ w' h1
  go_simp
 try simp only [Act.put,zp]
 refine zK 3 rfl fun K hK=>?_
 go_simp
 go_at_call 88
 refine (qi4 v89 p.mn HE.out.1.1 HE.out.1.2).mono ?_
 rintro e' v95 ⟨X,rfl,iX,j96,dX⟩
 replace iX:=Lib.hid iX
 refine hK _ _ ⟨fun _ _=>fun p hp=>Below.block (lz j90 j96) p hp,?_⟩
 clear hK K
 try simp only [Act.put,zp]
 refine zK 7 rfl fun K hK=>?_
 go_simp
 go_at_call 88
 refine (qi4 v95 p.mx HE.out.2.1.1 HE.out.2.1.2).mono ?_
 rintro e' v97 ⟨Y,rfl,iY,j98,dY⟩
 replace iY:=Lib.hid iY
 refine hK _ _ ⟨fun _ _=>fun p hp=>Below.block (lz j90 (lz j96 j98)) p hp,?_⟩
 clear hK K
 try simp only [Act.put,zp]
 refine zM 1 [8] ?_ ?_
 have bT_:qar v97 (w.heap.size+1) ZDv ZDv:=(qaa bT (lz ju (lz j90 (lz j96 j98))) S2)
 have s3:w2.heap.size<=v97.heap.size:=Below.size (lz ju (lz j90 (lz j96 j98)))
 have s4:w2.heap.size<=v95.heap.size:=Below.size (lz ju (lz j90 j96))
 have s5:w2.heap.size<=v89.heap.size:=Below.size (lz ju j90)
 have eX_:qbr v97 w2.heap.size v97.heap.size X:=qae.more (qae.below dX j98 (Nat.le_refl _)) s5 (Below.size j98)
 have eY_:qbr v97 w2.heap.size v97.heap.size Y:=qae.more dY s4 (Nat.le_refl _)
 obtain⟨U,hU,bU,hb_,hf_,l5,l6⟩:=qaj bT_ X Y
 have fin_:=hb_ _ _ (lz jw (lz ju (lz j90 (lz j96 j98)))) (by omega)
 refine zK 9 rfl fun K hK=>?_
 refine wp_store_mid 32 (.tmp 6) (.tmp 132) rfl (w.heap.size+1) 0 #[.bool X.s,.slice X.A X.n X.c,.int .i64 X.e,.bool Y.s,.slice Y.A Y.n Y.c,.int .i64 Y.e] rfl rfl bT_.there (by kernel_rfl) (all_oneCell_toArray (qac X Y)) ?_
 rw [show v97.setCells (w.heap.size+1) 0 (#[.bool X.s,.slice X.A X.n X.c,.int .i64 X.e,.bool Y.s,.slice Y.A Y.n Y.c,.int .i64 Y.e]:Array Value).toList=U from hU]
 refine hK _ _ ⟨fun h=>absurd h (by decide),?_⟩
 clear hK K
 try simp only [Act.put,zp]
 refine zM 1 [10] ?_ ?_
 refine qa2 (by kernel_rfl) ?_ _
 go_wp2
 exact bodyPost_ret (qab Tryz.results42 _ _ (w.heap.size+1) 32 #[.bool X.s,.slice X.A X.n X.c,.int .i64 X.e,.bool Y.s,.slice Y.A Y.n Y.c,.int .i64 Y.e] (0,0) _ (.int .i64 0) rfl rfl bU Tryz.underlying32 rfl (by kernel_rfl)) rfl ⟨X,Y,rfl,iX.out,iY.out,fin_,(qaq eX_ (w':=U) (fun b h1 h2=>hf_ b (by omega))).more (by omega) (by omega),(qaq eY_ (w':=U) (fun b h1 h2=>hf_ b (by omega))).more (by omega) (by omega)⟩
theorem qpk(w:World)(p:Pv)(hR:PRows w 0 w.heap.size p)(hT:Tab w)(k:Int)(hm:qd6 p=true)(lo hi:Dn)(code:Int)(h:qcr p 6 k=(lo,hi,code)) :
  Calls Tryz.prog 42 #[.agg #[.bool p.M.S.s,.slice p.M.S.A p.M.S.n p.M.S.c,.int .i64 p.M.S.e,.bool p.M.W.s,.slice p.M.W.A p.M.W.n p.M.W.c,.int .i64 p.M.W.e,.bool p.M.C.s,.slice p.M.C.A p.M.C.n p.M.C.c,.int .i64 p.M.C.e,.bool p.M.A.s,.slice p.M.A.A p.M.A.n p.M.A.c,.int .i64 p.M.A.e,.bool p.h,.int .i64 p.mn,.int .i64 p.mx,.slice p.A p.n p.c],.int .u8 6,.int .i64 k] w (qha w lo hi code):=by
 obtain⟨w1,hw1,bP,ja,S1⟩:=alloc_p w p
 obtain⟨w2,hw2,bT,jb,S2⟩:=qba w1
 have s1:=ja.size
 have s2:=jb.size
 have z1:w1.heap.size=w.heap.size+1:=by rw [<-hw1]; simp
 have jw:Below w.heap.size w w2:=lz ja jb
 have SP:w.heap.size < w2.heap.size:=by omega
 replace bP:PBox w2 w.heap.size p:=(jb.block _ S1).trans bP
 subst hw1
 rw [z1] at bT S2
 have HH:=Lib.hid h
 have HE:=Lib.hid (qc1 hm)
 obtain⟨u,hu,bM,ju,Su⟩:=qe7 w2 p.M
 have rM:=PBox.mass bP
 clear h ja jb hm S1 s1 s2 z1
 go_enter Tryz.func42,Tryz.ntmps42
 go_upto_region 2 with (first
  | (refine wpList_load_mid rfl 26 (.tmp 18) rfl w.heap.size 0 rfl [.bool p.M.S.s,.slice p.M.S.A p.M.S.n p.M.S.c,.int .i64 p.M.S.e,.bool p.M.W.s,.slice p.M.W.A p.M.W.n p.M.W.c,.int .i64 p.M.W.e,.bool p.M.C.s,.slice p.M.C.A p.M.C.n p.M.C.c,.int .i64 p.M.C.e,.bool p.M.A.s,.slice p.M.A.A p.M.A.n p.M.A.c,.int .i64 p.M.A.e] _ rM Tryz.underlying26 rfl (by kernel_rfl) ?_)
  | (refine qai rfl 26 (.tmp 8) (.tmp 19) rfl _ #[.bool p.M.S.s,.slice p.M.S.A p.M.S.n p.M.S.c,.int .i64 p.M.S.e,.bool p.M.W.s,.slice p.M.W.A p.M.W.n p.M.W.c,.int .i64 p.M.W.e,.bool p.M.C.s,.slice p.M.C.A p.M.C.n p.M.C.c,.int .i64 p.M.C.e,.bool p.M.A.s,.slice p.M.A.A p.M.A.n p.M.A.c,.int .i64 p.M.A.e] rfl rfl (by kernel_rfl) rfl (all_oneCell_toArray (qbu p.M)) ?_; rw [hu]))
 try rw [hu]
 try clear hu
 try clear hw2
 clear rM
 have c15:=(PBox.cell (qaa bP ju SP)).1.2.2.2.2.2.2.2.2.2.2.2.2.2.2.2
 have hlen:p.xs.length=p.n:=(PRows.on hR (lz jw ju)).L.len
 obtain⟨b6,hb6⟩:∃ b,(((p.n:Nat):Int)==0)=b:=⟨_,rfl⟩
 cases b6
 case true =>
  have HZ6:=Lib.hid (eq_of_beq hb6)
  have he:=HH.out
  replace he:qe2 p.xs=_:=he
  unfold qe2 at he
  rw [if_pos (by have:=HZ6.out; omega)] at he
  injection he with he1 he2
  injection he2 with he2 he3
  subst he1 he2 he3
  clear HH
  clear hlen
  go_upto_region 4 with fail
  have u99_b:qar u ((w.heap.size+1)) ZDv ZDv:=(qaa bT ju S2)
  obtain⟨u99,h100,bTu99,h100_b,h100_f,h100_l,h100_m⟩:=qaj u99_b ZDv ZDv
  have h100_t:=qar.there u99_b
  replace h100:u.setCells ((w.heap.size+1)) 0 (#[.bool false,.slice none 0 0,.int .i64 0,.bool false,.slice none 0 0,.int .i64 0]:Array Value).toList=u99:=h100
  have h100_H:=Lib.hid h100
  clear h100
  have fin_:=h100_b _ _ (lz jw ju) (by omega)
  go_wp2_with (first
   | (refine wpList_store_mid rfl 32 (.tmp 6) (.tmp 67) rfl ((w.heap.size+1)) 0 #[.bool false,.slice none 0 0,.int .i64 0,.bool false,.slice none 0 0,.int .i64 0] rfl rfl h100_t (by kernel_rfl) (all_oneCell_toArray (qac ZDv ZDv)) ?_; rw [h100_H.out]))
  exact bodyPost_ret (qab Tryz.results42 _ _ (w.heap.size+1) 32 #[.bool false,.slice none 0 0,.int .i64 0,.bool false,.slice none 0 0,.int .i64 0] (0,0) _ (.int .i64 6) rfl rfl bTu99 Tryz.underlying32 rfl (by kernel_rfl)) rfl ⟨ZDv,ZDv,rfl,isZ,isZ,fin_,qf8 _ _ _,qf8 _ _ _⟩
 case false =>
  have HZ6:=Lib.hid (ne_of_beq_false hb6)
  have he:=HH.out
  replace he:qe2 p.xs=_:=he
  unfold qe2 at he
  rw [if_neg (by have:=HZ6.out; omega)] at he
  injection he with he1 he2
  injection he2 with he2 he3
  subst he1 he2 he3
  clear HH
  clear hlen
  obtain⟨n0,n1⟩:=qh5 HE.out.2.2 (fun x hx=>by have:=(PRows.on hR (lz jw ju)).L.wf x hx; simp [IntKind.min,IntKind.max,IntKind.signed,IntKind.bits] at this; omega)
  obtain⟨G,hG⟩:∃ g,Least.guessS p.xs=g:=⟨_,rfl⟩
  rw [hG] at n0 n1
  have HG:=Lib.hid hG
  have cg:Calls Tryz.prog 92 #[.slice p.A p.n p.c] u fun e w'=>e=.returned (.int .i64 G)/\u=w':=by
   rw [<-hG]
   exact Least.Guessed_any u 0 u.heap.size p.A p.n p.c p.xs (PRows.on hR (lz jw ju)).L HE.out.2.2
  clear hG
  go_wp2_with fail
  refine cg.mono ?_
  rintro e' w' ⟨rfl,rfl⟩
  clear cg
  go_wp2_with fail
  refine (qol u G (by omega) (by omega)).mono ?_
  rintro e' v101 ⟨X,rfl,iX,j102,dX⟩
  try clear hw
  replace iX:=Lib.hid (by rw [<-HG.out] at iX; exact iX)
  replace dX:=qcw dX
  go_wp2_with fail
  refine (qk0 v101 X dX (qqq iX.out (qis _) dX)).mono ?_
  rintro e' v103 ⟨Y1,Y2,rfl,iY,j104,eY1,eY2⟩
  try clear hw
  have iY1:=Lib.hid (iY _ iX.out).1
  have iY2:=Lib.hid (iY _ iX.out).2
  clear iY
  have s8:w2.heap.size<=v101.heap.size:=Below.size (lz ju j102)
  have eY1_:qbr v103 w2.heap.size v103.heap.size Y1:=qae.more eY1 s8 (Nat.le_refl _)
  have eY2_:qbr v103 w2.heap.size v103.heap.size Y2:=qae.more eY2 s8 (Nat.le_refl _)
  have u105_b:qar v103 ((w.heap.size+1)) ZDv ZDv:=(qaa bT (lz ju (lz j102 j104)) S2)
  obtain⟨u105,h106,bTu105,h106_b,h106_f,h106_l,h106_m⟩:=qaj u105_b Y1 Y2
  have h106_t:=qar.there u105_b
  replace h106:v103.setCells ((w.heap.size+1)) 0 (#[.bool Y1.s,.slice Y1.A Y1.n Y1.c,.int .i64 Y1.e,.bool Y2.s,.slice Y2.A Y2.n Y2.c,.int .i64 Y2.e]:Array Value).toList=u105:=h106
  have h106_H:=Lib.hid h106
  clear h106
  have fin_:=h106_b _ _ (lz jw (lz ju (lz j102 j104))) (by omega)
  go_wp2_with (first
   | (refine wpList_store_mid rfl 32 (.tmp 6) (.tmp 137) rfl ((w.heap.size+1)) 0 #[.bool Y1.s,.slice Y1.A Y1.n Y1.c,.int .i64 Y1.e,.bool Y2.s,.slice Y2.A Y2.n Y2.c,.int .i64 Y2.e] rfl rfl h106_t (by kernel_rfl) (all_oneCell_toArray (qac Y1 Y2)) ?_; rw [h106_H.out]))
  exact bodyPost_ret (qab Tryz.results42 _ _ (w.heap.size+1) 32 #[.bool Y1.s,.slice Y1.A Y1.n Y1.c,.int .i64 Y1.e,.bool Y2.s,.slice Y2.A Y2.n Y2.c,.int .i64 Y2.e] (0,0) _ (.int .i64 0) rfl rfl bTu105 Tryz.underlying32 rfl (by kernel_rfl)) rfl ⟨Y1,Y2,rfl,iY1.out,iY2.out,fin_,(qaq eY1_ (w':=u105) (fun b h1 h2=>h106_f b (by omega))).more (by omega) (by omega),(qaq eY2_ (w':=u105) (fun b h1 h2=>h106_f b (by omega))).more (by omega) (by omega)⟩
theorem qtb(w:World)(p:Pv)(hR:PRows w 0 w.heap.size p)(hT:Tab w)(kind k:Int)(hm:qd6 p=true)(k0:1<=kind)(k1:kind<=6)(lo hi:Dn)(code:Int)(h:qcr p kind k=(lo,hi,code)) :
  Calls Tryz.prog 42 #[.agg #[.bool p.M.S.s,.slice p.M.S.A p.M.S.n p.M.S.c,.int .i64 p.M.S.e,.bool p.M.W.s,.slice p.M.W.A p.M.W.n p.M.W.c,.int .i64 p.M.W.e,.bool p.M.C.s,.slice p.M.C.A p.M.C.n p.M.C.c,.int .i64 p.M.C.e,.bool p.M.A.s,.slice p.M.A.A p.M.A.n p.M.A.c,.int .i64 p.M.A.e,.bool p.h,.int .i64 p.mn,.int .i64 p.mx,.slice p.A p.n p.c],.int .u8 kind,.int .i64 k] w (qha w lo hi code):=by
 have hk:kind=1∨kind=2∨kind=3∨kind=4∨kind=5∨kind=6:=by omega
 rcases hk with rfl|rfl|rfl|rfl|rfl|rfl
 . exact qpp w p hR hT k hm lo hi code h
 . exact qpo w p hR hT k hm lo hi code h
 . exact qpn w p hR hT k hm lo hi code h
 . exact qpm w p hR hT k hm lo hi code h
 . exact qpl w p hR hT k hm lo hi code h
 exact qpk w p hR hT k hm lo hi code h
end Ma
end Go.Proofs.YtmbppgjhdcmckaaGreatDoor