/- headcountref25.Of, Part, Node: walks (printed by a program of mine). -/
import Derived.Test.YtmbppgjhdcmckaaGreatDoorBj30
set_option maxHeartbeats 102400000
set_option maxRecDepth 100000
namespace Go.Proofs.YtmbppgjhdcmckaaGreatDoor
open Go.RowKit
namespace No
open Ma
open Dp Dy
theorem qty(w:World)(v:Nv)(hR:NRows w 0 w.heap.size v)(hg:qbi v.P=false)(hf:qch v.fn v.fs=false)(e:Int)(b:Bool)(hb:ofB v e=b) :
  Calls Tryz.prog 56 #[.agg #[.int .i64 v.id,.int .i64 v.val,.bool v.up,.int .i64 v.kl,.int .i64 v.kt,.int .i64 v.ks,.int .i64 v.ke,.int .i64 v.kf,.bool v.P.M.S.s,.slice v.P.M.S.A v.P.M.S.n v.P.M.S.c,.int .i64 v.P.M.S.e,.bool v.P.M.W.s,.slice v.P.M.W.A v.P.M.W.n v.P.M.W.c,.int .i64 v.P.M.W.e,.bool v.P.M.C.s,.slice v.P.M.C.A v.P.M.C.n v.P.M.C.c,.int .i64 v.P.M.C.e,.bool v.P.M.A.s,.slice v.P.M.A.A v.P.M.A.n v.P.M.A.c,.int .i64 v.P.M.A.e,.bool v.P.h,.int .i64 v.P.mn,.int .i64 v.P.mx,.slice v.P.A v.P.n v.P.c,.bool v.wo,.int .i64 v.wn,.int .i64 v.wt,.slice v.hA v.hn v.hc,.int .i64 v.own,.int .i64 v.cap,.slice v.dA v.dn v.dc,.slice v.fA v.fn v.fc,.slice v.tA v.tn v.tc],.int .i64 e] w fun e_ w'=>∃ q:Pv,e_=.returned (.tuple #[.agg #[.bool q.M.S.s,.slice q.M.S.A q.M.S.n q.M.S.c,.int .i64 q.M.S.e,.bool q.M.W.s,.slice q.M.W.A q.M.W.n q.M.W.c,.int .i64 q.M.W.e,.bool q.M.C.s,.slice q.M.C.A q.M.C.n q.M.C.c,.int .i64 q.M.C.e,.bool q.M.A.s,.slice q.M.A.A q.M.A.n q.M.A.c,.int .i64 q.M.A.e,.bool q.h,.int .i64 q.mn,.int .i64 q.mx,.slice q.A q.n q.c],.bool b])/\qbv (ofV v e) q/\Below w.heap.size w w'/\PRows w' w.heap.size w'.heap.size q:=by
 obtain⟨w1,hw1,bN,ja,S1⟩:=qb7 63 w v
 obtain⟨w2,hw2,bZ,jb,S2⟩:=qg6 w1
 have lw1:=ja.size
 have lw2:=jb.size
 have hs:=Lib.hid (qfe hR.F hf)
 have hs2:=Lib.hid (qd4 hR.P hg)
 have HK:=Lib.hid hb
 clear hb hg hf
 go_enter Tryz.func56,Tryz.ntmps56
 go_upto_region 1 with fail
 try rw [hw1]
 try rw [hw2]
 try clear hw1
 try clear hw2
 have c6:w2.cell? ⟨w.heap.size,6,none⟩=some (.int .i64 v.ke):=qak.at_ (qaa bN jb S1) 6 _ rfl
 obtain⟨b1,hb1⟩:∃ b,(e==v.ke)=b:=⟨_,rfl⟩
 have HB1:=Lib.hid hb1
 cases b1
 rotate_left
 . obtain⟨b2,hb2⟩:∃ b,decide (v.kf<=v.ke)=b:=⟨_,rfl⟩
   have HB2:=Lib.hid hb2
   obtain rfl:b=b2:=by rw [<-HK.out,<-hb2]; unfold ofB; rw [if_pos HB1.out]
   clear hb2
   have c3:w2.cell? ⟨w.heap.size,3,none⟩=some (.int .i64 v.kl):=qak.at_ (qaa bN jb S1) 3 _ rfl
   have c4:w2.cell? ⟨w.heap.size,4,none⟩=some (.int .i64 v.kt):=qak.at_ (qaa bN jb S1) 4 _ rfl
   have c5:w2.cell? ⟨w.heap.size,5,none⟩=some (.int .i64 v.ks):=qak.at_ (qaa bN jb S1) 5 _ rfl
   have c7:w2.cell? ⟨w.heap.size,7,none⟩=some (.int .i64 v.kf):=qak.at_ (qaa bN jb S1) 7 _ rfl
   go_wp2_with fail
   refine (qhg w2 v.kl v.kt v.ks v.ke v.kf b HB2.out).mono ?_
   rintro e' v1 ⟨rfl,j2⟩
   try clear hw
   clear hb1 c6 c3 c4 c5 c7
   cases b
   case false =>
    have HV:Hid (ofV v e=ZPv):=Lib.hid (by unfold ofV; rw [if_pos HB1.out,if_neg (by rw [HB2.out]; decide)])
    have bz_:PBox v1 (w1.heap.size) ZPv:=(qaa bZ j2 S2)
    obtain⟨U_,hU_,bU_,hb_,hf_,l5_,l5'_⟩:=qax bz_ ZPv
    have th_:=bz_.there
    replace hU_:v1.setCells (w1.heap.size) 0 (#[.bool false,.slice none 0 0,.int .i64 0,.bool false,.slice none 0 0,.int .i64 0,.bool false,.slice none 0 0,.int .i64 0,.bool false,.slice none 0 0,.int .i64 0,.bool false,.int .i64 0,.int .i64 0,.slice none 0 0]:Array Value).toList=U_:=hU_
    have HU_:=Lib.hid hU_
    clear hU_
    have fin_:=hb_ _ _ (lz ja (lz jb j2)) (by omega)
    go_wp2_with (first | (refine wpList_store_mid rfl 30 (.tmp 4) (.tmp 19) rfl (w1.heap.size) 0 #[.bool false,.slice none 0 0,.int .i64 0,.bool false,.slice none 0 0,.int .i64 0,.bool false,.slice none 0 0,.int .i64 0,.bool false,.slice none 0 0,.int .i64 0,.bool false,.int .i64 0,.int .i64 0,.slice none 0 0] rfl rfl th_ (by kernel_rfl) (all_oneCell_toArray (qal ZPv)) ?_; rw [HU_.out]))
    obtain⟨Z_,hZ_⟩:∃ q:Pv,q=ZPv:=⟨_,rfl⟩
    rw [<-hZ_] at bU_
    exact bodyPost_ret (qab Tryz.results56 _ _ (w1.heap.size) 30 #[.bool Z_.M.S.s,.slice Z_.M.S.A Z_.M.S.n Z_.M.S.c,.int .i64 Z_.M.S.e,.bool Z_.M.W.s,.slice Z_.M.W.A Z_.M.W.n Z_.M.W.c,.int .i64 Z_.M.W.e,.bool Z_.M.C.s,.slice Z_.M.C.A Z_.M.C.n Z_.M.C.c,.int .i64 Z_.M.C.e,.bool Z_.M.A.s,.slice Z_.M.A.A Z_.M.A.n Z_.M.A.c,.int .i64 Z_.M.A.e,.bool Z_.h,.int .i64 Z_.mn,.int .i64 Z_.mx,.slice Z_.A Z_.n Z_.c] (0,0) _ (.bool false) rfl rfl bU_ Tryz.underlying30 rfl (by kernel_rfl)) rfl ⟨Z_,rfl,by rw [hZ_,HV.out]; exact qhc,fin_,by rw [hZ_]; exact qie _ _ _⟩
   have HV:Hid (ofV v e=v.P):=Lib.hid (by unfold ofV; rw [if_pos HB1.out,if_pos HB2.out])
   have ra:=qak.part (qaa bN (lz jb j2) S1)
   go_wp2_with (first
    | (refine wpList_load_mid rfl 30 (.tmp 16) rfl (w.heap.size) 8 rfl [.bool v.P.M.S.s,.slice v.P.M.S.A v.P.M.S.n v.P.M.S.c,.int .i64 v.P.M.S.e,.bool v.P.M.W.s,.slice v.P.M.W.A v.P.M.W.n v.P.M.W.c,.int .i64 v.P.M.W.e,.bool v.P.M.C.s,.slice v.P.M.C.A v.P.M.C.n v.P.M.C.c,.int .i64 v.P.M.C.e,.bool v.P.M.A.s,.slice v.P.M.A.A v.P.M.A.n v.P.M.A.c,.int .i64 v.P.M.A.e,.bool v.P.h,.int .i64 v.P.mn,.int .i64 v.P.mx,.slice v.P.A v.P.n v.P.c] _ ra Tryz.underlying30 rfl (by kernel_rfl) ?_))
   refine (qdg v1 v.P (NRows.on hR (lz ja (lz jb j2))).P hs2.out.1 hs2.out.2).mono ?_
   rintro e' v3 ⟨q,rfl,tq,j4,Rq⟩
   try clear hw
   clear ra
   replace tq:=Lib.hid tq
   have bz_:PBox v3 (w1.heap.size) ZPv:=(qaa bZ (lz j2 j4) S2)
   obtain⟨U_,hU_,bU_,hb_,hf_,l5_,l5'_⟩:=qax bz_ q
   have th_:=bz_.there
   replace hU_:v3.setCells (w1.heap.size) 0 (#[.bool q.M.S.s,.slice q.M.S.A q.M.S.n q.M.S.c,.int .i64 q.M.S.e,.bool q.M.W.s,.slice q.M.W.A q.M.W.n q.M.W.c,.int .i64 q.M.W.e,.bool q.M.C.s,.slice q.M.C.A q.M.C.n q.M.C.c,.int .i64 q.M.C.e,.bool q.M.A.s,.slice q.M.A.A q.M.A.n q.M.A.c,.int .i64 q.M.A.e,.bool q.h,.int .i64 q.mn,.int .i64 q.mx,.slice q.A q.n q.c]:Array Value).toList=U_:=hU_
   have HU_:=Lib.hid hU_
   clear hU_
   have fin_:=hb_ _ _ (lz ja (lz jb (lz j2 j4))) (by omega)
   have sz_:=Below.size (lz ja (lz jb j2))
   have szB_:=Below.size j2
   have Rq2:=(qbp Rq (qcj Rq (.inl (by omega))) hf_).more (lo':=w.heap.size) (hi':=U_.heap.size) (by omega) (by omega)
   have tg:qbv (ofV v e) q:=by rw [HV.out]; exact tq.out
   go_wp2_with (first | (refine wpList_store_mid rfl 30 (.tmp 4) (.tmp 18) rfl (w1.heap.size) 0 #[.bool q.M.S.s,.slice q.M.S.A q.M.S.n q.M.S.c,.int .i64 q.M.S.e,.bool q.M.W.s,.slice q.M.W.A q.M.W.n q.M.W.c,.int .i64 q.M.W.e,.bool q.M.C.s,.slice q.M.C.A q.M.C.n q.M.C.c,.int .i64 q.M.C.e,.bool q.M.A.s,.slice q.M.A.A q.M.A.n q.M.A.c,.int .i64 q.M.A.e,.bool q.h,.int .i64 q.mn,.int .i64 q.mx,.slice q.A q.n q.c] rfl rfl th_ (by kernel_rfl) (all_oneCell_toArray (qal q)) ?_; rw [HU_.out]))
   exact bodyPost_ret (qab Tryz.results56 _ _ (w1.heap.size) 30 #[.bool q.M.S.s,.slice q.M.S.A q.M.S.n q.M.S.c,.int .i64 q.M.S.e,.bool q.M.W.s,.slice q.M.W.A q.M.W.n q.M.W.c,.int .i64 q.M.W.e,.bool q.M.C.s,.slice q.M.C.A q.M.C.n q.M.C.c,.int .i64 q.M.C.e,.bool q.M.A.s,.slice q.M.A.A q.M.A.n q.M.A.c,.int .i64 q.M.A.e,.bool q.h,.int .i64 q.mn,.int .i64 q.mx,.slice q.A q.n q.c] (0,0) _ (.bool true) rfl rfl bU_ Tryz.underlying30 rfl (by kernel_rfl)) rfl ⟨q,rfl,tg,fin_,Rq2⟩
 obtain⟨r,hr⟩:∃ r,ofF v.fs e=r:=⟨_,rfl⟩
 have HRr:=Lib.hid hr
 clear hr
 obtain rfl:b=r.isSome:=by rw [<-HK.out,<-HRr.out]; unfold ofB; rw [if_neg (by rw [HB1.out]; decide)]
 have HV:Hid (ofV v e=r.getD ZPv):=Lib.hid (by unfold ofV; rw [if_neg (by rw [HB1.out]; decide),HRr.out])
 have c31:w2.cell? ⟨w.heap.size,31,none⟩=some (.slice v.fA v.fn v.fc):=qak.at_ (qaa bN jb S1) 31 _ rfl
 go_wp2_with fail
 refine (q0z w2 v.fA v.fn v.fc v.fs (NRows.on hR (lz ja jb)).F e hs.out r HRr.out).mono ?_
 rintro e' v5 ⟨q,rfl,tq,j6,Rq⟩
 try clear hw
 clear hb1 c6 c31
 replace tq:=Lib.hid tq
 obtain⟨u8,hu8,bQ,jq8,sq8⟩:=alloc_p v5 q
 go_upto_region 6 with (first
  | (refine qai rfl 30 (.tmp 6) (.tmp 25) rfl _ #[.bool q.M.S.s,.slice q.M.S.A q.M.S.n q.M.S.c,.int .i64 q.M.S.e,.bool q.M.W.s,.slice q.M.W.A q.M.W.n q.M.W.c,.int .i64 q.M.W.e,.bool q.M.C.s,.slice q.M.C.A q.M.C.n q.M.C.c,.int .i64 q.M.C.e,.bool q.M.A.s,.slice q.M.A.A q.M.A.n q.M.A.c,.int .i64 q.M.A.e,.bool q.h,.int .i64 q.mn,.int .i64 q.mx,.slice q.A q.n q.c] rfl rfl (by kernel_rfl) rfl (all_oneCell_toArray (qal q)) ?_; rw [hu8]))
 try clear hu8
 have Rq8:=Rq.below jq8 (Nat.le_refl _)
 have s2_:=Below.size (lz ja jb)
 have s3_:=Below.size jq8
 have s4_:=Below.size (Below.refl 0 w)
 have s5_:=Below.size (lz j6 jq8)
 have bz_:PBox u8 (w1.heap.size) ZPv:=(qaa bZ (lz j6 jq8) S2)
 obtain⟨U_,hU_,bU_,hb_,hf_,l5_,l5'_⟩:=qax bz_ q
 have th_:=bz_.there
 replace hU_:u8.setCells (w1.heap.size) 0 (#[.bool q.M.S.s,.slice q.M.S.A q.M.S.n q.M.S.c,.int .i64 q.M.S.e,.bool q.M.W.s,.slice q.M.W.A q.M.W.n q.M.W.c,.int .i64 q.M.W.e,.bool q.M.C.s,.slice q.M.C.A q.M.C.n q.M.C.c,.int .i64 q.M.C.e,.bool q.M.A.s,.slice q.M.A.A q.M.A.n q.M.A.c,.int .i64 q.M.A.e,.bool q.h,.int .i64 q.mn,.int .i64 q.mx,.slice q.A q.n q.c]:Array Value).toList=U_:=hU_
 have HU_:=Lib.hid hU_
 clear hU_
 have fin_:=hb_ _ _ (lz ja (lz jb (lz j6 jq8))) (by omega)
 have Rq2:=(qbp Rq8 (qcj Rq8 (.inl (by omega))) hf_).more (lo':=w.heap.size) (hi':=U_.heap.size) (by omega) (by omega)
 have tg:qbv (ofV v e) q:=by rw [HV.out]; exact tq.out
 have rg_:u8.rangeAt (v5.heap.size) 0 [.bool q.M.S.s,.slice q.M.S.A q.M.S.n q.M.S.c,.int .i64 q.M.S.e,.bool q.M.W.s,.slice q.M.W.A q.M.W.n q.M.W.c,.int .i64 q.M.W.e,.bool q.M.C.s,.slice q.M.C.A q.M.C.n q.M.C.c,.int .i64 q.M.C.e,.bool q.M.A.s,.slice q.M.A.A q.M.A.n q.M.A.c,.int .i64 q.M.A.e,.bool q.h,.int .i64 q.mn,.int .i64 q.mx,.slice q.A q.n q.c]:=PBox.range bQ
 go_wp2_with (first | (refine wpList_load_mid rfl 30 (.tmp 6) rfl (v5.heap.size) 0 rfl [.bool q.M.S.s,.slice q.M.S.A q.M.S.n q.M.S.c,.int .i64 q.M.S.e,.bool q.M.W.s,.slice q.M.W.A q.M.W.n q.M.W.c,.int .i64 q.M.W.e,.bool q.M.C.s,.slice q.M.C.A q.M.C.n q.M.C.c,.int .i64 q.M.C.e,.bool q.M.A.s,.slice q.M.A.A q.M.A.n q.M.A.c,.int .i64 q.M.A.e,.bool q.h,.int .i64 q.mn,.int .i64 q.mx,.slice q.A q.n q.c] _ rg_ Tryz.underlying30 rfl (by kernel_rfl) ?_) | (refine wpList_store_mid rfl 30 (.tmp 4) (.tmp 27) rfl (w1.heap.size) 0 #[.bool q.M.S.s,.slice q.M.S.A q.M.S.n q.M.S.c,.int .i64 q.M.S.e,.bool q.M.W.s,.slice q.M.W.A q.M.W.n q.M.W.c,.int .i64 q.M.W.e,.bool q.M.C.s,.slice q.M.C.A q.M.C.n q.M.C.c,.int .i64 q.M.C.e,.bool q.M.A.s,.slice q.M.A.A q.M.A.n q.M.A.c,.int .i64 q.M.A.e,.bool q.h,.int .i64 q.mn,.int .i64 q.mx,.slice q.A q.n q.c] rfl rfl th_ (by kernel_rfl) (all_oneCell_toArray (qal q)) ?_; rw [HU_.out]))
 exact bodyPost_ret (qab Tryz.results56 _ _ (w1.heap.size) 30 #[.bool q.M.S.s,.slice q.M.S.A q.M.S.n q.M.S.c,.int .i64 q.M.S.e,.bool q.M.W.s,.slice q.M.W.A q.M.W.n q.M.W.c,.int .i64 q.M.W.e,.bool q.M.C.s,.slice q.M.C.A q.M.C.n q.M.C.c,.int .i64 q.M.C.e,.bool q.M.A.s,.slice q.M.A.A q.M.A.n q.M.A.c,.int .i64 q.M.A.e,.bool q.h,.int .i64 q.mn,.int .i64 q.mx,.slice q.A q.n q.c] (0,0) _ (.bool r.isSome) rfl rfl bU_ Tryz.underlying30 rfl (by kernel_rfl)) rfl ⟨q,rfl,tg,fin_,Rq2⟩
theorem qi3(w:World)(v:Nv)(hR:NRows w 0 w.heap.size v)(hg:qbi v.P=false)(hf:qch v.fn v.fs=false)(hd:v.dn<=1000000)(e k:Int)(hk:qdk v e=k) :
  Calls Tryz.prog 26 #[.agg #[.int .i64 v.id,.int .i64 v.val,.bool v.up,.int .i64 v.kl,.int .i64 v.kt,.int .i64 v.ks,.int .i64 v.ke,.int .i64 v.kf,.bool v.P.M.S.s,.slice v.P.M.S.A v.P.M.S.n v.P.M.S.c,.int .i64 v.P.M.S.e,.bool v.P.M.W.s,.slice v.P.M.W.A v.P.M.W.n v.P.M.W.c,.int .i64 v.P.M.W.e,.bool v.P.M.C.s,.slice v.P.M.C.A v.P.M.C.n v.P.M.C.c,.int .i64 v.P.M.C.e,.bool v.P.M.A.s,.slice v.P.M.A.A v.P.M.A.n v.P.M.A.c,.int .i64 v.P.M.A.e,.bool v.P.h,.int .i64 v.P.mn,.int .i64 v.P.mx,.slice v.P.A v.P.n v.P.c,.bool v.wo,.int .i64 v.wn,.int .i64 v.wt,.slice v.hA v.hn v.hc,.int .i64 v.own,.int .i64 v.cap,.slice v.dA v.dn v.dc,.slice v.fA v.fn v.fc,.slice v.tA v.tn v.tc],.int .i64 e] w fun e_ w'=>∃ q:Pv,e_=.returned (.tuple #[.agg #[.bool q.M.S.s,.slice q.M.S.A q.M.S.n q.M.S.c,.int .i64 q.M.S.e,.bool q.M.W.s,.slice q.M.W.A q.M.W.n q.M.W.c,.int .i64 q.M.W.e,.bool q.M.C.s,.slice q.M.C.A q.M.C.n q.M.C.c,.int .i64 q.M.C.e,.bool q.M.A.s,.slice q.M.A.A q.M.A.n q.M.A.c,.int .i64 q.M.A.e,.bool q.h,.int .i64 q.mn,.int .i64 q.mx,.slice q.A q.n q.c],.int .i64 k])/\qbv (qc7 v e) q/\Below w.heap.size w w'/\PRows w' w.heap.size w'.heap.size q:=by
 obtain⟨w1,hw1,bN,ja,S1⟩:=qb7 63 w v
 obtain⟨w2,hw2,bZ,jb,S2⟩:=qg6 w1
 have lw1:=ja.size
 have lw2:=jb.size
 have HK:=Lib.hid hk
 have HP:=Lib.hid ((qug hR.F.len).symm.trans hk)
 clear hk
 obtain⟨m,hm⟩:∃ m,qir v=m:=⟨_,rfl⟩
 have HM:=Lib.hid hm
 clear hm
 go_enter Tryz.func26,Tryz.ntmps26
 go_upto_region 1 with fail
 try rw [hw1]
 try rw [hw2]
 try clear hw1
 try clear hw2
 have rN:=qak.range (qaa bN jb S1)
 go_wp2_with (first | (refine wpList_load_mid rfl 63 (.tmp 2) rfl w.heap.size 0 rfl (cells33 v) _ rN Tryz.underlying63 rfl (by kernel_rfl) ?_; simp only [cells33]))
 refine (qoj w2 v (NRows.on hR (lz ja jb)) hd m HM.out).mono ?_
 rintro e' v7 ⟨rfl,j8⟩
 try clear hw
 clear rN
 cases m
 case false =>
  obtain rfl:k=8:=by rw [<-HP.out,if_pos HM.out]
  have bz_:PBox v7 (w1.heap.size) ZPv:=(qaa bZ j8 S2)
  obtain⟨U_,hU_,bU_,hb_,hf_,l5_,l5'_⟩:=qax bz_ ZPv
  have th_:=bz_.there
  replace hU_:v7.setCells (w1.heap.size) 0 (#[.bool false,.slice none 0 0,.int .i64 0,.bool false,.slice none 0 0,.int .i64 0,.bool false,.slice none 0 0,.int .i64 0,.bool false,.slice none 0 0,.int .i64 0,.bool false,.int .i64 0,.int .i64 0,.slice none 0 0]:Array Value).toList=U_:=hU_
  have HU_:=Lib.hid hU_
  clear hU_
  have fin_:=hb_ _ _ (lz ja (lz jb j8)) (by omega)
  go_wp2_with (first | (refine wpList_store_mid rfl 30 (.tmp 4) (.tmp 11) rfl (w1.heap.size) 0 #[.bool false,.slice none 0 0,.int .i64 0,.bool false,.slice none 0 0,.int .i64 0,.bool false,.slice none 0 0,.int .i64 0,.bool false,.slice none 0 0,.int .i64 0,.bool false,.int .i64 0,.int .i64 0,.slice none 0 0] rfl rfl th_ (by kernel_rfl) (all_oneCell_toArray (qal ZPv)) ?_; rw [HU_.out]))
  obtain⟨Z_,hZ_⟩:∃ q:Pv,q=ZPv:=⟨_,rfl⟩
  rw [<-hZ_] at bU_
  exact bodyPost_ret (qab Tryz.results26 _ _ (w1.heap.size) 30 #[.bool Z_.M.S.s,.slice Z_.M.S.A Z_.M.S.n Z_.M.S.c,.int .i64 Z_.M.S.e,.bool Z_.M.W.s,.slice Z_.M.W.A Z_.M.W.n Z_.M.W.c,.int .i64 Z_.M.W.e,.bool Z_.M.C.s,.slice Z_.M.C.A Z_.M.C.n Z_.M.C.c,.int .i64 Z_.M.C.e,.bool Z_.M.A.s,.slice Z_.M.A.A Z_.M.A.n Z_.M.A.c,.int .i64 Z_.M.A.e,.bool Z_.h,.int .i64 Z_.mn,.int .i64 Z_.mx,.slice Z_.A Z_.n Z_.c] (0,0) _ (.int .i64 8) rfl rfl bU_ Tryz.underlying30 rfl (by kernel_rfl)) rfl ⟨Z_,rfl,by rw [hZ_,qcq HK.out (by decide)]; exact qhc,fin_,by rw [hZ_]; exact qie _ _ _⟩
 obtain⟨c,hc⟩:∃ c,v.up=c:=⟨_,rfl⟩
 have c2:v7.cell? ⟨w.heap.size,2,none⟩=some (.bool c):=(qak.at_ (qaa bN (lz jb j8) S1) 2 _ rfl).trans (by rw [hc])
 have HC:=Lib.hid hc
 clear hc
 cases c
 case false =>
  obtain rfl:k=14:=by rw [<-HP.out,if_neg (by rw [HM.out]; decide),if_pos HC.out]
  have bz_:PBox v7 (w1.heap.size) ZPv:=(qaa bZ j8 S2)
  obtain⟨U_,hU_,bU_,hb_,hf_,l5_,l5'_⟩:=qax bz_ ZPv
  have th_:=bz_.there
  replace hU_:v7.setCells (w1.heap.size) 0 (#[.bool false,.slice none 0 0,.int .i64 0,.bool false,.slice none 0 0,.int .i64 0,.bool false,.slice none 0 0,.int .i64 0,.bool false,.slice none 0 0,.int .i64 0,.bool false,.int .i64 0,.int .i64 0,.slice none 0 0]:Array Value).toList=U_:=hU_
  have HU_:=Lib.hid hU_
  clear hU_
  have fin_:=hb_ _ _ (lz ja (lz jb j8)) (by omega)
  go_wp2_with (first | (refine wpList_store_mid rfl 30 (.tmp 4) (.tmp 15) rfl (w1.heap.size) 0 #[.bool false,.slice none 0 0,.int .i64 0,.bool false,.slice none 0 0,.int .i64 0,.bool false,.slice none 0 0,.int .i64 0,.bool false,.slice none 0 0,.int .i64 0,.bool false,.int .i64 0,.int .i64 0,.slice none 0 0] rfl rfl th_ (by kernel_rfl) (all_oneCell_toArray (qal ZPv)) ?_; rw [HU_.out]))
  obtain⟨Z_,hZ_⟩:∃ q:Pv,q=ZPv:=⟨_,rfl⟩
  rw [<-hZ_] at bU_
  exact bodyPost_ret (qab Tryz.results26 _ _ (w1.heap.size) 30 #[.bool Z_.M.S.s,.slice Z_.M.S.A Z_.M.S.n Z_.M.S.c,.int .i64 Z_.M.S.e,.bool Z_.M.W.s,.slice Z_.M.W.A Z_.M.W.n Z_.M.W.c,.int .i64 Z_.M.W.e,.bool Z_.M.C.s,.slice Z_.M.C.A Z_.M.C.n Z_.M.C.c,.int .i64 Z_.M.C.e,.bool Z_.M.A.s,.slice Z_.M.A.A Z_.M.A.n Z_.M.A.c,.int .i64 Z_.M.A.e,.bool Z_.h,.int .i64 Z_.mn,.int .i64 Z_.mx,.slice Z_.A Z_.n Z_.c] (0,0) _ (.int .i64 14) rfl rfl bU_ Tryz.underlying30 rfl (by kernel_rfl)) rfl ⟨Z_,rfl,by rw [hZ_,qcq HK.out (by decide)]; exact qhc,fin_,by rw [hZ_]; exact qie _ _ _⟩
 by_cases he:e < 0
 . obtain rfl:k=2:=by rw [<-HP.out,if_neg (by rw [HM.out]; decide),if_neg (by rw [HC.out]; decide),if_pos (.inl he)]
   have bz_:PBox v7 (w1.heap.size) ZPv:=(qaa bZ j8 S2)
   obtain⟨U_,hU_,bU_,hb_,hf_,l5_,l5'_⟩:=qax bz_ ZPv
   have th_:=bz_.there
   replace hU_:v7.setCells (w1.heap.size) 0 (#[.bool false,.slice none 0 0,.int .i64 0,.bool false,.slice none 0 0,.int .i64 0,.bool false,.slice none 0 0,.int .i64 0,.bool false,.slice none 0 0,.int .i64 0,.bool false,.int .i64 0,.int .i64 0,.slice none 0 0]:Array Value).toList=U_:=hU_
   have HU_:=Lib.hid hU_
   clear hU_
   have fin_:=hb_ _ _ (lz ja (lz jb j8)) (by omega)
   go_wp2_with (first | (refine wpList_store_mid rfl 30 (.tmp 4) (.tmp 22) rfl (w1.heap.size) 0 #[.bool false,.slice none 0 0,.int .i64 0,.bool false,.slice none 0 0,.int .i64 0,.bool false,.slice none 0 0,.int .i64 0,.bool false,.slice none 0 0,.int .i64 0,.bool false,.int .i64 0,.int .i64 0,.slice none 0 0] rfl rfl th_ (by kernel_rfl) (all_oneCell_toArray (qal ZPv)) ?_; rw [HU_.out]))
   obtain⟨Z_,hZ_⟩:∃ q:Pv,q=ZPv:=⟨_,rfl⟩
   rw [<-hZ_] at bU_
   exact bodyPost_ret (qab Tryz.results26 _ _ (w1.heap.size) 30 #[.bool Z_.M.S.s,.slice Z_.M.S.A Z_.M.S.n Z_.M.S.c,.int .i64 Z_.M.S.e,.bool Z_.M.W.s,.slice Z_.M.W.A Z_.M.W.n Z_.M.W.c,.int .i64 Z_.M.W.e,.bool Z_.M.C.s,.slice Z_.M.C.A Z_.M.C.n Z_.M.C.c,.int .i64 Z_.M.C.e,.bool Z_.M.A.s,.slice Z_.M.A.A Z_.M.A.n Z_.M.A.c,.int .i64 Z_.M.A.e,.bool Z_.h,.int .i64 Z_.mn,.int .i64 Z_.mx,.slice Z_.A Z_.n Z_.c] (0,0) _ (.int .i64 2) rfl rfl bU_ Tryz.underlying30 rfl (by kernel_rfl)) rfl ⟨Z_,rfl,by rw [hZ_,qcq HK.out (by decide)]; exact qhc,fin_,by rw [hZ_]; exact qie _ _ _⟩
 have d0_:decide (e < 0)=false:=decide_eq_false he
 have he0:=he
 clear he
 by_cases he:65535 < e
 . obtain rfl:k=2:=by rw [<-HP.out,if_neg (by rw [HM.out]; decide),if_neg (by rw [HC.out]; decide),if_pos (.inr he)]
   have bz_:PBox v7 (w1.heap.size) ZPv:=(qaa bZ j8 S2)
   obtain⟨U_,hU_,bU_,hb_,hf_,l5_,l5'_⟩:=qax bz_ ZPv
   have th_:=bz_.there
   replace hU_:v7.setCells (w1.heap.size) 0 (#[.bool false,.slice none 0 0,.int .i64 0,.bool false,.slice none 0 0,.int .i64 0,.bool false,.slice none 0 0,.int .i64 0,.bool false,.slice none 0 0,.int .i64 0,.bool false,.int .i64 0,.int .i64 0,.slice none 0 0]:Array Value).toList=U_:=hU_
   have HU_:=Lib.hid hU_
   clear hU_
   have fin_:=hb_ _ _ (lz ja (lz jb j8)) (by omega)
   go_wp2_with (first | (refine wpList_store_mid rfl 30 (.tmp 4) (.tmp 22) rfl (w1.heap.size) 0 #[.bool false,.slice none 0 0,.int .i64 0,.bool false,.slice none 0 0,.int .i64 0,.bool false,.slice none 0 0,.int .i64 0,.bool false,.slice none 0 0,.int .i64 0,.bool false,.int .i64 0,.int .i64 0,.slice none 0 0] rfl rfl th_ (by kernel_rfl) (all_oneCell_toArray (qal ZPv)) ?_; rw [HU_.out]))
   obtain⟨Z_,hZ_⟩:∃ q:Pv,q=ZPv:=⟨_,rfl⟩
   rw [<-hZ_] at bU_
   exact bodyPost_ret (qab Tryz.results26 _ _ (w1.heap.size) 30 #[.bool Z_.M.S.s,.slice Z_.M.S.A Z_.M.S.n Z_.M.S.c,.int .i64 Z_.M.S.e,.bool Z_.M.W.s,.slice Z_.M.W.A Z_.M.W.n Z_.M.W.c,.int .i64 Z_.M.W.e,.bool Z_.M.C.s,.slice Z_.M.C.A Z_.M.C.n Z_.M.C.c,.int .i64 Z_.M.C.e,.bool Z_.M.A.s,.slice Z_.M.A.A Z_.M.A.n Z_.M.A.c,.int .i64 Z_.M.A.e,.bool Z_.h,.int .i64 Z_.mn,.int .i64 Z_.mx,.slice Z_.A Z_.n Z_.c] (0,0) _ (.int .i64 2) rfl rfl bU_ Tryz.underlying30 rfl (by kernel_rfl)) rfl ⟨Z_,rfl,by rw [hZ_,qcq HK.out (by decide)]; exact qhc,fin_,by rw [hZ_]; exact qie _ _ _⟩
 have d1_:decide (65535 < e)=false:=decide_eq_false he
 have he1:=he
 clear he
 obtain⟨b,hb⟩:∃ b,ofB v e=b:=⟨_,rfl⟩
 have HB:=Lib.hid hb
 clear hb
 have HP2:Hid ((if b=true then (0:Int) else 6)=k):=Lib.hid (by have h:=HP.out; rw [if_neg (by rw [HM.out]; decide),if_neg (by rw [HC.out]; decide),if_neg (by omega),HB.out] at h; exact h)
 clear HP
 have rN:=qak.range (qaa bN (lz jb j8) S1)
 go_wp2_with (first | (refine wpList_load_mid rfl 63 (.tmp 2) rfl w.heap.size 0 rfl (cells33 v) _ rN Tryz.underlying63 rfl (by kernel_rfl) ?_; simp only [cells33]))
 refine (qty v7 v (NRows.on hR (lz ja (lz jb j8))) hg hf e b HB.out).mono ?_
 rintro e' v9 ⟨q,rfl,tq,j10,Rq⟩
 try clear hw
 clear rN d0_ d1_ c2
 replace tq:=Lib.hid tq
 obtain⟨u8,hu8,bQ,jq8,sq8⟩:=alloc_p v9 q
 go_upto_region 8 with (first
  | (refine qai rfl 30 (.tmp 6) (.tmp 27) rfl _ #[.bool q.M.S.s,.slice q.M.S.A q.M.S.n q.M.S.c,.int .i64 q.M.S.e,.bool q.M.W.s,.slice q.M.W.A q.M.W.n q.M.W.c,.int .i64 q.M.W.e,.bool q.M.C.s,.slice q.M.C.A q.M.C.n q.M.C.c,.int .i64 q.M.C.e,.bool q.M.A.s,.slice q.M.A.A q.M.A.n q.M.A.c,.int .i64 q.M.A.e,.bool q.h,.int .i64 q.mn,.int .i64 q.mx,.slice q.A q.n q.c] rfl rfl (by kernel_rfl) rfl (all_oneCell_toArray (qal q)) ?_; rw [hu8]))
 try clear hu8
 have Rq8:=Rq.below jq8 (Nat.le_refl _)
 have s2_:=Below.size (lz ja (lz jb j8))
 have s3_:=Below.size jq8
 have s4_:=Below.size j8
 have s5_:=Below.size (lz j10 jq8)
 cases b
 case false =>
  obtain rfl:k=6:=HP2.out.symm
  have bz_:PBox u8 (w1.heap.size) ZPv:=(qaa bZ (lz j8 (lz j10 jq8)) S2)
  obtain⟨U_,hU_,bU_,hb_,hf_,l5_,l5'_⟩:=qax bz_ ZPv
  have th_:=bz_.there
  replace hU_:u8.setCells (w1.heap.size) 0 (#[.bool false,.slice none 0 0,.int .i64 0,.bool false,.slice none 0 0,.int .i64 0,.bool false,.slice none 0 0,.int .i64 0,.bool false,.slice none 0 0,.int .i64 0,.bool false,.int .i64 0,.int .i64 0,.slice none 0 0]:Array Value).toList=U_:=hU_
  have HU_:=Lib.hid hU_
  clear hU_
  have fin_:=hb_ _ _ (lz ja (lz jb (lz j8 (lz j10 jq8)))) (by omega)
  go_wp2_with (first | (refine wpList_store_mid rfl 30 (.tmp 4) (.tmp 31) rfl (w1.heap.size) 0 #[.bool false,.slice none 0 0,.int .i64 0,.bool false,.slice none 0 0,.int .i64 0,.bool false,.slice none 0 0,.int .i64 0,.bool false,.slice none 0 0,.int .i64 0,.bool false,.int .i64 0,.int .i64 0,.slice none 0 0] rfl rfl th_ (by kernel_rfl) (all_oneCell_toArray (qal ZPv)) ?_; rw [HU_.out]))
  obtain⟨Z_,hZ_⟩:∃ q:Pv,q=ZPv:=⟨_,rfl⟩
  rw [<-hZ_] at bU_
  exact bodyPost_ret (qab Tryz.results26 _ _ (w1.heap.size) 30 #[.bool Z_.M.S.s,.slice Z_.M.S.A Z_.M.S.n Z_.M.S.c,.int .i64 Z_.M.S.e,.bool Z_.M.W.s,.slice Z_.M.W.A Z_.M.W.n Z_.M.W.c,.int .i64 Z_.M.W.e,.bool Z_.M.C.s,.slice Z_.M.C.A Z_.M.C.n Z_.M.C.c,.int .i64 Z_.M.C.e,.bool Z_.M.A.s,.slice Z_.M.A.A Z_.M.A.n Z_.M.A.c,.int .i64 Z_.M.A.e,.bool Z_.h,.int .i64 Z_.mn,.int .i64 Z_.mx,.slice Z_.A Z_.n Z_.c] (0,0) _ (.int .i64 6) rfl rfl bU_ Tryz.underlying30 rfl (by kernel_rfl)) rfl ⟨Z_,rfl,by rw [hZ_,qcq HK.out (by decide)]; exact qhc,fin_,by rw [hZ_]; exact qie _ _ _⟩
 obtain rfl:k=0:=HP2.out.symm
 have bz_:PBox u8 (w1.heap.size) ZPv:=(qaa bZ (lz j8 (lz j10 jq8)) S2)
 obtain⟨U_,hU_,bU_,hb_,hf_,l5_,l5'_⟩:=qax bz_ q
 have th_:=bz_.there
 replace hU_:u8.setCells (w1.heap.size) 0 (#[.bool q.M.S.s,.slice q.M.S.A q.M.S.n q.M.S.c,.int .i64 q.M.S.e,.bool q.M.W.s,.slice q.M.W.A q.M.W.n q.M.W.c,.int .i64 q.M.W.e,.bool q.M.C.s,.slice q.M.C.A q.M.C.n q.M.C.c,.int .i64 q.M.C.e,.bool q.M.A.s,.slice q.M.A.A q.M.A.n q.M.A.c,.int .i64 q.M.A.e,.bool q.h,.int .i64 q.mn,.int .i64 q.mx,.slice q.A q.n q.c]:Array Value).toList=U_:=hU_
 have HU_:=Lib.hid hU_
 clear hU_
 have fin_:=hb_ _ _ (lz ja (lz jb (lz j8 (lz j10 jq8)))) (by omega)
 have Rq2:=(qbp Rq8 (qcj Rq8 (.inl (by omega))) hf_).more (lo':=w.heap.size) (hi':=U_.heap.size) (by omega) (by omega)
 have tg:qbv (qc7 v e) q:=by rw [quf hR.F.len HK.out HM.out HC.out]; exact tq.out
 have rg_:u8.rangeAt (v9.heap.size) 0 [.bool q.M.S.s,.slice q.M.S.A q.M.S.n q.M.S.c,.int .i64 q.M.S.e,.bool q.M.W.s,.slice q.M.W.A q.M.W.n q.M.W.c,.int .i64 q.M.W.e,.bool q.M.C.s,.slice q.M.C.A q.M.C.n q.M.C.c,.int .i64 q.M.C.e,.bool q.M.A.s,.slice q.M.A.A q.M.A.n q.M.A.c,.int .i64 q.M.A.e,.bool q.h,.int .i64 q.mn,.int .i64 q.mx,.slice q.A q.n q.c]:=PBox.range bQ
 go_wp2_with (first | (refine wpList_load_mid rfl 30 (.tmp 6) rfl (v9.heap.size) 0 rfl [.bool q.M.S.s,.slice q.M.S.A q.M.S.n q.M.S.c,.int .i64 q.M.S.e,.bool q.M.W.s,.slice q.M.W.A q.M.W.n q.M.W.c,.int .i64 q.M.W.e,.bool q.M.C.s,.slice q.M.C.A q.M.C.n q.M.C.c,.int .i64 q.M.C.e,.bool q.M.A.s,.slice q.M.A.A q.M.A.n q.M.A.c,.int .i64 q.M.A.e,.bool q.h,.int .i64 q.mn,.int .i64 q.mx,.slice q.A q.n q.c] _ rg_ Tryz.underlying30 rfl (by kernel_rfl) ?_) | (refine wpList_store_mid rfl 30 (.tmp 4) (.tmp 32) rfl (w1.heap.size) 0 #[.bool q.M.S.s,.slice q.M.S.A q.M.S.n q.M.S.c,.int .i64 q.M.S.e,.bool q.M.W.s,.slice q.M.W.A q.M.W.n q.M.W.c,.int .i64 q.M.W.e,.bool q.M.C.s,.slice q.M.C.A q.M.C.n q.M.C.c,.int .i64 q.M.C.e,.bool q.M.A.s,.slice q.M.A.A q.M.A.n q.M.A.c,.int .i64 q.M.A.e,.bool q.h,.int .i64 q.mn,.int .i64 q.mx,.slice q.A q.n q.c] rfl rfl th_ (by kernel_rfl) (all_oneCell_toArray (qal q)) ?_; rw [HU_.out]))
 exact bodyPost_ret (qab Tryz.results26 _ _ (w1.heap.size) 30 #[.bool q.M.S.s,.slice q.M.S.A q.M.S.n q.M.S.c,.int .i64 q.M.S.e,.bool q.M.W.s,.slice q.M.W.A q.M.W.n q.M.W.c,.int .i64 q.M.W.e,.bool q.M.C.s,.slice q.M.C.A q.M.C.n q.M.C.c,.int .i64 q.M.C.e,.bool q.M.A.s,.slice q.M.A.A q.M.A.n q.M.A.c,.int .i64 q.M.A.e,.bool q.h,.int .i64 q.mn,.int .i64 q.mx,.slice q.A q.n q.c] (0,0) _ (.int .i64 0) rfl rfl bU_ Tryz.underlying30 rfl (by kernel_rfl)) rfl ⟨q,rfl,tg,fin_,Rq2⟩
theorem qoi(w:World)(v:Nv)(hR:NRows w 0 w.heap.size v)(hT:Tab w)(hg:qbi v.P=false)(hf:qch v.fn v.fs=false)(hd:v.dn<=1000000)(kind e k:Int)(lo hi:Dn)(code:Int)(h:qig v kind e k=(lo,hi,code)) :
  Calls Tryz.prog 28 #[.agg #[.int .i64 v.id,.int .i64 v.val,.bool v.up,.int .i64 v.kl,.int .i64 v.kt,.int .i64 v.ks,.int .i64 v.ke,.int .i64 v.kf,.bool v.P.M.S.s,.slice v.P.M.S.A v.P.M.S.n v.P.M.S.c,.int .i64 v.P.M.S.e,.bool v.P.M.W.s,.slice v.P.M.W.A v.P.M.W.n v.P.M.W.c,.int .i64 v.P.M.W.e,.bool v.P.M.C.s,.slice v.P.M.C.A v.P.M.C.n v.P.M.C.c,.int .i64 v.P.M.C.e,.bool v.P.M.A.s,.slice v.P.M.A.A v.P.M.A.n v.P.M.A.c,.int .i64 v.P.M.A.e,.bool v.P.h,.int .i64 v.P.mn,.int .i64 v.P.mx,.slice v.P.A v.P.n v.P.c,.bool v.wo,.int .i64 v.wn,.int .i64 v.wt,.slice v.hA v.hn v.hc,.int .i64 v.own,.int .i64 v.cap,.slice v.dA v.dn v.dc,.slice v.fA v.fn v.fc,.slice v.tA v.tn v.tc],.int .u8 kind,.int .i64 e,.int .i64 k] w fun e_ w'=>∃ x y:Dv,e_=.returned (.tuple #[.agg #[.bool x.s,.slice x.A x.n x.c,.int .i64 x.e,.bool y.s,.slice y.A y.n y.c,.int .i64 y.e],.int .i64 code])/\Is lo x/\Is hi y/\Below w.heap.size w w'/\qbr w' w.heap.size w'.heap.size x/\qbr w' w.heap.size w'.heap.size y:=by
 obtain⟨w1,hw1,bN,ja,S1⟩:=qb7 63 w v
 obtain⟨w2,hw2,bT,jb,S2⟩:=qba w1
 have lw1:=ja.size
 have lw2:=jb.size
 obtain⟨c,hc⟩:∃ c,qdk v e=c:=⟨_,rfl⟩
 have HC:=Lib.hid hc
 have HH:=Lib.hid h
 clear hc h
 go_enter Tryz.func28,Tryz.ntmps28
 go_upto_region 1 with fail
 try rw [hw1]
 try rw [hw2]
 try clear hw1
 try clear hw2
 have rN:=qak.range (qaa bN jb S1)
 go_wp2_with (first | (refine wpList_load_mid rfl 63 (.tmp 4) rfl w.heap.size 0 rfl (cells33 v) _ rN Tryz.underlying63 rfl (by kernel_rfl) ?_; simp only [cells33]))
 refine (qi3 w2 v (NRows.on hR (lz ja jb)) hg hf hd e c HC.out).mono ?_
 rintro e' v1 ⟨q,rfl,tq,j2,Rq⟩
 try clear hw
 clear rN
 replace tq:=Lib.hid tq
 replace Rq:=Rq.more (Nat.zero_le _) (Nat.le_refl _)
 obtain⟨u8,hu8,bQ,jq8,sq8⟩:=alloc_p v1 q
 go_upto_region 2 with (first
  | (refine qai rfl 30 (.tmp 10) (.tmp 18) rfl _ #[.bool q.M.S.s,.slice q.M.S.A q.M.S.n q.M.S.c,.int .i64 q.M.S.e,.bool q.M.W.s,.slice q.M.W.A q.M.W.n q.M.W.c,.int .i64 q.M.W.e,.bool q.M.C.s,.slice q.M.C.A q.M.C.n q.M.C.c,.int .i64 q.M.C.e,.bool q.M.A.s,.slice q.M.A.A q.M.A.n q.M.A.c,.int .i64 q.M.A.e,.bool q.h,.int .i64 q.mn,.int .i64 q.mx,.slice q.A q.n q.c] rfl rfl (by kernel_rfl) rfl (all_oneCell_toArray (qal q)) ?_; rw [hu8]))
 try clear hu8
 have Rq8:=PRows.on Rq jq8
 by_cases h0:c=0
 rotate_left
 . have n0:(c != 0)=true:=by simpa using h0
   have h:=HH.out
   unfold qig at h
   rw [if_neg (by rw [HC.out]; exact h0)] at h
   injection h with h1 h2
   injection h2 with h2 h3
   rw [HC.out] at h3
   subst h1 h2 h3
   clear HH HC
   have bz_:qar u8 w1.heap.size ZDv ZDv:=(qaa bT (lz j2 jq8) S2)
   obtain⟨U_,hU_,bU_,hb_,hf_,l5_,l5'_⟩:=qaj bz_ ZDv ZDv
   have th_:=qar.there bz_
   replace hU_:u8.setCells (w1.heap.size) 0 (#[.bool false,.slice none 0 0,.int .i64 0,.bool false,.slice none 0 0,.int .i64 0]:Array Value).toList=U_:=hU_
   have HU_:=Lib.hid hU_
   clear hU_
   have fin_:=hb_ _ _ (lz ja (lz jb (lz j2 jq8))) (by omega)
   go_wp2_with (first | (refine wpList_store_mid rfl 32 (.tmp 8) (.tmp 22) rfl w1.heap.size 0 #[.bool false,.slice none 0 0,.int .i64 0,.bool false,.slice none 0 0,.int .i64 0] rfl rfl th_ (by kernel_rfl) (all_oneCell_toArray (qac ZDv ZDv)) ?_; rw [HU_.out]))
   exact bodyPost_ret (qab Tryz.results28 _ _ w1.heap.size 32 #[.bool false,.slice none 0 0,.int .i64 0,.bool false,.slice none 0 0,.int .i64 0] (0,0) _ (.int .i64 c) rfl rfl bU_ Tryz.underlying32 rfl (by kernel_rfl)) rfl ⟨ZDv,ZDv,rfl,isZ,isZ,fin_,qf8 _ _ _,qf8 _ _ _⟩
 subst h0
 have HA:Hid (ql7 (qc7 v e) kind k=(lo,hi,code)):=Lib.hid (by have:=HH.out; unfold qig at this; rw [if_pos HC.out] at this; exact this)
 clear HH HC
 have rP:=PBox.range bQ
 go_wp2_with (first
  | (refine wpList_load_mid rfl 30 (.tmp 10) rfl (v1.heap.size) 0 rfl [.bool q.M.S.s,.slice q.M.S.A q.M.S.n q.M.S.c,.int .i64 q.M.S.e,.bool q.M.W.s,.slice q.M.W.A q.M.W.n q.M.W.c,.int .i64 q.M.W.e,.bool q.M.C.s,.slice q.M.C.A q.M.C.n q.M.C.c,.int .i64 q.M.C.e,.bool q.M.A.s,.slice q.M.A.A q.M.A.n q.M.A.c,.int .i64 q.M.A.e,.bool q.h,.int .i64 q.mn,.int .i64 q.mx,.slice q.A q.n q.c] _ rP Tryz.underlying30 rfl (by kernel_rfl) ?_))
 refine (qys u8 q Rq8 (qbs hT (lz ja (lz jb (lz j2 jq8)))) kind k lo hi code ((qjy tq.out kind k).trans HA.out)).mono ?_
 rintro e' v3 ⟨x,y,rfl,ix,iy,j4,rx,ry⟩
 try clear hw
 clear rP
 replace ix:=Lib.hid ix
 replace iy:=Lib.hid iy
 obtain⟨u5,h8,bX,j6,s7⟩:=qes v3 x y
 go_upto_region 5 with (first | (refine qai rfl 32 (.tmp 12) (.tmp 29) rfl _ #[.bool x.s,.slice x.A x.n x.c,.int .i64 x.e,.bool y.s,.slice y.A y.n y.c,.int .i64 y.e] rfl rfl (by kernel_rfl) rfl (all_oneCell_toArray (qac x y)) ?_; rw [h8]))
 try clear h8
 have rX:=qar.range bX
 have bTu:qar u5 (w1.heap.size) ZDv ZDv:=(qaa bT (lz j2 (lz jq8 (lz j4 j6))) S2)
 have bu:Below w.heap.size w u5:=(lz ja (lz jb (lz j2 (lz jq8 (lz j4 j6)))))
 have q1_:=Below.size (lz j2 jq8)
 have q2_:=Below.size j4
 have q3_:=Below.size j6
 obtain⟨U,hU,bF,hbF,hfF,g1,g1'⟩:=qaj bTu x y
 have th:=qar.there bTu
 replace hU:u5.setCells (w1.heap.size) 0 (#[.bool x.s,.slice x.A x.n x.c,.int .i64 x.e,.bool y.s,.slice y.A y.n y.c,.int .i64 y.e]:Array Value).toList=U:=hU
 have HU:=Lib.hid hU
 clear hU
 have rx2:=qae.below rx j6 (Nat.le_refl _)
 have ry2:=qae.below ry j6 (Nat.le_refl _)
 go_wp2_with (first
  | (refine wpList_load_mid rfl 32 (.tmp 12) rfl (v3.heap.size) 0 rfl [.bool x.s,.slice x.A x.n x.c,.int .i64 x.e,.bool y.s,.slice y.A y.n y.c,.int .i64 y.e] _ rX Tryz.underlying32 rfl (by kernel_rfl) ?_)
  | (refine wpList_store_mid rfl 32 (.tmp 8) (.tmp 31) rfl (w1.heap.size) 0 #[.bool x.s,.slice x.A x.n x.c,.int .i64 x.e,.bool y.s,.slice y.A y.n y.c,.int .i64 y.e] rfl rfl th (by kernel_rfl) (all_oneCell_toArray (qac x y)) ?_; rw [HU.out]))
 have fin:=hbF _ _ bu (by omega)
 exact bodyPost_ret (qab Tryz.results28 _ _ (w1.heap.size) 32 #[.bool x.s,.slice x.A x.n x.c,.int .i64 x.e,.bool y.s,.slice y.A y.n y.c,.int .i64 y.e] (0,0) _ (.int .i64 code) rfl rfl bF Tryz.underlying32 rfl (by kernel_rfl)) rfl ⟨x,y,rfl,ix.out,iy.out,fin,(qaq rx2 (w':=U) (fun b h1 h2=>hfF b (by omega))).more (by omega) (by omega),(qaq ry2 (w':=U) (fun b h1 h2=>hfF b (by omega))).more (by omega) (by omega)⟩
theorem qul{v:Nv}{kind e k:Int}{x y:Dn}{c:Int}(h:qig v kind e k=(x,y,c)):x.May/\y.May:=by
 unfold qig at h
 split at h
 . exact qym h
 injection h with h1 h2
 injection h2 with h2 h3
 subst h1 h2
 exact⟨qb8,qb8⟩
theorem qof{w:World}{lo hi:Nat}{v:Nv}(hR:NRows w lo hi v)(hg:qbi v.P=false)(hf:qch v.fn v.fs=false)(e:Int):(∀ x,x < 4->((qc7 v e).M.get x).n<=1000000)/\(qc7 v e).n<=1000000:=by
 have hz:(∀ x,x < 4->(ZPv.M.get x).n<=1000000)/\ZPv.n<=1000000:=⟨four (Nat.zero_le _) (Nat.zero_le _) (Nat.zero_le _) (Nat.zero_le _),Nat.zero_le _⟩
 unfold qc7
 split
 . split
   . exact qd4 hR.P hg
   unfold qmg
   rw [if_pos rfl]
   by_cases hl:qa9 v.fs e < v.fs.length
   . rw [List.getElem?_eq_getElem hl]
     exact qfe hR.F hf _ hl
   rw [List.getElem?_eq_none (by omega)]
   exact hz
 exact hz
theorem qoe{p q:Pv}(h:qbv p q)(hs:(∀ x,x < 4->(p.M.get x).n<=1000000)/\p.n<=1000000):(∀ x,x < 4->(q.M.get x).n<=1000000)/\q.n<=1000000 :=
 ⟨fun x hx=>by rw [(h.1 x hx).2.1]; exact hs.1 x hx,by rw [h.2.2.2.2.1]; exact hs.2⟩
theorem psub{w:World}{g:Nat}{p:Pv}(h:PBox w g p)(o:Nat)(l:List Value)(hl:(qbk p).drop o=l++(qbk p).drop (o+l.length)):w.rangeAt g o l:=fun j u hj=>by
 refine (PBox.range h) (o+j) u ?_ |> fun k=>by simpa using k
 have h1:j < l.length:=(List.getElem?_eq_some_iff.1 hj).1
 have h2:(qbk p)[o+j]? = ((qbk p).drop o)[j]? := by rw [List.getElem?_drop]
 rw [h2,hl,List.getElem?_append_left h1]
 exact hj
theorem dyS{w:World}{g:Nat}{p:Pv}(h:PBox w g p):w.rangeAt g 0 [.bool p.M.S.s,.slice p.M.S.A p.M.S.n p.M.S.c,.int .i64 p.M.S.e]:=psub h 0 _ rfl
theorem dyA{w:World}{g:Nat}{p:Pv}(h:PBox w g p):w.rangeAt g 9 [.bool p.M.A.s,.slice p.M.A.A p.M.A.n p.M.A.c,.int .i64 p.M.A.e]:=psub h 9 _ rfl
theorem qsa{w:World}{g:Nat}{p:Pv}(h:PBox w g p):w.cell? ⟨g,15,none⟩=some (.slice p.A p.n p.c):=(psub h 15 [_] rfl) 0 _ rfl
theorem q0t{w:World}{g:Nat}{o:Obj}{b:Nat}(h:w.heap[g]? = some o)(hb:b≠g)(k:Nat)(v:Value):(w.setCell ⟨b,k,none⟩ v).heap[g]? = some o:=(Below.heap_setCell _ _ _ _ (Ne.symm hb)).trans h
theorem node25_walk(w:World)(v:Nv)(hR:NRows w 0 w.heap.size v)(kind e k:Int)(hT:Tab w) :
  Calls Tryz.prog 5 #[.agg #[.int .i64 v.id,.int .i64 v.val,.bool v.up,.int .i64 v.kl,.int .i64 v.kt,.int .i64 v.ks,.int .i64 v.ke,.int .i64 v.kf,.bool v.P.M.S.s,.slice v.P.M.S.A v.P.M.S.n v.P.M.S.c,.int .i64 v.P.M.S.e,.bool v.P.M.W.s,.slice v.P.M.W.A v.P.M.W.n v.P.M.W.c,.int .i64 v.P.M.W.e,.bool v.P.M.C.s,.slice v.P.M.C.A v.P.M.C.n v.P.M.C.c,.int .i64 v.P.M.C.e,.bool v.P.M.A.s,.slice v.P.M.A.A v.P.M.A.n v.P.M.A.c,.int .i64 v.P.M.A.e,.bool v.P.h,.int .i64 v.P.mn,.int .i64 v.P.mx,.slice v.P.A v.P.n v.P.c,.bool v.wo,.int .i64 v.wn,.int .i64 v.wt,.slice v.hA v.hn v.hc,.int .i64 v.own,.int .i64 v.cap,.slice v.dA v.dn v.dc,.slice v.fA v.fn v.fc,.slice v.tA v.tn v.tc],.int .u8 kind,.int .i64 e,.int .i64 k] w fun e_ w'=>e_=.returned (.bool true)/\Below w.heap.size w w':=by
 obtain⟨w1,hw1,bN,ja,S1⟩:=qb7 63 w v
 obtain⟨g,hg⟩:∃ g,qfw v=g:=⟨_,rfl⟩
 have HG:=Lib.hid hg
 obtain⟨c,hc⟩:∃ c,qdk v e=c:=⟨_,rfl⟩
 have HC:=Lib.hid hc
 obtain⟨lo,hi,code,hq⟩:∃ x y z,qig v kind e k=(x,y,z):=⟨_,_,_,rfl⟩
 have HQ:=Lib.hid hq
 clear hg hc hq
 go_enter Tryz.func5,Tryz.ntmps5
 go_upto_region 1 with fail
 try rw [hw1]
 try clear hw1
 have rN:=qak.range bN
 go_wp2_with (first
  | (refine wpList_load_mid rfl 63 (.tmp 4) rfl (w.heap.size) 0 rfl (cells33 v) _ rN Tryz.underlying63 rfl (by kernel_rfl) ?_; simp only [cells33]))
 refine (qok w1 v (NRows.on hR ja) g HG.out).mono ?_
 rintro e' v1 ⟨rfl,j2⟩
 try clear hw
 clear rN
 cases g
 case true =>
  go_wp2
  go_ret
  exact⟨rfl,(lz ja j2)⟩
 have hgs:Hid (qbi v.P=false/\qch v.fn v.fs=false/\v.dn<=1000000):=Lib.hid (by
  have:=HG.out
  unfold qfw at this
  simp only [Bool.or_eq_false_iff,decide_eq_false_iff_not] at this
  exact⟨this.1,this.2.2.2.1,by omega⟩)
 have rN:=qak.range (qaa bN j2 S1)
 go_wp2_with (first
  | (refine wpList_load_mid rfl 63 (.tmp 4) rfl (w.heap.size) 0 rfl (cells33 v) _ rN Tryz.underlying63 rfl (by kernel_rfl) ?_; simp only [cells33]))
 refine (qro v1 v (NRows.on hR (lz ja j2)) HG.out).mono ?_
 rintro e' v3 ⟨u,rfl,tn,j4,Ru⟩
 try clear hw
 clear rN
 replace tn:=Lib.hid tn
 obtain⟨un,hun,bU,jn,sn⟩:=qb7 63 v3 u
 replace hun:v3.alloc (.cells (cells33 u).toArray 63)=un:=hun
 go_upto_region 4 with (first | (refine qai rfl 63 (.tmp 9) (.tmp 23) rfl _ (cells33 u).toArray rfl rfl (by kernel_rfl) rfl (all_oneCell_toArray (qf5 u)) ?_; rw [hun]))
 try clear hun
 have hgu:=Lib.hid (show qbi u.P=false/\qch u.fn u.fs=false by
  have hF:=tn.out.2.2.2.2.2.2.2.2.2.2.2.2.2.2.2.2.2.2.2.1
  have hn:=tn.out.2.2.2.2.2.2.2.2.2.2.2.2.2.2.2.2.2.2.1
  have hP:=tn.out.2.2.2.2.2.2.2.2.1
  exact⟨(qjg hP).trans hgs.out.1,by rw [hn]; exact (qov hF).trans hgs.out.2.1⟩)
 have rN:=qak.range bU
 go_wp2_with (first
  | (refine wpList_load_mid rfl 63 (.tmp 9) rfl (v3.heap.size) 0 rfl (cells33 u) _ rN Tryz.underlying63 rfl (by kernel_rfl) ?_; simp only [cells33]))
 refine (qmw un u (NRows.on Ru jn) hgu.out.1 hgu.out.2 e c ((qhl tn.out e).trans HC.out)).mono ?_
 rintro e' v5 ⟨q1,rfl,t1,j6,Rq1⟩
 try clear hw
 clear rN
 replace t1:=Lib.hid t1
 obtain⟨u7,h10,bP1,j8,s9⟩:=alloc_p v5 q1
 replace h10:v5.alloc (.cells #[.bool q1.M.S.s,.slice q1.M.S.A q1.M.S.n q1.M.S.c,.int .i64 q1.M.S.e,.bool q1.M.W.s,.slice q1.M.W.A q1.M.W.n q1.M.W.c,.int .i64 q1.M.W.e,.bool q1.M.C.s,.slice q1.M.C.A q1.M.C.n q1.M.C.c,.int .i64 q1.M.C.e,.bool q1.M.A.s,.slice q1.M.A.A q1.M.A.n q1.M.A.c,.int .i64 q1.M.A.e,.bool q1.h,.int .i64 q1.mn,.int .i64 q1.mx,.slice q1.A q1.n q1.c] 30)=u7:=h10
 go_upto_region 5 with (first | (refine qai rfl 30 (.tmp 10) (.tmp 28) rfl _ #[.bool q1.M.S.s,.slice q1.M.S.A q1.M.S.n q1.M.S.c,.int .i64 q1.M.S.e,.bool q1.M.W.s,.slice q1.M.W.A q1.M.W.n q1.M.W.c,.int .i64 q1.M.W.e,.bool q1.M.C.s,.slice q1.M.C.A q1.M.C.n q1.M.C.c,.int .i64 q1.M.C.e,.bool q1.M.A.s,.slice q1.M.A.A q1.M.A.n q1.M.A.c,.int .i64 q1.M.A.e,.bool q1.h,.int .i64 q1.mn,.int .i64 q1.mx,.slice q1.A q1.n q1.c] rfl rfl (by kernel_rfl) rfl (all_oneCell_toArray (qal q1)) ?_; rw [h10]))
 try clear h10
 have rN:=qak.range (qaa bN (lz j2 (lz j4 (lz jn (lz j6 j8)))) S1)
 go_wp2_with (first
  | (refine wpList_load_mid rfl 63 (.tmp 4) rfl (w.heap.size) 0 rfl (cells33 v) _ rN Tryz.underlying63 rfl (by kernel_rfl) ?_; simp only [cells33]))
 refine (qi3 u7 v (NRows.on hR (lz ja (lz j2 (lz j4 (lz jn (lz j6 j8)))))) hgs.out.1 hgs.out.2.1 hgs.out.2.2 e c HC.out).mono ?_
 rintro e' v11 ⟨q2,rfl,t2,j12,Rq2⟩
 try clear hw
 clear rN
 replace t2:=Lib.hid t2
 obtain⟨u13,h16,bP2,j14,s15⟩:=alloc_p v11 q2
 replace h16:v11.alloc (.cells #[.bool q2.M.S.s,.slice q2.M.S.A q2.M.S.n q2.M.S.c,.int .i64 q2.M.S.e,.bool q2.M.W.s,.slice q2.M.W.A q2.M.W.n q2.M.W.c,.int .i64 q2.M.W.e,.bool q2.M.C.s,.slice q2.M.C.A q2.M.C.n q2.M.C.c,.int .i64 q2.M.C.e,.bool q2.M.A.s,.slice q2.M.A.A q2.M.A.n q2.M.A.c,.int .i64 q2.M.A.e,.bool q2.h,.int .i64 q2.mn,.int .i64 q2.mx,.slice q2.A q2.n q2.c] 30)=u13:=h16
 go_upto_region 6 with (first | (refine qai rfl 30 (.tmp 12) (.tmp 34) rfl _ #[.bool q2.M.S.s,.slice q2.M.S.A q2.M.S.n q2.M.S.c,.int .i64 q2.M.S.e,.bool q2.M.W.s,.slice q2.M.W.A q2.M.W.n q2.M.W.c,.int .i64 q2.M.W.e,.bool q2.M.C.s,.slice q2.M.C.A q2.M.C.n q2.M.C.c,.int .i64 q2.M.C.e,.bool q2.M.A.s,.slice q2.M.A.A q2.M.A.n q2.M.A.c,.int .i64 q2.M.A.e,.bool q2.h,.int .i64 q2.mn,.int .i64 q2.mx,.slice q2.A q2.n q2.c] rfl rfl (by kernel_rfl) rfl (all_oneCell_toArray (qal q2)) ?_; rw [h16]))
 try clear h16
 have rN:=qak.range (qaa bU (lz j6 (lz j8 (lz j12 j14))) sn)
 go_wp2_with (first
  | (refine wpList_load_mid rfl 63 (.tmp 9) rfl (v3.heap.size) 0 rfl (cells33 u) _ rN Tryz.underlying63 rfl (by kernel_rfl) ?_; simp only [cells33]))
 refine (qua u13 u (NRows.on Ru (lz jn (lz j6 (lz j8 (lz j12 j14))))) (qbs hT (lz ja (lz j2 (lz j4 (lz jn (lz j6 (lz j8 (lz j12 j14)))))))) hgu.out.1 hgu.out.2 kind e k lo hi code ((qr3 tn.out kind e k).trans HQ.out)).mono ?_
 rintro e' v17 ⟨x,y,B,rfl,ix,iy,j18,m1,m2,rx,ry⟩
 try clear hw
 clear rN
 replace ix:=Lib.hid ix
 replace iy:=Lib.hid iy
 obtain⟨u19,h22,bX,j20,s21⟩:=qes v17 x y
 go_upto_region 7 with (first | (refine qai rfl 32 (.tmp 14) (.tmp 42) rfl _ #[.bool x.s,.slice x.A x.n x.c,.int .i64 x.e,.bool y.s,.slice y.A y.n y.c,.int .i64 y.e] rfl rfl (by kernel_rfl) rfl (all_oneCell_toArray (qac x y)) ?_; rw [h22]))
 try clear h22
 have rN:=qak.range (qaa bN (lz j2 (lz j4 (lz jn (lz j6 (lz j8 (lz j12 (lz j14 (lz j18 j20)))))))) S1)
 go_wp2_with (first
  | (refine wpList_load_mid rfl 63 (.tmp 4) rfl (w.heap.size) 0 rfl (cells33 v) _ rN Tryz.underlying63 rfl (by kernel_rfl) ?_; simp only [cells33]))
 refine (qoi u19 v (NRows.on hR (lz ja (lz j2 (lz j4 (lz jn (lz j6 (lz j8 (lz j12 (lz j14 (lz j18 j20)))))))))) (qbs hT (lz ja (lz j2 (lz j4 (lz jn (lz j6 (lz j8 (lz j12 (lz j14 (lz j18 j20)))))))))) hgs.out.1 hgs.out.2.1 hgs.out.2.2 kind e k lo hi code HQ.out).mono ?_
 rintro e' v23 ⟨x2,y2,rfl,ix2,iy2,j24,rx2,ry2⟩
 try clear hw
 clear rN
 replace ix2:=Lib.hid ix2
 replace iy2:=Lib.hid iy2
 obtain⟨u25,h28,bY,j26,s27⟩:=qes v23 x2 y2
 go_upto_region 8 with (first | (refine qai rfl 32 (.tmp 16) (.tmp 50) rfl _ #[.bool x2.s,.slice x2.A x2.n x2.c,.int .i64 x2.e,.bool y2.s,.slice y2.A y2.n y2.c,.int .i64 y2.e] rfl rfl (by kernel_rfl) rfl (all_oneCell_toArray (qac x2 y2)) ?_; rw [h28]))
 try clear h28
 have RQ1:=Rq1.more (Nat.zero_le _) (Nat.le_refl _)
 have RQ2:=Rq2.more (Nat.zero_le _) (Nat.le_refl _)
 have dX:qbr v17 0 v17.heap.size x:=qae.more rx (Nat.zero_le _) m2
 have dY:qbr v17 0 v17.heap.size y:=qae.more ry (Nat.zero_le _) (Nat.le_refl _)
 have dX2:qbr v23 0 v23.heap.size x2:=qae.more rx2 (Nat.zero_le _) (Nat.le_refl _)
 have dY2:qbr v23 0 v23.heap.size y2:=qae.more ry2 (Nat.zero_le _) (Nat.le_refl _)
 have hsp:=Lib.hid (qtt (qn7 (qkq tn.out e) t1.out) t2.out)
 have hst:=Lib.hid (show qzu x y x2 y2=true by unfold qzu; rw [Is.same ix.out ix2.out,Is.same iy.out iy2.out]; rfl)
 have rA:=PBox.range (qaa bP1 (lz j12 (lz j14 (lz j18 (lz j20 (lz j24 j26))))) s9)
 have rB:=PBox.range (qaa bP2 (lz j18 (lz j20 (lz j24 j26))) s15)
 go_wp2_with (first
  | (refine wpList_load_mid rfl 30 (.tmp 10) rfl (v5.heap.size) 0 rfl [.bool q1.M.S.s,.slice q1.M.S.A q1.M.S.n q1.M.S.c,.int .i64 q1.M.S.e,.bool q1.M.W.s,.slice q1.M.W.A q1.M.W.n q1.M.W.c,.int .i64 q1.M.W.e,.bool q1.M.C.s,.slice q1.M.C.A q1.M.C.n q1.M.C.c,.int .i64 q1.M.C.e,.bool q1.M.A.s,.slice q1.M.A.A q1.M.A.n q1.M.A.c,.int .i64 q1.M.A.e,.bool q1.h,.int .i64 q1.mn,.int .i64 q1.mx,.slice q1.A q1.n q1.c] _ rA Tryz.underlying30 rfl (by kernel_rfl) ?_)
  | (refine wpList_load_mid rfl 30 (.tmp 12) rfl (v11.heap.size) 0 rfl [.bool q2.M.S.s,.slice q2.M.S.A q2.M.S.n q2.M.S.c,.int .i64 q2.M.S.e,.bool q2.M.W.s,.slice q2.M.W.A q2.M.W.n q2.M.W.c,.int .i64 q2.M.W.e,.bool q2.M.C.s,.slice q2.M.C.A q2.M.C.n q2.M.C.c,.int .i64 q2.M.C.e,.bool q2.M.A.s,.slice q2.M.A.A q2.M.A.n q2.M.A.c,.int .i64 q2.M.A.e,.bool q2.h,.int .i64 q2.mn,.int .i64 q2.mx,.slice q2.A q2.n q2.c] _ rB Tryz.underlying30 rfl (by kernel_rfl) ?_))
 refine (Ma.RSamePart_any u25 q1 q2 (PRows.on RQ1 (lz j8 (lz j12 (lz j14 (lz j18 (lz j20 (lz j24 j26))))))) (PRows.on RQ2 (lz j14 (lz j18 (lz j20 (lz j24 j26))))) true hsp.out).mono ?_
 rintro e' v29 ⟨rfl,j30⟩
 try clear hw
 clear rA rB
 have rX:=qar.range (qaa bX (lz j24 (lz j26 j30)) s21)
 have rY:=qar.range (qaa bY j30 s27)
 go_wp2_with (first
  | (refine wpList_load_midG (by rfl) 32 (.tmp 14) rfl (v17.heap.size) 0 rfl [.bool x.s,.slice x.A x.n x.c,.int .i64 x.e,.bool y.s,.slice y.A y.n y.c,.int .i64 y.e] _ rX Tryz.underlying32 rfl (by kernel_rfl) ?_)
  | (refine wpList_load_midG (by rfl) 32 (.tmp 16) rfl (v23.heap.size) 0 rfl [.bool x2.s,.slice x2.A x2.n x2.c,.int .i64 x2.e,.bool y2.s,.slice y2.A y2.n y2.c,.int .i64 y2.e] _ rY Tryz.underlying32 rfl (by kernel_rfl) ?_))
 refine (qrp v29 x y x2 y2 (qao dX (lz j20 (lz j24 (lz j26 j30)))) (qao dY (lz j20 (lz j24 (lz j26 j30)))) (qao dX2 (lz j26 j30)) (qao dY2 (lz j26 j30)) true hst.out).mono ?_
 rintro e' v31 ⟨rfl,j32⟩
 try clear hw
 clear rX rY
 go_upto_region 9 with fail
 have HM:Hid (lo.May/\hi.May):=Lib.hid (qul HQ.out)
 have lA:u13.heap.size<=v17.heap.size:=Below.size j18
 have lV:v17.heap.size<=v31.heap.size:=Below.size (lz j20 (lz j24 (lz j26 (lz j30 j32))))
 have lQ:un.heap.size<=v5.heap.size:=Below.size j6
 have lQA:v5.heap.size < u13.heap.size:=(Nat.lt_of_lt_of_le s9 (Below.size (lz j12 j14)))
 have lw:w.heap.size<=un.heap.size:=Below.size (lz ja (lz j2 (lz j4 jn)))
 have gU:v3.heap.size < un.heap.size:=sn
 have gN:w.heap.size < un.heap.size:=(Nat.lt_of_lt_of_le S1 (Below.size (lz j2 (lz j4 jn))))
 have FX:qbr v31 u13.heap.size B x:=qae.below rx (lz j20 (lz j24 (lz j26 (lz j30 j32)))) m2
 have FY:qbr v31 B v17.heap.size y:=qae.below ry (lz j20 (lz j24 (lz j26 (lz j30 j32)))) (Nat.le_refl _)
 have FQ:PRows v31 un.heap.size v5.heap.size q1:=PRows.below Rq1 (lz j8 (lz j12 (lz j14 (lz j18 (lz j20 (lz j24 (lz j26 (lz j30 j32)))))))) (Nat.le_refl _)
 have FU:NRows v31 0 un.heap.size u:=NRows.below (NRows.on Ru jn) (lz j6 (lz j8 (lz j12 (lz j14 (lz j18 (lz j20 (lz j24 (lz j26 (lz j30 j32))))))))) (Nat.le_refl _)
 have FV:NRows v31 0 un.heap.size v:=NRows.below (NRows.on hR (lz ja (lz j2 (lz j4 jn)))) (lz j6 (lz j8 (lz j12 (lz j14 (lz j18 (lz j20 (lz j24 (lz j26 (lz j30 j32))))))))) (Nat.le_refl _)
 have BX:qar v31 v17.heap.size x y:=(qaa bX (lz j24 (lz j26 (lz j30 j32))) s21)
 have BP:PBox v31 v5.heap.size q1:=(qaa bP1 (lz j12 (lz j14 (lz j18 (lz j20 (lz j24 (lz j26 (lz j30 j32))))))) s9)
 have BU:qak 63 v31 (v3.heap.size) u:=(qaa bU (lz j6 (lz j8 (lz j12 (lz j14 (lz j18 (lz j20 (lz j24 (lz j26 (lz j30 j32))))))))) sn)
 have BN:qak 63 v31 w.heap.size v:=(qaa bN (lz j2 (lz j4 (lz jn (lz j6 (lz j8 (lz j12 (lz j14 (lz j18 (lz j20 (lz j24 (lz j26 (lz j30 j32)))))))))))) S1)
 have fin:=(lz ja (lz j2 (lz j4 (lz jn (lz j6 (lz j8 (lz j12 (lz j14 (lz j18 (lz j20 (lz j24 (lz j26 (lz j30 j32)))))))))))))
 have sm:=Lib.hid (qoe t1.out (qof (NRows.on Ru jn) hgu.out.1 hgu.out.2 e))
 have hsN:=Lib.hid (qri tn.out)
 have rl:=qar.low BX
 go_wp2_with (first | (refine wpList_load_mid rfl 24 (.tmp 70) rfl (v17.heap.size) 0 rfl [.bool x.s,.slice x.A x.n x.c,.int .i64 x.e] _ rl Tryz.underlying24 rfl (by kernel_rfl) ?_))
 clear rl
 refine (qeg v31 x.s x.A x.n x.c x.e u13.heap.size B (WrR.of FX) (qqq ix.out HM.out.1 FX) (by omega) (by omega)).mono ?_
 rintro e' y1 ⟨rfl,k1,k2,_⟩
 have l4:v31.heap.size<=y1.heap.size:=k1.size
 replace FY:=qcs FY k1 k2 (by omega) (.inr (Nat.le_refl _))
 replace FQ:=qh3 FQ k1 k2 (by omega) (.inl (by omega))
 replace BX:qar y1 v17.heap.size x y:=qed BX k1 k2 (.inr (by omega))
 replace BP:PBox y1 v5.heap.size q1:=qed BP k1 k2 (.inl (by omega))
 have fin2:Below un.heap.size v31 y1:=k1.mono (by omega)
 clear k1 k2 FX
 have rl:=qar.high BX
 go_wp2_with (first | (refine wpList_load_mid rfl 24 (.tmp 73) rfl (v17.heap.size) 3 rfl [.bool y.s,.slice y.A y.n y.c,.int .i64 y.e] _ rl Tryz.underlying24 rfl (by kernel_rfl) ?_))
 clear rl
 refine (qeg y1 y.s y.A y.n y.c y.e B v17.heap.size (WrR.of FY) (qqq iy.out HM.out.2 FY) (by omega) (by omega)).mono ?_
 rintro e' y2 ⟨rfl,k1,k2,_⟩
 have l5:y1.heap.size<=y2.heap.size:=k1.size
 replace FQ:=qh3 FQ k1 k2 (by omega) (.inl (by omega))
 replace BP:PBox y2 v5.heap.size q1:=qed BP k1 k2 (.inl (by omega))
 replace fin2:Below un.heap.size v31 y2:=fin2.trans (k1.mono (by omega))
 clear k1 k2 FY BX
 have rl:=dyS BP
 go_wp2_with (first | (refine wpList_load_mid rfl 24 (.tmp 77) rfl (v5.heap.size) 0 rfl [.bool q1.M.S.s,.slice q1.M.S.A q1.M.S.n q1.M.S.c,.int .i64 q1.M.S.e] _ rl Tryz.underlying24 rfl (by kernel_rfl) ?_))
 clear rl
 refine (qeg y2 q1.M.S.s q1.M.S.A q1.M.S.n q1.M.S.c q1.M.S.e un.heap.size v5.heap.size (WrR.of (FQ.M.get 0)) (sm.out.1 0 (by decide)) (by omega) (by omega)).mono ?_
 rintro e' y3 ⟨rfl,k1,k2,k3⟩
 have l6:y2.heap.size<=y3.heap.size:=k1.size
 have WA:WrR y3 un.heap.size v5.heap.size q1.M.A.A q1.M.A.n:=(WrR.of (FQ.M.get 3)).keep k3
 have WL:WrR y3 un.heap.size v5.heap.size q1.A q1.n:=(WrR.of FQ.L).keep k3
 replace BP:PBox y3 v5.heap.size q1:=qed BP k1 k2 (.inr (Nat.le_refl _))
 replace fin2:Below un.heap.size v31 y3:=fin2.trans k1
 clear k1 k2 k3 FQ
 have rl:=dyA BP
 go_wp2_with (first | (refine wpList_load_mid rfl 24 (.tmp 81) rfl (v5.heap.size) 9 rfl [.bool q1.M.A.s,.slice q1.M.A.A q1.M.A.n q1.M.A.c,.int .i64 q1.M.A.e] _ rl Tryz.underlying24 rfl (by kernel_rfl) ?_))
 clear rl
 refine (qeg y3 q1.M.A.s q1.M.A.A q1.M.A.n q1.M.A.c q1.M.A.e un.heap.size v5.heap.size WA (sm.out.1 3 (by decide)) (by omega) (by omega)).mono ?_
 rintro e' y4 ⟨rfl,k1,k2,k3⟩
 have l7:y3.heap.size<=y4.heap.size:=k1.size
 replace WL:=WL.keep k3
 replace BP:PBox y4 v5.heap.size q1:=qed BP k1 k2 (.inr (Nat.le_refl _))
 replace fin2:Below un.heap.size v31 y4:=fin2.trans k1
 have hqn:=sm.out.2
 clear k1 k2 k3 WA
 go_wp2_with fail
 go_loopw [19] (fun iv wr=>∃ i:Nat,iv=.int .i64 i/\i<=q1.n/\PBox wr v5.heap.size q1/\Below un.heap.size v31 wr/\Hid (WrR wr un.heap.size v5.heap.size q1.A q1.n)) (fun iv _=>q1.n-(intOf iv).toNat)
 case atStart=>exact⟨0,rfl,Nat.zero_le _,BP,fin2,Lib.hid WL⟩
 clear BP fin2 WL
 obtain⟨i,rfl,hi1,BP,fin2,hc⟩:=hrel
 have L:=qsa BP
 by_cases hlt:i < q1.n
 . obtain⟨b,off,hA,hb1,hb2,hW⟩:=hc.out (by omega)
   rw [hA] at L
   obtain⟨⟨u_,h1_⟩,h2_⟩:=hW i hlt
   have hwr:IntKind.i64.wrap ((i:Int)+1)=((i+1:Nat):Int):=by rw [IntKind.wrap_i64]; omega
   clear hA
   go_wp2
   go_roundw
   case rel=>exact⟨i+1,by first | rfl | (congr 1; omega) | go_num,by omega,q0t BP (by omega) _ _,fin2.setCell hb1 _,Lib.hid fun h0=>(by obtain⟨b2,off2,hA2,hb12,hb22,hW2⟩:=hc.out h0; exact⟨b2,off2,hA2,hb12,hb22,hW2.set_ _ _⟩)⟩
   case measure=>first | (simp [intOf]; done) | (simp [intOf]; omega)
 obtain rfl:i=q1.n:=by omega
 clear hc
 have lr:v31.heap.size<=wr.heap.size:=fin2.size
 have FU2:NRows wr 0 wr.heap.size u:=(FU.below fin2 (Nat.le_refl _)).more (Nat.le_refl _) (by omega)
 have FV2:NRows wr 0 wr.heap.size v:=(FV.below fin2 (Nat.le_refl _)).more (Nat.le_refl _) (by omega)
 have rU:=qak.range (t:=63) ((fin2.block _ gU).trans BU)
 have rN:=qak.range (t:=63) ((fin2.block _ gN).trans BN)
 go_wp2_with (first
  | (refine Ma.wpList_load_midG (by rfl) 63 (.tmp 9) rfl (v3.heap.size) 0 rfl (cells33 u) _ rU Tryz.underlying63 rfl (by kernel_rfl) ?_; simp only [cells33])
  | (refine Ma.wpList_load_midG (by rfl) 63 (.tmp 4) rfl (w.heap.size) 0 rfl (cells33 v) _ rN Tryz.underlying63 rfl (by kernel_rfl) ?_; simp only [cells33]))
 refine (qh1 wr u v FU2 FV2 true hsN.out).mono ?_
 rintro e' y9 ⟨rfl,j9⟩
 clear rU rN
 go_wp2
 go_ret
 exact⟨rfl,(fin.trans (fin2.mono lw)).trans (j9.mono (by omega))⟩
end No
end Go.Proofs.YtmbppgjhdcmckaaGreatDoor
namespace Go.Proofs.YtmbppgjhdcmckaaGreatDoor
open Go.ChangeShapes Go.WideShapes Go.ChangeAt Go.RowKit Go.Joins Go.Deep
namespace Dy
end Dy
section
variable {H:Type} {enc:TypeId×Value->H} {W:World}
theorem qr7{fuel:Nat}{cs:List Value}{x:DataW H×List MemPlace}
  (h:DataW.trod enc Tryz.prog W 0 (fun _=>true) true fuel 26 cs=some x) (hfz:∀ b off,MemPlace.cell b off∈x.2->W.frozen? ⟨b,off,none⟩=false) (hlt:∀ q∈x.2,q.block < W.heap.size) :
  ∃ m:Ma.Mv,cs=[.bool m.S.s,.slice m.S.A m.S.n m.S.c,.int .i64 m.S.e,.bool m.W.s,.slice m.W.A m.W.n m.W.c,.int .i64 m.W.e,.bool m.C.s,.slice m.C.A m.C.n m.C.c,.int .i64 m.C.e,.bool m.A.s,.slice m.A.A m.A.n m.A.c,.int .i64 m.A.e] /\
   Ma.MRows W 0 W.heap.size m/\∀ x,x < 4->(m.get x).n<=(m.get x).c:=by
 obtain⟨y0,y1,y2,y3,n,hx,hl,h0,h1,h2,h3⟩:=trod_struct4 Tryz.underlying26 h
 match cs,hl.trans (show Tryz.prog.cellsOf 26=12 by kernel_rfl) with
 | [c0,c1,c2,c3,c4,c5,c6,c7,c8,c9,c10,c11],_ =>
  have hx2:x.2=y0.2++(y1.2++(y2.2++y3.2)):=by rw [hx]
  have hC3:Tryz.prog.cellsOf 24=3:=by kernel_rfl
  simp only [hC3,List.drop_zero,List.take_succ_cons,List.take_zero,List.drop_succ_cons] at h0 h1 h2 h3
  obtain⟨d0,rfl,rfl,rfl,e0,r0⟩:=ql0 Tryz.underlying24 (by kernel_rfl) Tryz.underlying4 Tryz.underlying22 Tryz.underlying48 (by kernel_rfl) Tryz.underlying3 h0 (fun b off hm=>hfz b off (by simp [hx2,hm])) (fun q hq=>hlt q (by simp [hx2,hq]))
  obtain⟨d1,rfl,rfl,rfl,e1,r1⟩:=ql0 Tryz.underlying24 (by kernel_rfl) Tryz.underlying4 Tryz.underlying22 Tryz.underlying48 (by kernel_rfl) Tryz.underlying3 h1 (fun b off hm=>hfz b off (by simp [hx2,hm])) (fun q hq=>hlt q (by simp [hx2,hq]))
  obtain⟨d2,rfl,rfl,rfl,e2,r2⟩:=ql0 Tryz.underlying24 (by kernel_rfl) Tryz.underlying4 Tryz.underlying22 Tryz.underlying48 (by kernel_rfl) Tryz.underlying3 h2 (fun b off hm=>hfz b off (by simp [hx2,hm])) (fun q hq=>hlt q (by simp [hx2,hq]))
  obtain⟨d3,rfl,rfl,rfl,e3,r3⟩:=ql0 Tryz.underlying24 (by kernel_rfl) Tryz.underlying4 Tryz.underlying22 Tryz.underlying48 (by kernel_rfl) Tryz.underlying3 h3 (fun b off hm=>hfz b off (by simp [hx2,hm])) (fun q hq=>hlt q (by simp [hx2,hq]))
  exact⟨⟨d0,d1,d2,d3⟩,rfl,⟨r0,r1,r2,r3⟩,Ma.four (p:=fun x=>(Ma.Mv.get ⟨d0,d1,d2,d3⟩ x).n<=(Ma.Mv.get ⟨d0,d1,d2,d3⟩ x).c) e0 e1 e2 e3⟩
theorem qvo{fuel:Nat}{c0 c1 c2:Value}{x:DataW H×List MemPlace}
  (h:DataW.trod enc Tryz.prog W 0 (fun _=>true) true fuel 28 [c0,c1,c2]=some x):∃ (b:Bool) (p q:Int),c0=.bool b/\c1=.int .i64 p/\c2=.int .i64 q:=by
 obtain⟨y0,y1,y2,n,hx,_,h0,h1,h2⟩:=trod_struct3 Tryz.underlying28 h
 have C1:Tryz.prog.cellsOf 4=1:=by kernel_rfl
 have C2:Tryz.prog.cellsOf 3=1:=by kernel_rfl
 simp only [C1,C2,List.drop_zero,List.take_succ_cons,List.take_zero,List.drop_succ_cons] at h0 h1 h2
 obtain⟨s,e0,_⟩:=DataW.trod_bool Tryz.underlying4 h0
 obtain⟨z,e1,_,z1⟩:=DataW.trod_int Tryz.underlying3 h1
 obtain⟨u,e2,_,z2⟩:=DataW.trod_int Tryz.underlying3 h2
 injection e0 with e0
 injection e1 with e1
 injection e2 with e2
 exact⟨s,z,u,e0,e1,e2⟩
theorem qmz{fuel:Nat}{cs:List Value}{x:DataW H×List MemPlace}
  (h:DataW.trod enc Tryz.prog W 0 (fun _=>true) true fuel 30 cs=some x) (hfz:∀ b off,MemPlace.cell b off∈x.2->W.frozen? ⟨b,off,none⟩=false) (hlt:∀ q∈x.2,q.block < W.heap.size) :
  ∃ p:Ma.Pv,cs=[.bool p.M.S.s,.slice p.M.S.A p.M.S.n p.M.S.c,.int .i64 p.M.S.e,.bool p.M.W.s,.slice p.M.W.A p.M.W.n p.M.W.c,.int .i64 p.M.W.e,.bool p.M.C.s,.slice p.M.C.A p.M.C.n p.M.C.c,.int .i64 p.M.C.e,.bool p.M.A.s,.slice p.M.A.A p.M.A.n p.M.A.c,.int .i64 p.M.A.e,.bool p.h,.int .i64 p.mn,.int .i64 p.mx,.slice p.A p.n p.c]/\Ma.PRows W 0 W.heap.size p/\∀ x,x < 4->(p.M.get x).n<=(p.M.get x).c:=by
 obtain⟨y0,y1,y2,n,hx,hl,h0,h1,h2⟩:=trod_struct3 Tryz.underlying30 h
 match cs,hl.trans (show Tryz.prog.cellsOf 30=16 by kernel_rfl) with
 | [c0,c1,c2,c3,c4,c5,c6,c7,c8,c9,c10,c11,c12,c13,c14,c15],_ =>
  have hx2:x.2=y0.2++(y1.2++y2.2):=by rw [hx]
  have C1:Tryz.prog.cellsOf 26=12:=by kernel_rfl
  have C2:Tryz.prog.cellsOf 28=3:=by kernel_rfl
  have C3:Tryz.prog.cellsOf 22=1:=by kernel_rfl
  simp only [C1,C2,C3,List.drop_zero,List.take_succ_cons,List.take_zero,List.drop_succ_cons] at h0 h1 h2
  obtain⟨m,em,rm,cm⟩:=qr7 h0 (fun b off hm=>hfz b off (by simp [hx2,hm])) (fun q hq=>hlt q (by simp [hx2,hq]))
  obtain⟨b,z,u,rfl,rfl,rfl⟩:=qvo h1
  obtain⟨A,n',c,xs,rfl,_,hI⟩:=qjb Tryz.underlying22 Tryz.underlying48 (by kernel_rfl) h2 (fun b off hm=>hfz b off (by simp [hx2,hm])) (fun q hq=>hlt q (by simp [hx2,hq]))
  simp only [List.cons.injEq,and_true] at em
  obtain⟨rfl,rfl,rfl,rfl,rfl,rfl,rfl,rfl,rfl,rfl,rfl,rfl⟩:=em
  exact⟨⟨m,b,z,u,A,n',c,xs⟩,rfl,⟨rm,hI⟩,cm⟩
end
end Go.Proofs.YtmbppgjhdcmckaaGreatDoor