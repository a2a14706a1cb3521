/- past.TwinPart: a walk (printed by a program of mine). -/
import Derived.Test.YtmbppgjhdcmckaaGreatDoorBj24
set_option maxHeartbeats 102400000
set_option maxRecDepth 100000
namespace Go.Proofs.YtmbppgjhdcmckaaGreatDoor
open Go.RowKit
namespace Ma
open Dp Dy
theorem qia(w:World)(p:Pv)(hR:PRows w 0 w.heap.size p)(hn:∀ x,x < 4->(p.M.get x).n<=1000000)(hn2:p.n<=1000000) :
  Calls Tryz.prog 48 #[.agg #[.bool p.M.S.s,.slice p.M.S.A p.M.S.n p.M.S.c,.int .i64 p.M.S.e,.bool p.M.W.s,.slice p.M.W.A p.M.W.n p.M.W.c,.int .i64 p.M.W.e,.bool p.M.C.s,.slice p.M.C.A p.M.C.n p.M.C.c,.int .i64 p.M.C.e,.bool p.M.A.s,.slice p.M.A.A p.M.A.n p.M.A.c,.int .i64 p.M.A.e,.bool p.h,.int .i64 p.mn,.int .i64 p.mx,.slice p.A p.n p.c]] w fun e w'=>∃ q:Pv,e=.returned (.agg #[.bool q.M.S.s,.slice q.M.S.A q.M.S.n q.M.S.c,.int .i64 q.M.S.e,.bool q.M.W.s,.slice q.M.W.A q.M.W.n q.M.W.c,.int .i64 q.M.W.e,.bool q.M.C.s,.slice q.M.C.A q.M.C.n q.M.C.c,.int .i64 q.M.C.e,.bool q.M.A.s,.slice q.M.A.A q.M.A.n q.M.A.c,.int .i64 q.M.A.e,.bool q.h,.int .i64 q.mn,.int .i64 q.mx,.slice q.A q.n q.c])/\qbv p q/\Below w.heap.size w w'/\PRows w' w.heap.size w'.heap.size q:=by
 generalize hw:(w.alloc (.cells #[.bool p.M.S.s,.slice p.M.S.A p.M.S.n p.M.S.c,.int .i64 p.M.S.e,.bool p.M.W.s,.slice p.M.W.A p.M.W.n p.M.W.c,.int .i64 p.M.W.e,.bool p.M.C.s,.slice p.M.C.A p.M.C.n p.M.C.c,.int .i64 p.M.C.e,.bool p.M.A.s,.slice p.M.A.A p.M.A.n p.M.A.c,.int .i64 p.M.A.e,.bool p.h,.int .i64 p.mn,.int .i64 p.mx,.slice p.A p.n p.c] 30)).alloc (.cells #[.bool false,.slice none 0 0,.int .i64 0,.bool false,.slice none 0 0,.int .i64 0,.bool false,.slice none 0 0,.int .i64 0,.bool false,.slice none 0 0,.int .i64 0,.bool false,.int .i64 0,.int .i64 0,.slice none 0 0] 30)=w1
 obtain⟨bP,bZ,j1,lo1,hi1⟩:=qdy w _ _ hw
 replace bP:PBox w1 w.heap.size p:=bP
 replace bZ:PBox w1 (w.heap.size+1) ZPv:=bZ
 replace j1:Below w.heap.size w w1:=j1
 have S1:w.heap.size < w1.heap.size:=by omega
 have S2:w.heap.size+1 < w1.heap.size:=by omega
 have NN:=Lib.hid hn
 have hbig:=hR.L.big
 have hwf:=Lib.hid hR.L.wf
 clear hn
 go_enter Tryz.func48,Tryz.ntmps48
 go_wp2_with fail
 try clear hw
 refine zB (qan w1) [7,9] 10 ?_
 have j2:Below w1.heap.size w1 w1.drew:=(Below.refl _ _).drew
 generalize w1.drew=v1 at *
 refine zM 1 [0] ?_ ?_
 have kp0:qan w1 v1:=fun p hp=>Below.block j2 p hp
 refine zD 1 (.agg #[.bool p.M.S.s,.slice p.M.S.A p.M.S.n p.M.S.c,.int .i64 p.M.S.e,.bool p.M.W.s,.slice p.M.W.A p.M.W.n p.M.W.c,.int .i64 p.M.W.e,.bool p.M.C.s,.slice p.M.C.A p.M.C.n p.M.C.c,.int .i64 p.M.C.e,.bool p.M.A.s,.slice p.M.A.A p.M.A.n p.M.A.c,.int .i64 p.M.A.e]) rfl ?y3 ?z4
 case y3 =>
  intro w' h1
  exact run_load_op 26 (.tmp 3) rfl w.heap.size 0 rfl (qcm p.M) _ (PBox.mass ((h1 _ S1).trans bP)) Tryz.underlying26 rfl (by kernel_rfl)
 try simp only [Act.put,zp]
 refine zM 1 [3] ?_ ?_
 refine zD 4 (.slice p.A p.n p.c) rfl ?y5 ?z6
 case y5 =>
  intro w' h1
  have k15:=(PBox.cell ((h1 _ S1).trans bP)).1.2.2.2.2.2.2.2.2.2.2.2.2.2.2.2
  go_simp
 try simp only [Act.put,zp]
 clear kp0
 refine zK 2 rfl fun K hK=>?_
 go_simp
 go_at_call 95
 refine (qtf v1 p.M (PRows.on hR (lz j1 j2)).M NN.out).mono ?_
 rintro e' v7 ⟨m',rfl,tm,j8,Rm⟩
 replace tm:=Lib.hid tm
 refine hK _ _ ⟨fun _ _=>fun p hp=>Below.block (lz j2 j8) p hp,?_⟩
 clear hK K
 try simp only [Act.put,zp]
 refine zM 1 [6] ?_ ?_
 refine zK 5 rfl fun K hK=>?_
 go_simp
 go_at_call 96
 refine (Pa.Clone_anyQ v7 0 w.heap.size _ _ _ _ ((hR.below (lz j1 (lz j2 j8)) (Nat.le_refl _)).L) (by have:=Below.size (lz j1 (lz j2 j8)); omega) hn2).mono ?_
 rintro e' v9 ⟨A2,c2,rfl,hc2,j10,hown⟩
 refine hK _ _ ⟨fun _ _=>fun p hp=>Below.block (lz j2 (lz j8 j10)) p hp,?_⟩
 clear hK K
 try simp only [Act.put,zp]
 have hD:=qae.of_own hown hwf.out hbig
 clear hown
 have sA:=Below.size j2
 have sB:=Below.size j8
 have sC:=Below.size j10
 have sD:=Below.size (lz j2 (lz j8 j10))
 have hP:=(qaa bP (lz j2 (lz j8 j10)) S1)
 have hZ:=(qaa bZ (lz j2 (lz j8 j10)) S2)
 have b0:=(lz j1 (lz j2 (lz j8 j10)))
 have Rm0:=Rm.below j10 (Nat.le_refl _)
 obtain⟨U,hU,hP1,hbU,hfU,lU,lU'⟩:=qna hP m'
 have th_:v9.there w.heap.size 0 12:=fun j hj=>PBox.there hP j (Nat.lt_of_lt_of_le hj (by decide))
 refine zK 7 rfl fun K hK=>?_
 refine wp_store_mid 26 (.tmp 9) (.tmp 5) rfl w.heap.size 0 #[.bool m'.S.s,.slice m'.S.A m'.S.n m'.S.c,.int .i64 m'.S.e,.bool m'.W.s,.slice m'.W.A m'.W.n m'.W.c,.int .i64 m'.W.e,.bool m'.C.s,.slice m'.C.A m'.C.n m'.C.c,.int .i64 m'.C.e,.bool m'.A.s,.slice m'.A.A m'.A.n m'.A.c,.int .i64 m'.A.e] rfl rfl th_ (by kernel_rfl) (all_oneCell_toArray (qbu m')) ?_
 rw [show v9.setCells w.heap.size 0 (#[.bool m'.S.s,.slice m'.S.A m'.S.n m'.S.c,.int .i64 m'.S.e,.bool m'.W.s,.slice m'.W.A m'.W.n m'.W.c,.int .i64 m'.W.e,.bool m'.C.s,.slice m'.C.A m'.C.n m'.C.c,.int .i64 m'.C.e,.bool m'.A.s,.slice m'.A.A m'.A.n m'.A.c,.int .i64 m'.A.e]:Array Value).toList=U from hU]
 clear hU th_
 refine hK _ _ ⟨fun h=>absurd h (by decide),?_⟩
 clear hK K
 try simp only [Act.put,zp]
 have b1:=hbU _ _ b0 (Nat.le_refl _)
 have hZ1:=(hfU _ (by omega)).trans hZ
 have Rm1:=qgg Rm0 (w':=U) (fun b h1 h2=>hfU b (by omega))
 have hD1:=qaq hD (w':=U) (fun b h1 h2=>hfU b (by omega))
 clear hP hZ b0 Rm0 hD hbU hfU
 obtain⟨M1,hM1⟩:∃ q:Pv,q={ p with M:=m' }:=⟨_,rfl⟩
 have hPM:PBox U w.heap.size M1:=by rw [hM1]; exact hP1
 have HM1:=Lib.hid hM1
 clear hM1 hP1
 refine zM 1 [8] ?_ ?_
 have k15:=(PBox.cell hPM).1.2.2.2.2.2.2.2.2.2.2.2.2.2.2.2
 have kf:=(PBox.cell hPM).2
 obtain⟨U2,hU2,hP4,hbU,hfU,l2,l2'⟩:=qm0 hPM A2 p.n c2 p.xs
 obtain⟨Q,hQe⟩:∃ q:Pv,q={ M1 with A:=A2,n:=p.n,c:=c2,xs:=p.xs }:=⟨_,rfl⟩
 have hPQ:PBox U2 w.heap.size Q:=by rw [hQe]; exact hP4
 have HQ:=Lib.hid hQe
 refine zK 9 rfl fun K hK=>?_
 go_simp
 try rw [hU2]
 clear hU2 hQe hP4 k15 kf hPM
 refine hK _ _ ⟨fun h=>absurd h (by decide),?_⟩
 clear hK K
 try simp only [Act.put,zp]
 refine qa2 (by kernel_rfl) ?_ _
 have b4:=hbU _ _ b1 (Nat.le_refl _)
 have hZ4:=(hfU _ (by omega)).trans hZ1
 have Rm4:=qgg Rm1 (w':=U2) (fun b h1 h2=>hfU b (by omega))
 have hD4:=qaq hD1 (w':=U2) (fun b h1 h2=>hfU b (by omega))
 clear b1 hZ1 Rm1 hD1 hbU hfU
 have tw:qbv p Q:=by
  rw [HQ.out,HM1.out]
  exact⟨tm.out,rfl,rfl,rfl,rfl,rfl⟩
 have RQ:PRows U2 (w.heap.size+2) U2.heap.size Q:=by
  rw [HQ.out,HM1.out]
  exact⟨Rm4.more (by omega) (by omega),hD4.more (by omega) (by omega)⟩
 clear Rm4 hD4 HM1 HQ
 obtain⟨U3,hU3,hZ5,hbU,hfU,l3,l3'⟩:=qax hZ4 Q
 have th_:=PBox.there hZ4
 have rg_:U2.rangeAt w.heap.size 0 [.bool Q.M.S.s,.slice Q.M.S.A Q.M.S.n Q.M.S.c,.int .i64 Q.M.S.e,.bool Q.M.W.s,.slice Q.M.W.A Q.M.W.n Q.M.W.c,.int .i64 Q.M.W.e,.bool Q.M.C.s,.slice Q.M.C.A Q.M.C.n Q.M.C.c,.int .i64 Q.M.C.e,.bool Q.M.A.s,.slice Q.M.A.A Q.M.A.n Q.M.A.c,.int .i64 Q.M.A.e,.bool Q.h,.int .i64 Q.mn,.int .i64 Q.mx,.slice Q.A Q.n Q.c]:=PBox.range hPQ
 replace hU3:U2.setCells (w.heap.size+1) 0 (#[.bool Q.M.S.s,.slice Q.M.S.A Q.M.S.n Q.M.S.c,.int .i64 Q.M.S.e,.bool Q.M.W.s,.slice Q.M.W.A Q.M.W.n Q.M.W.c,.int .i64 Q.M.W.e,.bool Q.M.C.s,.slice Q.M.C.A Q.M.C.n Q.M.C.c,.int .i64 Q.M.C.e,.bool Q.M.A.s,.slice Q.M.A.A Q.M.A.n Q.M.A.c,.int .i64 Q.M.A.e,.bool Q.h,.int .i64 Q.mn,.int .i64 Q.mx,.slice Q.A Q.n Q.c]:Array Value).toList=U3:=hU3
 have HU:=Lib.hid hU3
 clear hU3
 go_wp2_with (first
  | (refine wpList_load_mid rfl 30 (.tmp 1) rfl w.heap.size 0 rfl [.bool Q.M.S.s,.slice Q.M.S.A Q.M.S.n Q.M.S.c,.int .i64 Q.M.S.e,.bool Q.M.W.s,.slice Q.M.W.A Q.M.W.n Q.M.W.c,.int .i64 Q.M.W.e,.bool Q.M.C.s,.slice Q.M.C.A Q.M.C.n Q.M.C.c,.int .i64 Q.M.C.e,.bool Q.M.A.s,.slice Q.M.A.A Q.M.A.n Q.M.A.c,.int .i64 Q.M.A.e,.bool Q.h,.int .i64 Q.mn,.int .i64 Q.mx,.slice Q.A Q.n Q.c] _ rg_ Tryz.underlying30 rfl (by kernel_rfl) ?_)
  | (refine wpList_store_mid rfl 30 (.tmp 2) (.tmp 11) rfl (w.heap.size+1) 0 #[.bool Q.M.S.s,.slice Q.M.S.A Q.M.S.n Q.M.S.c,.int .i64 Q.M.S.e,.bool Q.M.W.s,.slice Q.M.W.A Q.M.W.n Q.M.W.c,.int .i64 Q.M.W.e,.bool Q.M.C.s,.slice Q.M.C.A Q.M.C.n Q.M.C.c,.int .i64 Q.M.C.e,.bool Q.M.A.s,.slice Q.M.A.A Q.M.A.n Q.M.A.c,.int .i64 Q.M.A.e,.bool Q.h,.int .i64 Q.mn,.int .i64 Q.mx,.slice Q.A Q.n Q.c] rfl rfl th_ (by kernel_rfl) (all_oneCell_toArray (qal Q)) ?_; rw [HU.out]))
 clear th_ rg_ HU
 have b5:=hbU _ _ b4 (by omega)
 have RQ5:=RQ.rng (w':=U3) (fun b h1 h2=>hfU b (by omega))
 exact bodyPost_ret (results_cell_row Tryz.results48 _ _ (w.heap.size+1) 30 #[.bool Q.M.S.s,.slice Q.M.S.A Q.M.S.n Q.M.S.c,.int .i64 Q.M.S.e,.bool Q.M.W.s,.slice Q.M.W.A Q.M.W.n Q.M.W.c,.int .i64 Q.M.W.e,.bool Q.M.C.s,.slice Q.M.C.A Q.M.C.n Q.M.C.c,.int .i64 Q.M.C.e,.bool Q.M.A.s,.slice Q.M.A.A Q.M.A.n Q.M.A.c,.int .i64 Q.M.A.e,.bool Q.h,.int .i64 Q.mn,.int .i64 Q.mx,.slice Q.A Q.n Q.c] (0,0) _ rfl hZ5 Tryz.underlying30 rfl (by kernel_rfl)) rfl ⟨Q,rfl,tw,b5,RQ5.more (by omega) (by omega)⟩
theorem GreatF_any(w:World)(A:Option Addr)(n c:Nat)(fs:List Fv)(hL:LFs w 0 w.heap.size A n fs)(k:Bool)(hk:qch n fs=k) :
  Calls Tryz.prog 52 #[.slice A n c] w fun e w'=>e=.returned (.bool k)/\Below w.heap.size w w':=by
 have HL:=Lib.hid hL.len
 have HK:=Lib.hid hk
 have hbig:=hL.big
 clear hk
 go_enter Tryz.func52,Tryz.ntmps52
 by_cases c1:40 < n/\n < 1024
 . have hk':k=true:=by rw [<-HK.out,qch,decide_eq_true c1.1,decide_eq_true c1.2]; rfl
   subst hk'
   have c2:40 < n:=c1.1
   have c3:n < 1024:=c1.2
   clear HK
   go_wp2
   go_ret
   exact⟨rfl,Below.refl _ _⟩
 by_cases c2:1028 < n
 . have hk':k=true:=by rw [<-HK.out,qch,decide_eq_true c2]; simp
   subst hk'
   have c3:40 < n:=by omega
   have c4:¬ n < 1024:=by omega
   clear HK
   go_wp2
   go_ret
   exact⟨rfl,Below.refl _ _⟩
 obtain⟨z,hz⟩:∃ z,decide (40 < n)=z:=⟨_,rfl⟩
 have h0:((decide (40 < n) && decide (n < 1024)) || decide (1028 < n))=false:=by
  rw [decide_eq_false c2]
  by_cases q:40 < n
  . rw [decide_eq_false (show ¬ n < 1024 from fun h=>c1 ⟨q,h⟩)]
    simp
  rw [decide_eq_false q]
  rfl
 have HK2:Hid ((fs.any fun f=>qbi f.P || (z && decide (4 < qqz f.P)))=k):=Lib.hid (by
  rw [<-hz]
  have:=HK.out
  unfold qch at this
  rw [h0,Bool.false_or] at this
  exact this)
 have HZ:=Lib.hid hz
 clear HK h0 hz
 cases z
 . have c3:¬ 40 < n:=of_decide_eq_false HZ.out
   clear c1
   go_wp2
   go_loopw [2,3] (fun ev iv wr=>∃ i:Nat,iv=.int .i64 i/\ev=.bool false/\i<=n/\Below w.heap.size w wr/\Hid (∀ j (h:j < fs.length),j < i->(qbi fs[j].P || (false && decide (4 < qqz fs[j].P)))=false)) (fun _ iv _=>n-(intOf iv).toNat)
   case atStart=>exact⟨0,rfl,rfl,Nat.zero_le _,Below.refl _ _,Lib.hid fun _ _ h=>absurd h (Nat.not_lt_zero _)⟩
   obtain⟨i,rfl,rfl,hi1,hb,hno⟩:=hrel
   by_cases hi:i < n
   rotate_left
   . have hk':k=false:=by
       rw [<-HK2.out]
       exact qq3 fun j hj=>hno.out j hj (by have:=HL.out; omega)
     subst hk'
     go_wp2
     go_ret
     exact⟨rfl,hb⟩
   have hi2:i < fs.length:=by rw [HL.out]; exact hi
   obtain⟨b,off,hA,hb1,hb2,hc⟩:=(hL.below hb (Nat.le_refl _)).row (by omega)
   have hci:=Lib.hid (hc i hi2)
   have hri:=(hL.below hb (Nat.le_refl _)).rows i hi2
   obtain⟨f,hf⟩:∃ f,fs[i]=f:=⟨_,rfl⟩
   rw [hf] at hci hri
   have HF:=Lib.hid hf
   have hwrj:IntKind.i64.wrap ((i:Int)+1)=((i+1:Nat):Int):=by rw [IntKind.wrap_i64]; omega
   clear hc hf
   subst hA
   have lw:=hb.size
   obtain⟨g,hg⟩:∃ g,qbi f.P=g:=⟨_,rfl⟩
   have HG:=Lib.hid hg
   clear hg
   go_wp2_with fail
   refine zB (qan wr) [] 61 ?_
   have kp0:qan wr wr.drew:=fun _ _=>rfl
   have b0:Below wr.heap.size wr wr.drew:=(Below.refl _ _).drew
   have hbw:b < wr.heap.size:=by omega
   generalize wr.drew=v0 at *
   refine zM 4 [0,1,2,3] ?_ ?_
   refine zD 4 (.agg #[.bool f.P.M.S.s,.slice f.P.M.S.A f.P.M.S.n f.P.M.S.c,.int .i64 f.P.M.S.e,.bool f.P.M.W.s,.slice f.P.M.W.A f.P.M.W.n f.P.M.W.c,.int .i64 f.P.M.W.e,.bool f.P.M.C.s,.slice f.P.M.C.A f.P.M.C.n f.P.M.C.c,.int .i64 f.P.M.C.e,.bool f.P.M.A.s,.slice f.P.M.A.A f.P.M.A.n f.P.M.A.c,.int .i64 f.P.M.A.e,.bool f.P.h,.int .i64 f.P.mn,.int .i64 f.P.mx,.slice f.P.A f.P.n f.P.c]) rfl ?y4_false ?z4_false
   case y4_false =>
    intro w' h1
    exact run_load_op 30 (.tmp 26) rfl b (off+i*17+1) rfl (qbk f.P) _ (hci.out.blk (h1 _ hbw)).part Tryz.underlying30 rfl (by kernel_rfl)
   try simp only [Act.put,zp]
   refine zK 5 rfl fun K hK=>?_
   go_simp
   go_at_call 7
   refine (GreatPart_any v0 f.P ((hri.more (Nat.le_refl _) lw).on b0) g HG.out).mono ?_
   rintro e' v1 ⟨rfl,j1⟩
   have b1:=lz b0 j1
   have kp1:qan wr v1:=fun p hp=>b1.block p hp
   have hb5:=hb.trans (b1.mono lw)
   refine hK _ _ ⟨fun _ _=>kp1,?_⟩
   clear hK K kp0
   try simp only [Act.put,zp]
   refine zM 1 [6] ?_ ?_
   cases g
   rotate_left
   . have hk':k=true:=by
      rw [<-HK2.out]
      exact qq4 hi2 (by rw [HF.out,HG.out]; rfl)
     subst hk'
     refine zS 53 [7,8,9,10,11,12,13,14,15,16,17,18,19,20,21,22,23,24,25,26,27,28,29,30,31,32,33,34,35,36,37,38,39,40,41,42,43,44,45,46,47,48,49,50,51,52,53,54,55,56,57,58,59] ?_ ?_
     refine zM 1 [60] ?_ ?_
     refine qa2 (by kernel_rfl) ?_ _
     go_wp2
     go_ret
     exact⟨rfl,hb5⟩
   skip
   have c3b:decide ((40:Int) < (n:Int))=false:=by have:=c3; simp; omega
   refine zM 4 [7,8,9,10] ?_ ?_
   clear c3b
   refine zS 48 [11,12,13,14,15,16,17,18,19,20,21,22,23,24,25,26,27,28,29,30,31,32,33,34,35,36,37,38,39,40,41,42,43,44,45,46,47,48,49,50,51,52,53,54,55,56,57,58] ?_ ?_
   refine zM 2 [59,60] ?_ ?_
   have hno2:Hid (∀ j (h:j < fs.length),j < i+1->(qbi fs[j].P || (false && decide (4 < qqz fs[j].P)))=false):=Lib.hid fun j hj h=>by
    by_cases e:j=i
    . subst e
      rw [HF.out,HG.out]
      rfl
    exact hno.out j hj (by omega)
   refine qa2 (by kernel_rfl) ?_ _
   go_wp2
   go_roundw
   case rel=>exact⟨i+1,by first | rfl | (congr 1; omega) | go_num,rfl,by omega,hb5,hno2⟩
   case measure=>first | (simp [intOf]; done) | (simp [intOf]; omega)
 skip
 have c3:40 < n:=of_decide_eq_true HZ.out
 have c4:¬ n < 1024:=fun h=>c1 ⟨c3,h⟩
 clear c1
 go_wp2
 go_loopw [2,3] (fun ev iv wr=>∃ i:Nat,iv=.int .i64 i/\ev=.bool false/\i<=n/\Below w.heap.size w wr/\Hid (∀ j (h:j < fs.length),j < i->(qbi fs[j].P || (true && decide (4 < qqz fs[j].P)))=false)) (fun _ iv _=>n-(intOf iv).toNat)
 case atStart=>exact⟨0,rfl,rfl,Nat.zero_le _,Below.refl _ _,Lib.hid fun _ _ h=>absurd h (Nat.not_lt_zero _)⟩
 obtain⟨i,rfl,rfl,hi1,hb,hno⟩:=hrel
 by_cases hi:i < n
 rotate_left
 . have hk':k=false:=by
     rw [<-HK2.out]
     exact qq3 fun j hj=>hno.out j hj (by have:=HL.out; omega)
   subst hk'
   go_wp2
   go_ret
   exact⟨rfl,hb⟩
 have hi2:i < fs.length:=by rw [HL.out]; exact hi
 obtain⟨b,off,hA,hb1,hb2,hc⟩:=(hL.below hb (Nat.le_refl _)).row (by omega)
 have hci:=Lib.hid (hc i hi2)
 have hri:=(hL.below hb (Nat.le_refl _)).rows i hi2
 obtain⟨f,hf⟩:∃ f,fs[i]=f:=⟨_,rfl⟩
 rw [hf] at hci hri
 have HF:=Lib.hid hf
 have hwrj:IntKind.i64.wrap ((i:Int)+1)=((i+1:Nat):Int):=by rw [IntKind.wrap_i64]; omega
 clear hc hf
 subst hA
 have lw:=hb.size
 obtain⟨g,hg⟩:∃ g,qbi f.P=g:=⟨_,rfl⟩
 have HG:=Lib.hid hg
 clear hg
 go_wp2_with fail
 refine zB (qan wr) [] 61 ?_
 have kp0:qan wr wr.drew:=fun _ _=>rfl
 have b0:Below wr.heap.size wr wr.drew:=(Below.refl _ _).drew
 have hbw:b < wr.heap.size:=by omega
 generalize wr.drew=v0 at *
 refine zM 4 [0,1,2,3] ?_ ?_
 refine zD 4 (.agg #[.bool f.P.M.S.s,.slice f.P.M.S.A f.P.M.S.n f.P.M.S.c,.int .i64 f.P.M.S.e,.bool f.P.M.W.s,.slice f.P.M.W.A f.P.M.W.n f.P.M.W.c,.int .i64 f.P.M.W.e,.bool f.P.M.C.s,.slice f.P.M.C.A f.P.M.C.n f.P.M.C.c,.int .i64 f.P.M.C.e,.bool f.P.M.A.s,.slice f.P.M.A.A f.P.M.A.n f.P.M.A.c,.int .i64 f.P.M.A.e,.bool f.P.h,.int .i64 f.P.mn,.int .i64 f.P.mx,.slice f.P.A f.P.n f.P.c]) rfl ?y4_true ?z4_true
 case y4_true =>
  intro w' h1
  exact run_load_op 30 (.tmp 26) rfl b (off+i*17+1) rfl (qbk f.P) _ (hci.out.blk (h1 _ hbw)).part Tryz.underlying30 rfl (by kernel_rfl)
 try simp only [Act.put,zp]
 refine zK 5 rfl fun K hK=>?_
 go_simp
 go_at_call 7
 refine (GreatPart_any v0 f.P ((hri.more (Nat.le_refl _) lw).on b0) g HG.out).mono ?_
 rintro e' v1 ⟨rfl,j1⟩
 have b1:=lz b0 j1
 have kp1:qan wr v1:=fun p hp=>b1.block p hp
 have hb5:=hb.trans (b1.mono lw)
 refine hK _ _ ⟨fun _ _=>kp1,?_⟩
 clear hK K kp0
 try simp only [Act.put,zp]
 refine zM 1 [6] ?_ ?_
 cases g
 rotate_left
 . have hk':k=true:=by
    rw [<-HK2.out]
    exact qq4 hi2 (by rw [HF.out,HG.out]; rfl)
   subst hk'
   refine zS 53 [7,8,9,10,11,12,13,14,15,16,17,18,19,20,21,22,23,24,25,26,27,28,29,30,31,32,33,34,35,36,37,38,39,40,41,42,43,44,45,46,47,48,49,50,51,52,53,54,55,56,57,58,59] ?_ ?_
   refine zM 1 [60] ?_ ?_
   refine qa2 (by kernel_rfl) ?_ _
   go_wp2
   go_ret
   exact⟨rfl,hb5⟩
 skip
 have c3b:decide ((40:Int) < (n:Int))=true:=by have:=c3; simp; omega
 refine zM 4 [7,8,9,10] ?_ ?_
 clear c3b
 have HB:Hid (f.P.M.S.n<=42/\f.P.M.W.n<=42/\f.P.M.C.n<=42/\f.P.M.A.n<=42/\f.P.n<=70):=Lib.hid (by
  have h9:=HG.out
  unfold qbi at h9
  rw [Bool.or_eq_false_iff] at h9
  have h8:=qnf h9.1
  have l0:f.P.M.S.xs.length=f.P.M.S.n:=(hri.M.get 0).len
  have l1:f.P.M.W.xs.length=f.P.M.W.n:=(hri.M.get 1).len
  have l2:f.P.M.C.xs.length=f.P.M.C.n:=(hri.M.get 2).len
  have l3:f.P.M.A.xs.length=f.P.M.A.n:=(hri.M.get 3).len
  have g0:f.P.M.S.xs.length<=42:=(h8 0 (by decide)).1
  have g1:f.P.M.W.xs.length<=42:=(h8 1 (by decide)).1
  have g2:f.P.M.C.xs.length<=42:=(h8 2 (by decide)).1
  have g3:f.P.M.A.xs.length<=42:=(h8 3 (by decide)).1
  have h7:=of_decide_eq_false h9.2
  exact⟨by omega,by omega,by omega,by omega,by omega⟩)
 have w1:IntKind.i64.wrap ((f.P.M.S.n:Int)+f.P.M.W.n)=(f.P.M.S.n:Int)+f.P.M.W.n:=by rw [IntKind.wrap_i64]; have:=HB.out; omega
 have w2:IntKind.i64.wrap ((f.P.M.S.n:Int)+f.P.M.W.n+f.P.M.C.n)=(f.P.M.S.n:Int)+f.P.M.W.n+f.P.M.C.n:=by rw [IntKind.wrap_i64]; have:=HB.out; omega
 have w3:IntKind.i64.wrap ((f.P.M.S.n:Int)+f.P.M.W.n+f.P.M.C.n+f.P.M.A.n)=(f.P.M.S.n:Int)+f.P.M.W.n+f.P.M.C.n+f.P.M.A.n:=by rw [IntKind.wrap_i64]; have:=HB.out; omega
 refine zM 7 [11,12,13,14,15,16,17] ?_ ?_
 refine zD 18 (.slice f.P.M.S.A f.P.M.S.n f.P.M.S.c) rfl ?y18_true ?z18_true
 case y18_true =>
  intro w' h1
  have e_:w'.cell? ⟨b,off+i*17+1+1,none⟩=some (.slice f.P.M.S.A f.P.M.S.n f.P.M.S.c):=by
   obtain⟨k_,k0,k1,k2,k3,k4,k5,k6,k7,k8,k9,k10,k11,k12,k13,k14,k15⟩:=hci.out.blk (h1 _ hbw)
   exact k1
  go_simp
 try simp only [Act.put,zp]
 refine zM 8 [19,20,21,22,23,24,25,26] ?_ ?_
 refine zD 27 (.slice f.P.M.W.A f.P.M.W.n f.P.M.W.c) rfl ?y27_true ?z27_true
 case y27_true =>
  intro w' h1
  have e_:w'.cell? ⟨b,off+i*17+1+3+1,none⟩=some (.slice f.P.M.W.A f.P.M.W.n f.P.M.W.c):=by
   obtain⟨k_,k0,k1,k2,k3,k4,k5,k6,k7,k8,k9,k10,k11,k12,k13,k14,k15⟩:=hci.out.blk (h1 _ hbw)
   exact k4
  go_simp
 try simp only [Act.put,zp]
 refine zM 9 [28,29,30,31,32,33,34,35,36] ?_ ?_
 refine zD 37 (.slice f.P.M.C.A f.P.M.C.n f.P.M.C.c) rfl ?y37_true ?z37_true
 case y37_true =>
  intro w' h1
  have e_:w'.cell? ⟨b,off+i*17+1+6+1,none⟩=some (.slice f.P.M.C.A f.P.M.C.n f.P.M.C.c):=by
   obtain⟨k_,k0,k1,k2,k3,k4,k5,k6,k7,k8,k9,k10,k11,k12,k13,k14,k15⟩:=hci.out.blk (h1 _ hbw)
   exact k7
  go_simp
 try simp only [Act.put,zp]
 refine zM 9 [38,39,40,41,42,43,44,45,46] ?_ ?_
 refine zD 47 (.slice f.P.M.A.A f.P.M.A.n f.P.M.A.c) rfl ?y47_true ?z47_true
 case y47_true =>
  intro w' h1
  have e_:w'.cell? ⟨b,off+i*17+1+9+1,none⟩=some (.slice f.P.M.A.A f.P.M.A.n f.P.M.A.c):=by
   obtain⟨k_,k0,k1,k2,k3,k4,k5,k6,k7,k8,k9,k10,k11,k12,k13,k14,k15⟩:=hci.out.blk (h1 _ hbw)
   exact k10
  go_simp
 try simp only [Act.put,zp]
 refine zM 2 [48,49] ?_ ?_
 clear w1 w2 w3
 refine zM 5 [50,51,52,53,54] ?_ ?_
 refine zD 55 (.slice f.P.A f.P.n f.P.c) rfl ?y55_true ?z55_true
 case y55_true =>
  intro w' h1
  have e_:w'.cell? ⟨b,off+i*17+1+15,none⟩=some (.slice f.P.A f.P.n f.P.c):=by
   obtain⟨k_,k0,k1,k2,k3,k4,k5,k6,k7,k8,k9,k10,k11,k12,k13,k14,k15⟩:=hci.out.blk (h1 _ hbw)
   exact k15
  go_simp
 try simp only [Act.put,zp]
 have w4:IntKind.i64.wrap ((f.P.M.S.n:Int)+f.P.M.W.n+f.P.M.C.n+f.P.M.A.n+f.P.n)=qqz f.P:=by rw [IntKind.wrap_i64]; have:=HB.out; unfold qqz; omega
 refine zM 2 [56,57] ?_ ?_
 clear w4
 by_cases hs:4 < qqz f.P
 . have hk':k=true:=by
     rw [<-HK2.out]
     exact qq4 hi2 (by rw [HF.out,HG.out,decide_eq_true hs]; rfl)
   subst hk'
   have hsb:decide ((4:Int) < qqz f.P)=true:=decide_eq_true hs
   refine zM 3 [58,59,60] ?_ ?_
   clear hsb
   refine qa2 (by kernel_rfl) ?_ _
   go_wp2
   go_ret
   exact⟨rfl,hb5⟩
 have hsb:decide ((4:Int) < qqz f.P)=false:=decide_eq_false hs
 refine zM 3 [58,59,60] ?_ ?_
 clear hsb
 have hno2:Hid (∀ j (h:j < fs.length),j < i+1->(qbi fs[j].P || (true && decide (4 < qqz fs[j].P)))=false):=Lib.hid fun j hj h=>by
  by_cases e:j=i
  . subst e
    rw [HF.out,HG.out]
    rw [decide_eq_false hs]; rfl
  exact hno.out j hj (by omega)
 refine qa2 (by kernel_rfl) ?_ _
 go_wp2
 go_roundw
 case rel=>exact⟨i+1,by first | rfl | (congr 1; omega) | go_num,rfl,by omega,hb5,hno2⟩
 case measure=>first | (simp [intOf]; done) | (simp [intOf]; omega)
def q1n(p:Pv)(k:Nat):Prop:=(∀ x,x < 4->∀ a,(p.M.get x).A=some a->0 < (p.M.get x).n->a.block≠k)/\∀ a,p.A=some a->0 < p.n->a.block≠k
theorem qkt{n:Nat}{fs:List Fv}(h:qch n fs=false):n<=1028/\(40 < n->1024<=n)/\∀ j (h:j < fs.length),qbi fs[j].P=false:=by
 unfold qch at h
 rw [Bool.or_eq_false_iff,Bool.or_eq_false_iff,Bool.and_eq_false_iff] at h
 obtain⟨⟨h1,h2⟩,h3⟩:=h
 simp only [decide_eq_false_iff_not] at h1 h2
 refine⟨by omega,fun h=>by omega,fun j hj=>?_⟩
 have:=List.any_eq_false.1 h3 _ (List.getElem_mem hj)
 cases e:qbi fs[j].P
 . rfl
 rw [e] at this
 simp at this
theorem qsh{p:Pv}(h:qbi p=false):qh6 p.M=false/\p.n<=70:=by
 unfold qbi at h
 rw [Bool.or_eq_false_iff] at h
 exact⟨h.1,by have:=h.2; simp at this; omega⟩
theorem qd4{w:World}{lo hi:Nat}{p:Pv}(hR:PRows w lo hi p)(h:qbi p=false):(∀ x,x < 4->(p.M.get x).n<=1000000)/\p.n<=1000000:=by
 obtain⟨h1,h2⟩:=qsh h
 refine⟨fun x hx=>?_,by omega⟩
 have k1:=(qnf h1 x hx).1
 have k2:=(hR.M.get x).len
 omega
theorem qfe{w:World}{lo hi n:Nat}{A:Option Addr}{fs:List Fv}(hL:LFs w lo hi A n fs)(h:qch n fs=false):∀ j (h:j < fs.length),(∀ x,x < 4->(fs[j].P.M.get x).n<=1000000)/\fs[j].P.n<=1000000:=fun j hj =>
 qd4 (hL.rows j hj) ((qkt h).2.2 j hj)
theorem qrf{a u b:Mv}(h:∀ x,x < 4->qet (a.get x) (u.get x)):qfp u b=qfp a b:=by
 have k:∀ x,x < 4->∀ d,qdd (u.get x) d=qdd (a.get x) d:=fun x hx d=>by
  unfold qdd
  rw [(h x hx).1,(h x hx).2.2.1,(h x hx).2.2.2.1]
 have k0:=k 0 (by decide) b.S
 have k1:=k 1 (by decide) b.W
 have k2:=k 2 (by decide) b.C
 have k3:=k 3 (by decide) b.A
 simp only [Mv.get] at k0 k1 k2 k3
 unfold qfp
 rw [k0,k1,k2,k3]
theorem qfd{p q r:Pv}(h:qbv p q):qbf q r=qbf p r:=by
 unfold qbf qhe
 rw [qrf h.1,h.2.1,h.2.2.1,h.2.2.2.1,h.2.2.2.2.2]
theorem qrh{p q:Pv}(h:qbv p q):qbf q p=true:=by
 unfold qbf qhe
 rw [qmm h.1,h.2.1,h.2.2.1,h.2.2.2.1,h.2.2.2.2.2,Pa.Sm_refl]
 simp
theorem qn7{p q r:Pv}(h:qbv p q)(k:qbv q r):qbv p r:=by
 obtain⟨h0,h1,h2,h3,h4,h5⟩:=h
 obtain⟨k0,k1,k2,k3,k4,k5⟩:=k
 exact⟨fun x hx=>by
  obtain⟨a1,a2,a3,a4,_⟩:=h0 x hx
  obtain⟨b1,b2,b3,b4,b5⟩:=k0 x hx
  exact⟨b1.trans a1,b2.trans a2,b3.trans a3,b4.trans a4,b5⟩,k1.trans h1,k2.trans h2,k3.trans h3,k4.trans h4,k5.trans h5⟩
theorem qrj{fs gs:List Fv}(h:qe8 fs gs):qcp gs fs=true:=qi1 h.1 fun j h1 h2=>⟨(h.2 j h2 h1).1,qrh (h.2 j h2 h1).2⟩
theorem qp7:∀ {fs gs hs:List Fv},qe8 fs gs->qcp gs hs=qcp fs hs
 | [],[],_,_=>rfl
 | [],_::_,_,h=>absurd h.1 (by simp)
 | _::_,[],_,h=>absurd h.1 (by simp)
 | f::fs,g::gs,[],_=>by simp [qcp]
 | f::fs,g::gs,x::hs,h=>by
  have ht:qe8 fs gs:=⟨by have:=h.1; simpa using this,fun j h1 h2=>by
   have:=h.2 (j+1) (by simpa using h1) (by simpa using h2)
   simpa using this⟩
  have ih:=qp7 (hs:=hs) ht
  have h0:=h.2 0 (by simp) (by simp)
  simp only [List.getElem_cons_zero] at h0
  have e:qcp (g::gs) (x::hs)=(decide (g.e=x.e) && qbf g.P x.P && qcp gs hs):=by
   simp only [qcp,List.length_cons,List.zip_cons_cons,List.all_cons,Nat.add_right_cancel_iff]
   cases decide (gs.length=hs.length)<;>simp
  have e':qcp (f::fs) (x::hs)=(decide (f.e=x.e) && qbf f.P x.P && qcp fs hs):=by
   simp only [qcp,List.length_cons,List.zip_cons_cons,List.all_cons,Nat.add_right_cancel_iff]
   cases decide (fs.length=hs.length)<;>simp
  rw [e,e',ih,h0.1,qfd h0.2]
theorem qad{w w':World}{lo hi g n:Nat}{A:Option Addr}{k:IntKind}{xs:List Int}(h:qae w lo hi k A n xs)(ho:∀ a,A=some a->0 < n->a.block≠g)(hf:∀ j,j≠g->w'.heap[j]? = w.heap[j]?):qae w' lo hi k A n xs:=by
 refine⟨h.len,h.wf,h.big,fun h0=>?_⟩
 obtain⟨b,off,e,h1,h2,hc⟩:=h.row h0
 have hb:=hf b (ho _ e h0)
 exact⟨b,off,e,h1,h2,fun j hj=>⟨(World.cell?_of_block hb).trans (hc j hj).1,(World.frozen?_of_block hb).trans (hc j hj).2⟩⟩
theorem qbp{w w':World}{lo hi g:Nat}{p:Pv}(h:PRows w lo hi p)(ho:q1n p g)(hf:∀ j,j≠g->w'.heap[j]? = w.heap[j]?):PRows w' lo hi p :=
 ⟨⟨qad h.M.S (ho.1 0 (by decide)) hf,qad h.M.W (ho.1 1 (by decide)) hf,qad h.M.C (ho.1 2 (by decide)) hf,qad h.M.A (ho.1 3 (by decide)) hf⟩,qad h.L ho.2 hf⟩
theorem qnd{w:World}{lo hi g n:Nat}{A:Option Addr}{k:IntKind}{xs:List Int}(h:qae w lo hi k A n xs)(hg:g < lo∨hi<=g):∀ a,A=some a->0 < n->a.block≠g:=fun a e h0 hk=>by
 obtain⟨b,off,e',h1,h2,_⟩:=h.row h0
 rw [e'] at e
 injection e with e
 subst e
 simp only at hk
 omega
theorem qcj{w:World}{lo hi g:Nat}{p:Pv}(h:PRows w lo hi p)(hg:g < lo∨hi<=g):q1n p g:=⟨fun x _=>qnd (h.M.get x) hg,qnd h.L hg⟩
theorem qu9{w w':World}{g:Nat}(hb:∀ w0 B,Below B w0 w->B<=g->Below B w0 w')(hf:∀ j,j≠g->w'.heap[j]? = w.heap[j]?)(hs:w.heap.size<=w'.heap.size):w.grownBy w' (some g) :=
 have k:=hb w 0 (Below.refl 0 w) (Nat.zero_le _)
 ⟨k.os,k.tape,k.output,hs,fun j _ hj=>hf j fun e=>hj (by rw [e])⟩
theorem qk5.far{w w':World}{base g n:Nat}{v:Value}{fs:List Fv}(h:qk5 w base v n fs)(hb:∀ w0 B,Below B w0 w->B<=g->Below B w0 w')(hf:∀ j,j≠g->w'.heap[j]? = w.heap[j]?)(hs:w.heap.size<=w'.heap.size)
  (hv:v.ownBlock≠some g) (ho:∀ f∈fs,q1n f.P g):qk5 w' base v n fs :=
 ⟨h.own.kept (qu9 hb hf hs) (.inr hv),h.len,fun f hf'=>(qbp (h.rows f hf') (ho f hf') hf).more (Nat.le_refl _) hs,h.off⟩
def qmg(k:Int)(fs:List Fv)(z:Int):Pv:=if k=0 then (match fs[qa9 fs z]? with
 | some f=>f.P
 | none=>ZPv) else ZPv
def ofF:List Fv->Int->Option Pv
 | [],_=>none
 | f::l,z=>if f.e=z then some f.P else ofF l z
theorem qhc:qbv ZPv ZPv:=⟨four (p:=fun x=>qet (ZPv.M.get x) (ZPv.M.get x)) ⟨rfl,rfl,rfl,rfl,Nat.le_refl _⟩ ⟨rfl,rfl,rfl,rfl,Nat.le_refl _⟩ ⟨rfl,rfl,rfl,rfl,Nat.le_refl _⟩ ⟨rfl,rfl,rfl,rfl,Nat.le_refl _⟩,rfl,rfl,rfl,rfl,rfl⟩
theorem qie(w:World)(lo hi:Nat):PRows w lo hi ZPv:=⟨⟨qae.nil_ ..,qae.nil_ ..,qae.nil_ ..,qae.nil_ ..⟩,qae.nil_ ..⟩
theorem qow{k:Int}(h:k≠0)(fs:List Fv)(z:Int):qbv (qmg k fs z) ZPv:=by
 unfold qmg
 rw [if_neg h]
 exact qhc
theorem qx3{fs:List Fv}{z:Int}{i:Nat}(hi:qa9 fs z=i)(h:i < fs.length){q:Pv}(hq:qbv fs[i].P q):qbv (qmg 0 fs z) q:=by
 unfold qmg
 rw [if_pos rfl,hi,List.getElem?_eq_getElem h]
 exact hq
theorem qqh:∀ {fs:List Fv} {a z:Int},qey a fs=true->z<=a->ofF fs z=none
 | [],_,_,_,_=>rfl
 | f::l,a,z,hm,hz=>by
  simp only [qey,Bool.and_eq_true,decide_eq_true_eq] at hm
  obtain⟨⟨h1,_⟩,_,h4⟩:=hm
  unfold ofF
  rw [if_neg (by omega)]
  exact qqh h4 (by omega)
theorem qza:∀ {fs:List Fv} {a z:Int},qey a fs=true->ofF fs z=(match fs[qa9 fs z]? with
  | some f=>if f.e=z then some f.P else none
  | none=>none)
 | [],_,_,_=>rfl
 | f::l,a,z,hm=>by
  have hm':=hm
  simp only [qey,Bool.and_eq_true,decide_eq_true_eq] at hm
  obtain⟨_,_,h4⟩:=hm
  by_cases hlt:f.e < z
  . have e:qa9 (f::l) z=qa9 l z+1:=by
      show (if f.e < z then qa9 l z+1 else 0)=_
      rw [if_pos hlt]
    rw [e,List.getElem?_cons_succ]
    show (if f.e=z then some f.P else ofF l z)=_
    rw [if_neg (by omega)]
    exact qza h4
  have e:qa9 (f::l) z=0:=by
   show (if f.e < z then qa9 l z+1 else 0)=_
   rw [if_neg hlt]
  rw [e,List.getElem?_cons_zero]
  show (if f.e=z then some f.P else ofF l z)=if f.e=z then some f.P else none
  by_cases he:f.e=z
  . rw [if_pos he,if_pos he]
  rw [if_neg he,if_neg he]
  exact qqh h4 (by omega)
theorem qvd{n:Nat}{fs:List Fv}{z:Int}(h:qmh n fs z=0):qn4 n fs z=(if (ofF fs z).isSome then 0 else 6)/\qmg (qn4 n fs z) fs z=(ofF fs z).getD ZPv:=by
 have hm:=(qv9 h).2.1
 rw [qza hm]
 unfold qn4 qmg
 rw [if_neg (by rw [h]; simp)]
 cases hx:fs[qa9 fs z]? with
 | none=>simp
 | some f =>
  by_cases he:f.e=z
  . simp [he]
  simp [he]
theorem qoa{p q:Pv}(h:qbv p q):qd6 q=qd6 p:=by
 unfold qd6
 rw [qwy h.1,h.2.1,h.2.2.1,h.2.2.2.1,h.2.2.2.2.2]
theorem qm8:∀ {fs gs:List Fv} {a:Int},qe8 fs gs->qey a gs=qey a fs
 | [],[],_,_=>rfl
 | [],_::_,_,h=>absurd h.1 (by simp)
 | _::_,[],_,h=>absurd h.1 (by simp)
 | f::fs,g::gs,a,h=>by
  have ht:qe8 fs gs:=⟨by have:=h.1; simpa using this,fun j h1 h2=>by
   have:=h.2 (j+1) (by simpa using h1) (by simpa using h2)
   simpa using this⟩
  have h0:=h.2 0 (by simp) (by simp)
  simp only [List.getElem_cons_zero] at h0
  simp only [qey]
  rw [h0.1,qoa h0.2,qm8 ht]
theorem qf7:∀ {fs gs:List Fv} {z:Int},qe8 fs gs->qa9 gs z=qa9 fs z
 | [],[],_,_=>rfl
 | [],_::_,_,h=>absurd h.1 (by simp)
 | _::_,[],_,h=>absurd h.1 (by simp)
 | f::fs,g::gs,z,h=>by
  have ht:qe8 fs gs:=⟨by have:=h.1; simpa using this,fun j h1 h2=>by
   have:=h.2 (j+1) (by simpa using h1) (by simpa using h2)
   simpa using this⟩
  have h0:=h.2 0 (by simp) (by simp)
  simp only [List.getElem_cons_zero] at h0
  simp only [qa9]
  rw [h0.1,qf7 ht]
theorem qjp{n:Nat}{fs gs:List Fv}(h:qe8 fs gs):qbo n gs=qbo n fs:=by
 unfold qbo
 rw [qm8 h]
theorem qwa{n:Nat}{fs gs:List Fv}{z:Int}(h:qe8 fs gs):qmh n gs z=qmh n fs z:=by
 unfold qmh
 rw [qjp h]
theorem qvc{n:Nat}{fs gs:List Fv}{z:Int}(h:qe8 fs gs):qn4 n gs z=qn4 n fs z:=by
 unfold qn4
 rw [qwa h,qf7 h]
 by_cases hl:qa9 fs z < fs.length
 . have hg:qa9 fs z < gs.length:=by rw [h.1]; exact hl
   rw [List.getElem?_eq_getElem hl,List.getElem?_eq_getElem hg]
   simp only
   rw [(h.2 _ hl hg).1]
 have hl':=h.1
 rw [List.getElem?_eq_none (show gs.length<=qa9 fs z by omega),List.getElem?_eq_none (show fs.length<=qa9 fs z by omega)]
theorem qva{k z:Int}{fs gs:List Fv}(h:qe8 fs gs):qbv (qmg k fs z) (qmg k gs z):=by
 unfold qmg
 rw [qf7 h]
 split
 . by_cases hl:qa9 fs z < fs.length
   . have hg:qa9 fs z < gs.length:=by rw [h.1]; exact hl
     rw [List.getElem?_eq_getElem hl,List.getElem?_eq_getElem hg]
     exact (h.2 _ hl hg).2
   rw [List.getElem?_eq_none (by omega),List.getElem?_eq_none (by rw [h.1]; omega)]
   exact qhc
 exact qhc
theorem qn9{p q:Pv}(h:qbv p q):qbf p q=true:=by
 have k:∀ x,x < 4->qdd (p.M.get x) (q.M.get x)=true:=fun x hx=>by
  unfold qdd
  rw [(h.1 x hx).1,(h.1 x hx).2.2.1,(h.1 x hx).2.2.2.1]
  exact Pa.Dy.same_refl _
 have k0:=k 0 (by decide)
 have k1:=k 1 (by decide)
 have k2:=k 2 (by decide)
 have k3:=k 3 (by decide)
 simp only [Mv.get] at k0 k1 k2 k3
 unfold qbf qhe qfp
 rw [k0,k1,k2,k3,h.2.1,h.2.2.1,h.2.2.2.1,h.2.2.2.2.2,Pa.Sm_refl]
 simp
theorem qtt{p q r:Pv}(h:qbv p q)(k:qbv p r):qbf q r=true:=by
 rw [qfd h]
 exact qn9 k
theorem qz1(w:World)(f:Fv):Calls Tryz.prog 129 #[.agg #[.int .i64 f.e,.bool f.P.M.S.s,.slice f.P.M.S.A f.P.M.S.n f.P.M.S.c,.int .i64 f.P.M.S.e,.bool f.P.M.W.s,.slice f.P.M.W.A f.P.M.W.n f.P.M.W.c,.int .i64 f.P.M.W.e,.bool f.P.M.C.s,.slice f.P.M.C.A f.P.M.C.n f.P.M.C.c,.int .i64 f.P.M.C.e,.bool f.P.M.A.s,.slice f.P.M.A.A f.P.M.A.n f.P.M.A.c,.int .i64 f.P.M.A.e,.bool f.P.h,.int .i64 f.P.mn,.int .i64 f.P.mx,.slice f.P.A f.P.n f.P.c]] w fun e w'=>e=.returned (.int .i64 f.e)/\Below w.heap.size w w':=by
 obtain⟨w1,hw,bF,j1,S1⟩:=qmc w f
 obtain⟨⟨k0,k1,k2,k3,k4,k5,k6,k7,k8,k9,k10,k11,k12,k13,k14,k15,k16⟩,kf⟩:=qkh.cell bF
 go_enter Tryz.func129,Tryz.ntmps129
 go_wp2
 go_ret
 exact⟨rfl,j1⟩
theorem qwf(w:World)(A:Option Addr)(n c:Nat)(fs:List Fv)(hL:LFs w 0 w.heap.size A n fs)(hn:n<=1024)(z a:Int)(hm:qey a fs=true)(r:Nat)(hr:qa9 fs z=r) :
  Calls Tryz.prog 128 #[.slice A n c,.int .i64 z,.func (.func 129) #[] #[]] w fun e w'=>e=.returned (.int .i64 (r:Nat))/\Below w.heap.size w w':=by
 have HL:=Lib.hid hL.len
 have HR:=Lib.hid hr
 have HM:=Lib.hid hm
 have hrn:r<=n:=by
  have:=qjz fs z
  rw [hr,hL.len] at this
  exact this
 clear hr hm
 go_enter Tryz.func128,Tryz.ntmps128
 go_wp2
 go_loopw [7,8,9] (fun lv hv _ wr=>∃ lo hi:Nat,lv=.int .i64 lo/\hv=.int .i64 hi/\lo<=r/\r<=hi/\hi<=n/\Below w.heap.size w wr) (fun lv hv _ _=>((intOf hv)-(intOf lv)).toNat)
 case atStart=>exact⟨0,n,rfl,rfl,Nat.zero_le _,hrn,Nat.le_refl _,Below.refl _ _⟩
 obtain⟨lo,hi,rfl,rfl,h1,h2,h3,hb⟩:=hrel
 have lw:=hb.size
 by_cases hlt:lo < hi
 rotate_left
 . obtain rfl:lo=r:=by omega
   go_wp2
   go_ret
   exact⟨rfl,hb⟩
 obtain⟨m,hm⟩:∃ m,(lo+hi)/2=m:=⟨_,rfl⟩
 have hm1:lo<=m:=by omega
 have hm2:m < hi:=by omega
 have hm3:m < n:=by omega
 have hsum:IntKind.i64.wrap ((lo:Int)+(hi:Int))=((lo+hi:Nat):Int):=by rw [IntKind.wrap_i64]; omega
 have hdiv0:((lo+hi:Nat):Int).tdiv 2=((m:Nat):Int):=by rw [Int.tdiv_eq_ediv_of_nonneg (by omega)]; omega
 have hdiv:((lo:Int)+(hi:Int)).tdiv 2=((m:Nat):Int):=by rw [Int.tdiv_eq_ediv_of_nonneg (by omega)]; omega
 have hwm:IntKind.i64.wrap ((m:Nat):Int)=((m:Nat):Int):=by rw [IntKind.wrap_i64]; omega
 have hwm1:IntKind.i64.wrap (((m:Nat):Int)+1)=((m+1:Nat):Int):=by rw [IntKind.wrap_i64]; omega
 have hmf:m < fs.length:=by rw [HL.out]; exact hm3
 obtain⟨b,off,hA,hb1,hb2,hc⟩:=(hL.below hb (Nat.le_refl _)).row (by omega)
 have hci:=Lib.hid (hc m hmf)
 obtain⟨f,hf⟩:∃ f,fs[m]=f:=⟨_,rfl⟩
 rw [hf] at hci
 have HF:=Lib.hid hf
 have HLT:=Lib.hid (fun (h:m < r)=>by have:=qnx (fs:=fs) (z:=z) m hmf (by rw [HR.out]; exact h); rw [hf] at this; exact this:m < r->f.e < z)
 have HGE:=Lib.hid (fun (h:r<=m)=>by have:=qj0 HM.out (z:=z) m hmf (by rw [HR.out]; exact h); rw [hf] at this; exact this:r<=m->z<=f.e)
 clear hc hf
 subst hA
 have rg:=hci.out.range
 go_wp2_with (first
  | (refine wpList_load_mid rfl 115 (.tmp 22) rfl b (off+m*17) rfl [.int .i64 f.e,.bool f.P.M.S.s,.slice f.P.M.S.A f.P.M.S.n f.P.M.S.c,.int .i64 f.P.M.S.e,.bool f.P.M.W.s,.slice f.P.M.W.A f.P.M.W.n f.P.M.W.c,.int .i64 f.P.M.W.e,.bool f.P.M.C.s,.slice f.P.M.C.A f.P.M.C.n f.P.M.C.c,.int .i64 f.P.M.C.e,.bool f.P.M.A.s,.slice f.P.M.A.A f.P.M.A.n f.P.M.A.c,.int .i64 f.P.M.A.e,.bool f.P.h,.int .i64 f.P.mn,.int .i64 f.P.mx,.slice f.P.A f.P.n f.P.c] _ rg Tryz.underlying115 rfl (by kernel_rfl) ?_))
 refine (qz1 wr f).mono ?_
 rintro e' u1 ⟨rfl,j1⟩
 clear rg
 have hb3:=hb.trans (j1.mono lw)
 by_cases h5:f.e < z
 . have hr1:m < r:=by
     rcases Nat.lt_or_ge m r with h|h
     . exact h
     have:=HGE.out h
     omega
   go_wp2
   go_roundw
   case rel=>exact⟨m+1,hi,by first | rfl | (congr 1; omega) | go_num,rfl,hr1,h2,h3,hb3⟩
   case measure=>first | (simp [intOf]; done) | (simp [intOf]; omega)
 have hr1:r<=m:=by
  rcases Nat.lt_or_ge m r with h|h
  . exact absurd (HLT.out h) h5
  exact h
 have d5:decide (f.e < z)=false:=decide_eq_false h5
 go_wp2
 go_roundw
 case rel=>exact⟨lo,m,rfl,by first | rfl | (congr 1; omega) | go_num,h1,hr1,by omega,hb3⟩
 case measure=>first | (simp [intOf]; done) | (simp [intOf]; omega)
theorem qub(w:World)(A:Option Addr)(n c:Nat)(fs:List Fv)(hL:LFs w 0 w.heap.size A n fs)(z k:Int)(hk:qmh n fs z=k)(i:Nat)(hi:(if k=0 then qa9 fs z else 0)=i) :
  Calls Tryz.prog 65 #[.slice A n c,.int .i64 z] w fun e w'=>e=.returned (.tuple #[.int .i64 (i:Nat),.int .i64 k])/\Below w.heap.size w w':=by
 obtain⟨q,hq⟩:∃ q,qbo n fs=q:=⟨_,rfl⟩
 have HA:=Lib.hid (qyn hk hq)
 have HQ:=Lib.hid hq
 have HI:=Lib.hid hi
 have HK:=Lib.hid hk
 clear hk hq hi
 go_enter Tryz.func65,Tryz.ntmps65
 go_wp2_with fail
 refine (CheckF_any w A n c fs hL q HQ.out).mono ?_
 rintro e' v ⟨rfl,j⟩
 by_cases h0:q=0
 rotate_left
 . obtain rfl:=HA.out.1 h0
   obtain rfl:i=0:=by rw [<-HI.out,if_neg h0]
   have n0:(k != 0)=true:=by simpa using h0
   clear HA HQ HI HK
   go_wp2
   go_ret2
   exact⟨rfl,j⟩
 subst h0
 have HB:=Lib.hid (HA.out.2.1 rfl)
 have HC:=Lib.hid (HA.out.2.2 rfl)
 clear HA
 by_cases h1:z < 0
 . obtain rfl:=HB.out (.inl h1)
   obtain rfl:i=0:=by rw [<-HI.out,if_neg (by decide)]
   clear HB HC HI HK HQ
   go_wp2
   go_ret2
   exact⟨rfl,j⟩
 have d1:decide (z < 0)=false:=decide_eq_false h1
 by_cases h2:(65535:Int) < z
 . obtain rfl:=HB.out (.inr h2)
   obtain rfl:i=0:=by rw [<-HI.out,if_neg (by decide)]
   clear HB HC HI HK HQ
   go_wp2
   go_ret2
   exact⟨rfl,j⟩
 have d2:decide ((65535:Int) < z)=false:=decide_eq_false h2
 obtain rfl:=HC.out (by omega)
 have hi':qa9 fs z=i:=by rw [<-HI.out,if_pos rfl]
 have HI2:=Lib.hid hi'
 obtain⟨q1,q2⟩:=qjo HQ.out
 have HM:=Lib.hid q2
 clear HB HC HI HK HQ hi' q2
 go_wp2_with fail
 refine (qwf v A n c fs (hL.on j) q1 z (-1) HM.out i HI2.out).mono ?_
 rintro e' v2 ⟨rfl,j2⟩
 have j3:=j.trans (j2.mono j.size)
 go_wp2
 go_ret2
 exact⟨rfl,j3⟩
theorem qx4{n:Nat}{fs:List Fv}{z k c:Int}{i:Nat}(hk:qn4 n fs z=k)(hc:qmh n fs z=c)(hi:(if c=0 then qa9 fs z else 0)=i)(hl:fs.length=n) :
  (c≠0->k=c)/\(c=0->i=n->k=6)/\(c=0->∀ h:i < fs.length,(fs[i].e≠z->k=6)/\(fs[i].e=z->k=0)):=by
 subst hk hc
 unfold qn4
 refine⟨fun h=>by rw [if_pos h],fun h h1=>?_,fun h h1=>⟨fun h2=>?_,fun h2=>?_⟩⟩
 . rw [if_pos h] at hi
   rw [if_neg (by rw [h]; simp),hi,List.getElem?_eq_none (by omega)]
 . rw [if_pos h] at hi
   rw [if_neg (by rw [h]; simp),hi,List.getElem?_eq_getElem h1]
   simp only
   rw [if_neg h2]
 rw [if_pos h] at hi
 rw [if_neg (by rw [h]; simp),hi,List.getElem?_eq_getElem h1]
 simp only
 rw [if_pos h2]
theorem qwp(w:World)(A:Option Addr)(n c:Nat)(fs:List Fv)(hL:LFs w 0 w.heap.size A n fs)(z:Int)(hs:∀ j (h:j < fs.length),(∀ x,x < 4->(fs[j].P.M.get x).n<=1000000)/\fs[j].P.n<=1000000)(k:Int)(hk:qn4 n fs z=k) :
  Calls Tryz.prog 31 #[.slice A n c,.int .i64 z] w fun e w'=>∃ q:Pv,e=.returned (.tuple #[.agg #[.bool q.M.S.s,.slice q.M.S.A q.M.S.n q.M.S.c,.int .i64 q.M.S.e,.bool q.M.W.s,.slice q.M.W.A q.M.W.n q.M.W.c,.int .i64 q.M.W.e,.bool q.M.C.s,.slice q.M.C.A q.M.C.n q.M.C.c,.int .i64 q.M.C.e,.bool q.M.A.s,.slice q.M.A.A q.M.A.n q.M.A.c,.int .i64 q.M.A.e,.bool q.h,.int .i64 q.mn,.int .i64 q.mx,.slice q.A q.n q.c],.int .i64 k])/\qbv (qmg k fs z) q/\Below w.heap.size w w'/\PRows w' w.heap.size w'.heap.size q:=by
 obtain⟨w1,hw,bZ,j1,S1⟩:=qg6 w
 have lw1:=j1.size
 have HS:=Lib.hid hs
 have HL:=Lib.hid hL.len
 obtain⟨c0,hc0⟩:∃ c,qmh n fs z=c:=⟨_,rfl⟩
 obtain⟨i,hi⟩:∃ i,(if c0=0 then qa9 fs z else 0)=i:=⟨_,rfl⟩
 have HC:=Lib.hid (qx4 hk hc0 hi hL.len)
 have H0:=Lib.hid hc0
 have HI:=Lib.hid hi
 have hin:i<=n:=by
  have:=qjz fs z
  rw [hL.len] at this
  rw [<-hi]
  split
  . exact this
  exact Nat.zero_le _
 clear hk hc0 hi hs
 go_enter Tryz.func31,Tryz.ntmps31
 go_wp2_with fail
 refine (qub w1 A n c fs (LFs.on hL j1) z c0 H0.out i HI.out).mono ?_
 rintro e' v1 ⟨rfl,j2⟩
 try clear hw
 by_cases h0:c0=0
 rotate_left
 . obtain rfl:=HC.out.1 h0
   have n0:(k != 0)=true:=by simpa using h0
   clear HC H0 HI
   have bz_:PBox v1 (w.heap.size) ZPv:=(qaa bZ j2 S1)
   obtain⟨U_,hU_,bU_,hb_,hf_,l5_,l5'_⟩:=qax bz_ ZPv
   have th_:=bz_.there
   replace hU_:v1.setCells (w.heap.size) 0 (#[.bool false,.slice none 0 0,.int .i64 0,.bool false,.slice none 0 0,.int .i64 0,.bool false,.slice none 0 0,.int .i64 0,.bool false,.slice none 0 0,.int .i64 0,.bool false,.int .i64 0,.int .i64 0,.slice none 0 0]:Array Value).toList=U_:=hU_
   have HU_:=Lib.hid hU_
   clear hU_
   have fin_:=hb_ _ _ (lz j1 j2) (by omega)
   go_wp2_with (first | (refine wpList_store_mid rfl 30 (.tmp 4) (.tmp 16) rfl (w.heap.size) 0 #[.bool false,.slice none 0 0,.int .i64 0,.bool false,.slice none 0 0,.int .i64 0,.bool false,.slice none 0 0,.int .i64 0,.bool false,.slice none 0 0,.int .i64 0,.bool false,.int .i64 0,.int .i64 0,.slice none 0 0] rfl rfl th_ (by kernel_rfl) (all_oneCell_toArray (qal ZPv)) ?_; rw [HU_.out]))
   obtain⟨Z_,hZ_⟩:∃ q:Pv,q=ZPv:=⟨_,rfl⟩
   rw [<-hZ_] at bU_
   exact bodyPost_ret (qab Tryz.results31 _ _ (w.heap.size) 30 #[.bool Z_.M.S.s,.slice Z_.M.S.A Z_.M.S.n Z_.M.S.c,.int .i64 Z_.M.S.e,.bool Z_.M.W.s,.slice Z_.M.W.A Z_.M.W.n Z_.M.W.c,.int .i64 Z_.M.W.e,.bool Z_.M.C.s,.slice Z_.M.C.A Z_.M.C.n Z_.M.C.c,.int .i64 Z_.M.C.e,.bool Z_.M.A.s,.slice Z_.M.A.A Z_.M.A.n Z_.M.A.c,.int .i64 Z_.M.A.e,.bool Z_.h,.int .i64 Z_.mn,.int .i64 Z_.mx,.slice Z_.A Z_.n Z_.c] (0,0) _ (.int .i64 k) rfl rfl bU_ Tryz.underlying30 rfl (by kernel_rfl)) rfl ⟨Z_,rfl,by rw [hZ_]; exact qow h0 _ _,fin_,by rw [hZ_]; exact qie _ _ _⟩
 skip
 subst h0
 have HC2:=Lib.hid (HC.out.2.1 rfl)
 have HC3:=Lib.hid (HC.out.2.2 rfl)
 have HI2:Hid (qa9 fs z=i):=Lib.hid (by have:=HI.out; rw [if_pos rfl] at this; exact this)
 clear HC H0 HI
 by_cases h1:i=n
 . obtain rfl:=HC2.out h1
   have e1:((i:Int)==(n:Int))=true:=by rw [h1]; exact beq_self_eq_true _
   clear HC2 HC3 HI2 h1
   have bz_:PBox v1 (w.heap.size) ZPv:=(qaa bZ j2 S1)
   obtain⟨U_,hU_,bU_,hb_,hf_,l5_,l5'_⟩:=qax bz_ ZPv
   have th_:=bz_.there
   replace hU_:v1.setCells (w.heap.size) 0 (#[.bool false,.slice none 0 0,.int .i64 0,.bool false,.slice none 0 0,.int .i64 0,.bool false,.slice none 0 0,.int .i64 0,.bool false,.slice none 0 0,.int .i64 0,.bool false,.int .i64 0,.int .i64 0,.slice none 0 0]:Array Value).toList=U_:=hU_
   have HU_:=Lib.hid hU_
   clear hU_
   have fin_:=hb_ _ _ (lz j1 j2) (by omega)
   go_wp2_with (first | (refine wpList_store_mid rfl 30 (.tmp 4) (.tmp 31) rfl (w.heap.size) 0 #[.bool false,.slice none 0 0,.int .i64 0,.bool false,.slice none 0 0,.int .i64 0,.bool false,.slice none 0 0,.int .i64 0,.bool false,.slice none 0 0,.int .i64 0,.bool false,.int .i64 0,.int .i64 0,.slice none 0 0] rfl rfl th_ (by kernel_rfl) (all_oneCell_toArray (qal ZPv)) ?_; rw [HU_.out]))
   obtain⟨Z_,hZ_⟩:∃ q:Pv,q=ZPv:=⟨_,rfl⟩
   rw [<-hZ_] at bU_
   exact bodyPost_ret (qab Tryz.results31 _ _ (w.heap.size) 30 #[.bool Z_.M.S.s,.slice Z_.M.S.A Z_.M.S.n Z_.M.S.c,.int .i64 Z_.M.S.e,.bool Z_.M.W.s,.slice Z_.M.W.A Z_.M.W.n Z_.M.W.c,.int .i64 Z_.M.W.e,.bool Z_.M.C.s,.slice Z_.M.C.A Z_.M.C.n Z_.M.C.c,.int .i64 Z_.M.C.e,.bool Z_.M.A.s,.slice Z_.M.A.A Z_.M.A.n Z_.M.A.c,.int .i64 Z_.M.A.e,.bool Z_.h,.int .i64 Z_.mn,.int .i64 Z_.mx,.slice Z_.A Z_.n Z_.c] (0,0) _ (.int .i64 6) rfl rfl bU_ Tryz.underlying30 rfl (by kernel_rfl)) rfl ⟨Z_,rfl,by rw [hZ_]; exact qow (by decide) _ _,fin_,by rw [hZ_]; exact qie _ _ _⟩
 skip
 have hif:i < fs.length:=by have:=HL.out; omega
 have hil:i < n:=by omega
 have e1:((i:Int)==(n:Int))=false:=by
  have:(i:Int)≠(n:Int):=by omega
  simpa using this
 have hLz:=(LFs.on hL (lz j1 j2))
 obtain⟨b,off,hA,hb1,hb2,hc⟩:=hLz.row (by omega)
 have hci:=Lib.hid (hc i hif)
 have hri:=hLz.rows i hif
 have hsz:=Lib.hid (HS.out i hif)
 have HC4:=Lib.hid (HC3.out hif)
 obtain⟨f,hf⟩:∃ f,fs[i]=f:=⟨_,rfl⟩
 rw [hf] at hci hri hsz HC4
 have HF:=Lib.hid hf
 clear hc hf HC3
 subst hA
 have k_:=hci.out.1
 by_cases h2:f.e=z
 rotate_left
 . obtain rfl:=HC4.out.1 h2
   have e2:(f.e != z)=true:=by simpa using h2
   clear HC2 HC4 HI2
   have bz_:PBox v1 (w.heap.size) ZPv:=(qaa bZ j2 S1)
   obtain⟨U_,hU_,bU_,hb_,hf_,l5_,l5'_⟩:=qax bz_ ZPv
   have th_:=bz_.there
   replace hU_:v1.setCells (w.heap.size) 0 (#[.bool false,.slice none 0 0,.int .i64 0,.bool false,.slice none 0 0,.int .i64 0,.bool false,.slice none 0 0,.int .i64 0,.bool false,.slice none 0 0,.int .i64 0,.bool false,.int .i64 0,.int .i64 0,.slice none 0 0]:Array Value).toList=U_:=hU_
   have HU_:=Lib.hid hU_
   clear hU_
   have fin_:=hb_ _ _ (lz j1 j2) (by omega)
   go_wp2_with (first | (refine wpList_store_mid rfl 30 (.tmp 4) (.tmp 31) rfl (w.heap.size) 0 #[.bool false,.slice none 0 0,.int .i64 0,.bool false,.slice none 0 0,.int .i64 0,.bool false,.slice none 0 0,.int .i64 0,.bool false,.slice none 0 0,.int .i64 0,.bool false,.int .i64 0,.int .i64 0,.slice none 0 0] rfl rfl th_ (by kernel_rfl) (all_oneCell_toArray (qal ZPv)) ?_; rw [HU_.out]))
   obtain⟨Z_,hZ_⟩:∃ q:Pv,q=ZPv:=⟨_,rfl⟩
   rw [<-hZ_] at bU_
   exact bodyPost_ret (qab Tryz.results31 _ _ (w.heap.size) 30 #[.bool Z_.M.S.s,.slice Z_.M.S.A Z_.M.S.n Z_.M.S.c,.int .i64 Z_.M.S.e,.bool Z_.M.W.s,.slice Z_.M.W.A Z_.M.W.n Z_.M.W.c,.int .i64 Z_.M.W.e,.bool Z_.M.C.s,.slice Z_.M.C.A Z_.M.C.n Z_.M.C.c,.int .i64 Z_.M.C.e,.bool Z_.M.A.s,.slice Z_.M.A.A Z_.M.A.n Z_.M.A.c,.int .i64 Z_.M.A.e,.bool Z_.h,.int .i64 Z_.mn,.int .i64 Z_.mx,.slice Z_.A Z_.n Z_.c] (0,0) _ (.int .i64 6) rfl rfl bU_ Tryz.underlying30 rfl (by kernel_rfl)) rfl ⟨Z_,rfl,by rw [hZ_]; exact qow (by decide) _ _,fin_,by rw [hZ_]; exact qie _ _ _⟩
 skip
 obtain rfl:=HC4.out.2 h2
 have e2:(f.e != z)=false:=by simpa using h2
 clear HC2 HC4 h2
 have rg_:v1.rangeAt b (off+i*17+1) [.bool f.P.M.S.s,.slice f.P.M.S.A f.P.M.S.n f.P.M.S.c,.int .i64 f.P.M.S.e,.bool f.P.M.W.s,.slice f.P.M.W.A f.P.M.W.n f.P.M.W.c,.int .i64 f.P.M.W.e,.bool f.P.M.C.s,.slice f.P.M.C.A f.P.M.C.n f.P.M.C.c,.int .i64 f.P.M.C.e,.bool f.P.M.A.s,.slice f.P.M.A.A f.P.M.A.n f.P.M.A.c,.int .i64 f.P.M.A.e,.bool f.P.h,.int .i64 f.P.mn,.int .i64 f.P.mx,.slice f.P.A f.P.n f.P.c]:=hci.out.part
 go_wp2_with (first
  | (refine wpList_load_mid rfl 30 (.tmp 35) rfl b (off+i*17+1) (by go_simp) [.bool f.P.M.S.s,.slice f.P.M.S.A f.P.M.S.n f.P.M.S.c,.int .i64 f.P.M.S.e,.bool f.P.M.W.s,.slice f.P.M.W.A f.P.M.W.n f.P.M.W.c,.int .i64 f.P.M.W.e,.bool f.P.M.C.s,.slice f.P.M.C.A f.P.M.C.n f.P.M.C.c,.int .i64 f.P.M.C.e,.bool f.P.M.A.s,.slice f.P.M.A.A f.P.M.A.n f.P.M.A.c,.int .i64 f.P.M.A.e,.bool f.P.h,.int .i64 f.P.mn,.int .i64 f.P.mx,.slice f.P.A f.P.n f.P.c] _ rg_ Tryz.underlying30 rfl (by kernel_rfl) ?_))
 refine (qia v1 f.P hri hsz.out.1 hsz.out.2).mono ?_
 rintro e' v3 ⟨q,rfl,tq,j4,Rq⟩
 try clear hw
 clear rg_
 replace tq:=Lib.hid tq
 have bz_:PBox v3 (w.heap.size) ZPv:=(qaa bZ (lz j2 j4) S1)
 obtain⟨U_,hU_,bU_,hb_,hf_,l5_,l5'_⟩:=qax bz_ q
 have th_:=bz_.there
 replace hU_:v3.setCells (w.heap.size) 0 (#[.bool q.M.S.s,.slice q.M.S.A q.M.S.n q.M.S.c,.int .i64 q.M.S.e,.bool q.M.W.s,.slice q.M.W.A q.M.W.n q.M.W.c,.int .i64 q.M.W.e,.bool q.M.C.s,.slice q.M.C.A q.M.C.n q.M.C.c,.int .i64 q.M.C.e,.bool q.M.A.s,.slice q.M.A.A q.M.A.n q.M.A.c,.int .i64 q.M.A.e,.bool q.h,.int .i64 q.mn,.int .i64 q.mx,.slice q.A q.n q.c]:Array Value).toList=U_:=hU_
 have HU_:=Lib.hid hU_
 clear hU_
 have fin_:=hb_ _ _ (lz j1 (lz j2 j4)) (by omega)
 have Rq2:=(qbp Rq (qcj Rq (.inl (by have:=Below.size j2; omega))) hf_).more (lo':=w.heap.size) (hi':=U_.heap.size) (by have:=Below.size j2; omega) (by omega)
 have tg:qbv (qmg 0 fs z) q:=qx3 HI2.out hif (by rw [HF.out]; exact tq.out)
 go_wp2_with (first | (refine wpList_store_mid rfl 30 (.tmp 4) (.tmp 37) rfl (w.heap.size) 0 #[.bool q.M.S.s,.slice q.M.S.A q.M.S.n q.M.S.c,.int .i64 q.M.S.e,.bool q.M.W.s,.slice q.M.W.A q.M.W.n q.M.W.c,.int .i64 q.M.W.e,.bool q.M.C.s,.slice q.M.C.A q.M.C.n q.M.C.c,.int .i64 q.M.C.e,.bool q.M.A.s,.slice q.M.A.A q.M.A.n q.M.A.c,.int .i64 q.M.A.e,.bool q.h,.int .i64 q.mn,.int .i64 q.mx,.slice q.A q.n q.c] rfl rfl th_ (by kernel_rfl) (all_oneCell_toArray (qal q)) ?_; rw [HU_.out]))
 exact bodyPost_ret (qab Tryz.results31 _ _ (w.heap.size) 30 #[.bool q.M.S.s,.slice q.M.S.A q.M.S.n q.M.S.c,.int .i64 q.M.S.e,.bool q.M.W.s,.slice q.M.W.A q.M.W.n q.M.W.c,.int .i64 q.M.W.e,.bool q.M.C.s,.slice q.M.C.A q.M.C.n q.M.C.c,.int .i64 q.M.C.e,.bool q.M.A.s,.slice q.M.A.A q.M.A.n q.M.A.c,.int .i64 q.M.A.e,.bool q.h,.int .i64 q.mn,.int .i64 q.mx,.slice q.A q.n q.c] (0,0) _ (.int .i64 0) rfl rfl bU_ Tryz.underlying30 rfl (by kernel_rfl)) rfl ⟨q,rfl,tg,fin_,Rq2⟩
theorem q0z(w:World)(A:Option Addr)(n c:Nat)(fs:List Fv)(hL:LFs w 0 w.heap.size A n fs)(z:Int)(hs:∀ j (h:j < fs.length),(∀ x,x < 4->(fs[j].P.M.get x).n<=1000000)/\fs[j].P.n<=1000000)(r:Option Pv)(hr:ofF fs z=r) :
  Calls Tryz.prog 107 #[.slice A n c,.int .i64 z] w fun e w'=>∃ q:Pv,e=.returned (.tuple #[.agg #[.bool q.M.S.s,.slice q.M.S.A q.M.S.n q.M.S.c,.int .i64 q.M.S.e,.bool q.M.W.s,.slice q.M.W.A q.M.W.n q.M.W.c,.int .i64 q.M.W.e,.bool q.M.C.s,.slice q.M.C.A q.M.C.n q.M.C.c,.int .i64 q.M.C.e,.bool q.M.A.s,.slice q.M.A.A q.M.A.n q.M.A.c,.int .i64 q.M.A.e,.bool q.h,.int .i64 q.mn,.int .i64 q.mx,.slice q.A q.n q.c],.bool r.isSome])/\qbv (r.getD ZPv) q/\Below w.heap.size w w'/\PRows w' w.heap.size w'.heap.size q:=by
 obtain⟨w1,hw,bZ0,j1,S1⟩:=qg6 w
 have lw1:=j1.size
 have HS:=Lib.hid hs
 have HL:=Lib.hid hL.len
 have HR:=Lib.hid hr
 have hbig:=hL.big
 clear hr hs
 go_enter Tryz.func107,Tryz.ntmps107
 go_wp2
 try rw [hw]
 go_loopw [6] (fun iv wr=>∃ i:Nat,iv=.int .i64 i/\i<=n/\wr=w1/\Hid (ofF fs z=ofF (fs.drop i) z)) (fun iv _=>n-(intOf iv).toNat)
 case atStart=>exact⟨0,rfl,Nat.zero_le _,by first | rfl | assumption,Lib.hid rfl⟩
 obtain⟨i,rfl,hi1,hwr,hmy⟩:=hrel
 obtain rfl:w1=wr:=hwr.symm
 try clear hw
 have bZ:=bZ0
 by_cases hi:i < n
 rotate_left
 . have hr':r=none:=by rw [<-HR.out,hmy.out,List.drop_eq_nil_of_le (by have:=HL.out; omega)]; rfl
   subst hr'
   have bz_:PBox w1 (w.heap.size) ZPv:=bZ
   obtain⟨U_,hU_,bU_,hb_,hf_,l5_,l5'_⟩:=qax bz_ ZPv
   have th_:=bz_.there
   replace hU_:w1.setCells (w.heap.size) 0 (#[.bool false,.slice none 0 0,.int .i64 0,.bool false,.slice none 0 0,.int .i64 0,.bool false,.slice none 0 0,.int .i64 0,.bool false,.slice none 0 0,.int .i64 0,.bool false,.int .i64 0,.int .i64 0,.slice none 0 0]:Array Value).toList=U_:=hU_
   have HU_:=Lib.hid hU_
   clear hU_
   have fin_:=hb_ _ _ j1 (by omega)
   go_wp2_with (first | (refine wpList_store_mid rfl 30 (.tmp 4) (.tmp 26) rfl (w.heap.size) 0 #[.bool false,.slice none 0 0,.int .i64 0,.bool false,.slice none 0 0,.int .i64 0,.bool false,.slice none 0 0,.int .i64 0,.bool false,.slice none 0 0,.int .i64 0,.bool false,.int .i64 0,.int .i64 0,.slice none 0 0] rfl rfl th_ (by kernel_rfl) (all_oneCell_toArray (qal ZPv)) ?_; rw [HU_.out]))
   obtain⟨Z_,hZ_⟩:∃ q:Pv,q=ZPv:=⟨_,rfl⟩
   rw [<-hZ_] at bU_
   exact bodyPost_ret (qab Tryz.results107 _ _ (w.heap.size) 30 #[.bool Z_.M.S.s,.slice Z_.M.S.A Z_.M.S.n Z_.M.S.c,.int .i64 Z_.M.S.e,.bool Z_.M.W.s,.slice Z_.M.W.A Z_.M.W.n Z_.M.W.c,.int .i64 Z_.M.W.e,.bool Z_.M.C.s,.slice Z_.M.C.A Z_.M.C.n Z_.M.C.c,.int .i64 Z_.M.C.e,.bool Z_.M.A.s,.slice Z_.M.A.A Z_.M.A.n Z_.M.A.c,.int .i64 Z_.M.A.e,.bool Z_.h,.int .i64 Z_.mn,.int .i64 Z_.mx,.slice Z_.A Z_.n Z_.c] (0,0) _ (.bool false) rfl rfl bU_ Tryz.underlying30 rfl (by kernel_rfl)) rfl ⟨Z_,rfl,by rw [hZ_]; exact qhc,fin_,by rw [hZ_]; exact qie _ _ _⟩
 skip
 have hif:i < fs.length:=by rw [HL.out]; exact hi
 have hLz:=(LFs.on hL j1)
 obtain⟨b,off,hA,hb1,hb2,hc⟩:=hLz.row (by omega)
 have hci:=Lib.hid (hc i hif)
 have hri:=hLz.rows i hif
 have hsz:=Lib.hid (HS.out i hif)
 obtain⟨f,hf⟩:∃ f,fs[i]=f:=⟨_,rfl⟩
 have hmy2:Hid (ofF fs z=if f.e=z then some f.P else ofF (fs.drop (i+1)) z):=Lib.hid (by rw [hmy.out,List.drop_eq_getElem_cons hif,hf]; rfl)
 rw [hf] at hci hri hsz
 have hwrj:IntKind.i64.wrap ((i:Int)+1)=((i+1:Nat):Int):=by rw [IntKind.wrap_i64]; omega
 clear hc hf hmy
 subst hA
 have k_:=hci.out.1
 by_cases h2:f.e=z
 rotate_left
 . have e2:(f.e==z)=false:=by simpa using h2
   have hmy3:Hid (ofF fs z=ofF (fs.drop (i+1)) z):=Lib.hid (by rw [hmy2.out,if_neg h2])
   clear hmy2
   go_wp2
   go_roundw
   case rel=>exact⟨i+1,by first | rfl | (congr 1; omega) | go_num,by omega,by first | rfl | trivial,hmy3⟩
   case measure=>first | (simp [intOf]; done) | (simp [intOf]; omega)
 skip
 have hr':r=some f.P:=by rw [<-HR.out,hmy2.out,if_pos h2]
 subst hr'
 have e2:(f.e==z)=true:=by simpa using h2
 clear hmy2 h2 HR
 have rg_:w1.rangeAt b (off+i*17+1) [.bool f.P.M.S.s,.slice f.P.M.S.A f.P.M.S.n f.P.M.S.c,.int .i64 f.P.M.S.e,.bool f.P.M.W.s,.slice f.P.M.W.A f.P.M.W.n f.P.M.W.c,.int .i64 f.P.M.W.e,.bool f.P.M.C.s,.slice f.P.M.C.A f.P.M.C.n f.P.M.C.c,.int .i64 f.P.M.C.e,.bool f.P.M.A.s,.slice f.P.M.A.A f.P.M.A.n f.P.M.A.c,.int .i64 f.P.M.A.e,.bool f.P.h,.int .i64 f.P.mn,.int .i64 f.P.mx,.slice f.P.A f.P.n f.P.c]:=hci.out.part
 go_wp2_with (first
  | (refine wpList_load_mid rfl 30 (.tmp 23) rfl b (off+i*17+1) (by go_simp) [.bool f.P.M.S.s,.slice f.P.M.S.A f.P.M.S.n f.P.M.S.c,.int .i64 f.P.M.S.e,.bool f.P.M.W.s,.slice f.P.M.W.A f.P.M.W.n f.P.M.W.c,.int .i64 f.P.M.W.e,.bool f.P.M.C.s,.slice f.P.M.C.A f.P.M.C.n f.P.M.C.c,.int .i64 f.P.M.C.e,.bool f.P.M.A.s,.slice f.P.M.A.A f.P.M.A.n f.P.M.A.c,.int .i64 f.P.M.A.e,.bool f.P.h,.int .i64 f.P.mn,.int .i64 f.P.mx,.slice f.P.A f.P.n f.P.c] _ rg_ Tryz.underlying30 rfl (by kernel_rfl) ?_))
 refine (qdg w1 f.P hri hsz.out.1 hsz.out.2).mono ?_
 rintro e' v5 ⟨q,rfl,tq,j6,Rq⟩
 try clear hw
 clear rg_
 have bz_:PBox v5 (w.heap.size) ZPv:=(qaa bZ j6 S1)
 obtain⟨U_,hU_,bU_,hb_,hf_,l5_,l5'_⟩:=qax bz_ q
 have th_:=bz_.there
 replace hU_:v5.setCells (w.heap.size) 0 (#[.bool q.M.S.s,.slice q.M.S.A q.M.S.n q.M.S.c,.int .i64 q.M.S.e,.bool q.M.W.s,.slice q.M.W.A q.M.W.n q.M.W.c,.int .i64 q.M.W.e,.bool q.M.C.s,.slice q.M.C.A q.M.C.n q.M.C.c,.int .i64 q.M.C.e,.bool q.M.A.s,.slice q.M.A.A q.M.A.n q.M.A.c,.int .i64 q.M.A.e,.bool q.h,.int .i64 q.mn,.int .i64 q.mx,.slice q.A q.n q.c]:Array Value).toList=U_:=hU_
 have HU_:=Lib.hid hU_
 clear hU_
 have fin_:=hb_ _ _ (lz j1 j6) (by omega)
 have Rq2:=(qbp Rq (qcj Rq (.inl (by omega))) hf_).more (lo':=w.heap.size) (hi':=U_.heap.size) (by omega) (by omega)
 go_wp2_with (first | (refine wpList_store_mid rfl 30 (.tmp 4) (.tmp 25) rfl (w.heap.size) 0 #[.bool q.M.S.s,.slice q.M.S.A q.M.S.n q.M.S.c,.int .i64 q.M.S.e,.bool q.M.W.s,.slice q.M.W.A q.M.W.n q.M.W.c,.int .i64 q.M.W.e,.bool q.M.C.s,.slice q.M.C.A q.M.C.n q.M.C.c,.int .i64 q.M.C.e,.bool q.M.A.s,.slice q.M.A.A q.M.A.n q.M.A.c,.int .i64 q.M.A.e,.bool q.h,.int .i64 q.mn,.int .i64 q.mx,.slice q.A q.n q.c] rfl rfl th_ (by kernel_rfl) (all_oneCell_toArray (qal q)) ?_; rw [HU_.out]))
 exact bodyPost_ret (qab Tryz.results107 _ _ (w.heap.size) 30 #[.bool q.M.S.s,.slice q.M.S.A q.M.S.n q.M.S.c,.int .i64 q.M.S.e,.bool q.M.W.s,.slice q.M.W.A q.M.W.n q.M.W.c,.int .i64 q.M.W.e,.bool q.M.C.s,.slice q.M.C.A q.M.C.n q.M.C.c,.int .i64 q.M.C.e,.bool q.M.A.s,.slice q.M.A.A q.M.A.n q.M.A.c,.int .i64 q.M.A.e,.bool q.h,.int .i64 q.mn,.int .i64 q.mx,.slice q.A q.n q.c] (0,0) _ (.bool true) rfl rfl bU_ Tryz.underlying30 rfl (by kernel_rfl)) rfl ⟨q,rfl,tq,fin_,Rq2⟩
end Ma
end Go.Proofs.YtmbppgjhdcmckaaGreatDoor