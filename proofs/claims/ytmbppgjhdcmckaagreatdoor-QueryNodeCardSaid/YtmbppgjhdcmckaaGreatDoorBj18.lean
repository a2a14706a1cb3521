/- Timers: walks (printed by a program of mine). -/
import Derived.Test.YtmbppgjhdcmckaaGreatDoorBj17
set_option maxHeartbeats 102400000
set_option maxRecDepth 100000
namespace Go.Proofs.YtmbppgjhdcmckaaGreatDoor
open Go.RowKit
namespace NoT
open De (Descs Sm qbe Rng)
open Ma (q0a qg7 qds qfs qgm qko qdz)
open Dy
theorem Tryz.info146:(Tryz.prog.info? 146).map (fun i=>(i.zero,i.size,i.bytes))=some (some (.agg #[.int .i64 0,.int .i64 0]),2,16):=by kernel_rfl
theorem neqD(w:World)(a b c d:Int):(binOp .neq 146 (.agg #[.int .i64 a,.int .i64 b]) (.agg #[.int .i64 c,.int .i64 d])).run Tryz.prog w=.ok (.bool (!(a==c && b==d))) w:=by
 have u3:=Tryz.underlying3
 have hS:Tryz.prog.underlying 146=some (.struct (Tryz.prog.fieldsOf 146)):=by kernel_rfl
 have hp:Tryz.prog.stoodInHeld 146=false:=by kernel_rfl
 rw [run_neq_struct,show (10000:Nat)=9999+1 from rfl,run_equalIn_agg w 9999 146 _ _ hS hp]
 simp only [Program.fieldsOf,Tryz.underlying146]
 go_simp
 by_cases h1:a=c<;>by_cases h2:b=d<;>simp [h1,h2]
theorem qqt:Tryz.prog.eqGuardType Tryz.prog.depth 146=false:=by kernel_rfl
theorem qiz{xs ys:List (Int×Int)}{k:Nat}(h1:k < xs.length)(h2:k < ys.length)(h:xs.take k=ys.take k)(he:xs[k]?.getD (0,0)=ys[k]?.getD (0,0)):xs.take (k+1)=ys.take (k+1):=by
 rw [List.take_succ_eq_append_getElem h1,List.take_succ_eq_append_getElem h2,h]
 rw [List.getElem?_eq_getElem h1,List.getElem?_eq_getElem h2] at he
 congr 1
 simpa using he
theorem EqualT_any(w:World)(lo hi lo' hi':Nat)(A A':Option Addr)(n c n' c':Nat)(xs ys:List (Int×Int))(hX:Descs w lo hi A n xs)(hY:Descs w lo' hi' A' n' ys)(r:Bool)(hr:Sm xs ys=r) :
  Calls Tryz.prog 113 #[.slice A n c,.slice A' n' c'] w fun e w'=>e=.returned (.bool r)/\∃ m,w'=w.drewN m:=by
 have HR:=Lib.hid hr
 have HL:=Lib.hid hX.len
 have HL':=Lib.hid hY.len
 have hbig:=hX.big
 have hbig':=hY.big
 clear hr
 by_cases hn:n=n'
 . subst hn
   have hne:((n:Int) != (n:Int))=false:=by simp
   go_enter Tryz.func113,Tryz.ntmps113
   go_wp2
   go_loopw [5,13] (fun _ i wr=>∃ k m:Nat,i=.int .i64 k/\k<=n/\Hid (xs.take k=ys.take k)/\wr=w.drewN m) (fun _ i _=>n-(intOf i).toNat)
   case atStart=>exact⟨0,0,rfl,Nat.zero_le _,rfl,rfl⟩
   obtain⟨k,m,rfl,hk,heq,rfl⟩:=hrel
   by_cases hlt:k < n
   . obtain⟨b,off,rfl,h1,h2,hc⟩:=hX.row (by omega)
     obtain⟨b',off',rfl,h1',h2',hc'⟩:=hY.row (by omega)
     obtain⟨⟨g1,_⟩,g3,_⟩:=hc k hlt
     obtain⟨⟨f1,_⟩,f3,_⟩:=hc' k hlt
     clear hc hc'
     have hkn:(k:Int) < n:=by omega
     have hk0:(0:Int)<=k:=by omega
     generalize hx:xs[k]?.getD (0,0)=x at g1 g3
     generalize hy:ys[k]?.getD (0,0)=y at f1 f3
     obtain⟨x1,x2⟩:=x
     obtain⟨y1,y2⟩:=y
     have HX:=Lib.hid hx
     have HY:=Lib.hid hy
     have hneq:=fun W=>neqD W x1 x2 y1 y2
     have hgd:=qqt
     clear hx hy
     by_cases hxy:x1=y1/\x2=y2
     . obtain⟨rfl,rfl⟩:=hxy
       rw [show (!(x1==x1 && x2==x2))=false by simp] at hneq
       go_wp2
       go_quiet (fail)
       go_wp2
       go_roundw
       case rel=>exact⟨k+1,_,by go_num,by omega,qiz (by rw [HL.out]; exact hlt) (by rw [HL'.out]; exact hlt) heq.out (by rw [HX.out,HY.out]),rfl⟩
       case measure=>simp [intOf]; omega
     have hf:(!(x1==y1 && x2==y2))=true:=by
      by_cases h1:x1=y1
      . have h2:x2≠y2:=fun h=>hxy ⟨h1,h⟩
        simp [h2]
      simp [h1]
     rw [hf] at hneq
     have e:r=false:=by
      rw [<-HR.out]
      unfold Sm
      rw [beq_eq_false_iff_ne]
      intro h
      have h3:=HX.out
      rw [h,HY.out] at h3
      have h4:=Prod.mk.inj h3
      exact hxy ⟨h4.1.symm,h4.2.symm⟩
     subst e
     go_wp2
     go_quiet (fail)
     go_wp2
     go_ret
     exact⟨rfl,_,World.drewN_drewN _ _ _⟩
   obtain rfl:k=n:=by omega
   have e:r=true:=by
    rw [<-HR.out]
    unfold Sm
    have h:=heq.out
    rw [List.take_of_length_le (by rw [HL.out]; exact Nat.le_refl _),List.take_of_length_le (by rw [HL'.out]; exact Nat.le_refl _)] at h
    rw [h]
    exact beq_self_eq_true _
   subst e
   clear heq
   go_wp2
   go_ret
   exact⟨rfl,_,rfl⟩
 have hne:((n:Int) != (n':Int))=true:=by rw [bne_iff_ne]; omega
 have e:r=false:=by
  rw [<-HR.out]
  unfold Sm
  rw [beq_eq_false_iff_ne]
  intro h
  have h1:=HL.out
  have h2:=HL'.out
  rw [h] at h1
  omega
 subst e
 go_enter Tryz.func113,Tryz.ntmps113
 go_wp2
 go_ret
 exact⟨rfl,0,rfl⟩
def tOk(xs:List (Int×Int)):Nat->Bool
 | 0=>true
 | k+1=>tOk xs k && (q0a (xs[k]?.getD (0,0)).1 (xs[k]?.getD (0,0)).2 && (decide (k=0) || qg7 (xs[k-1]?.getD (0,0)).1 (xs[k-1]?.getD (0,0)).2 (xs[k]?.getD (0,0)).1 (xs[k]?.getD (0,0)).2))
def timersC(xs:List (Int×Int)):Int:=if 1024 < xs.length then 4 else if tOk xs xs.length=true then 0 else 8
theorem qk8(xs:List (Int×Int))(k:Nat):tOk xs (k+1)=(tOk xs k && (q0a (xs[k]?.getD (0,0)).1 (xs[k]?.getD (0,0)).2 && (decide (k=0) || qg7 (xs[k-1]?.getD (0,0)).1 (xs[k-1]?.getD (0,0)).2 (xs[k]?.getD (0,0)).1 (xs[k]?.getD (0,0)).2))):=rfl
theorem qpx{xs:List (Int×Int)}{k:Nat}(h:tOk xs k=false):∀ n,k<=n->tOk xs n=false
 | 0,hn=>by
  have:k=0:=by omega
  rw [this] at h
  exact h
 | n+1,hn=>by
  by_cases e:k=n+1
  . rw [<-e]; exact h
  rw [qk8,qpx h n (by omega)]
  rfl
theorem qkk{xs:List (Int×Int)}{k:Nat}(hk:k < xs.length)(h:tOk xs (k+1)=false)(hn:¬ 1024 < xs.length):timersC xs=8:=by
 unfold timersC
 rw [if_neg hn,qpx h xs.length (by omega)]
 rfl
theorem qiy{xs:List (Int×Int)}(h:tOk xs xs.length=true)(hn:¬ 1024 < xs.length):timersC xs=0:=by
 unfold timersC
 rw [if_neg hn,h]
 rfl
theorem TimerChk_any(w:World)(lo hi:Nat)(A:Option Addr)(n c:Nat)(xs:List (Int×Int))(hX:Descs w lo hi A n xs)(hhi:hi<=w.heap.size)(code:Int)(hcode:timersC xs=code) :
  Calls Tryz.prog 122 #[.slice A n c] w fun e w'=>e=.returned (.int .i64 code)/\Below w.heap.size w w':=by
 have HL:=Lib.hid hX.len
 have hbig:=hX.big
 have HC:=Lib.hid hcode
 clear hcode
 by_cases h8:(1024:Int) < n
 . have e4:code=4:=by rw [<-HC.out]; unfold timersC; rw [if_pos (by have:=HL.out; omega)]
   subst e4
   go_enter Tryz.func122,Tryz.ntmps122
   go_wp2
   go_ret
   exact⟨rfl,Below.refl _ _⟩
 have H8:Hid (¬ 1024 < xs.length):=Lib.hid (by have:=HL.out; omega)
 go_enter Tryz.func122,Tryz.ntmps122
 go_wp2
 go_loopw [10] (fun iv wr=>∃ k:Nat,iv=.int .i64 k/\k<=n/\Hid (tOk xs k=true)/\Below w.heap.size w wr) (fun iv _=>n-(intOf iv).toNat)
 case atStart=>exact⟨0,rfl,Nat.zero_le _,rfl,Below.refl _ _⟩
 obtain⟨k,rfl,hk,hok,hb⟩:=hrel
 have lw:=hb.size
 have hXr:=hX.below hb hhi
 by_cases hlt:k < n
 . obtain⟨b,off,rfl,hb1,hb2,hc⟩:=hXr.row (by omega)
   obtain⟨⟨g1,_⟩,g3,_⟩:=hc k hlt
   have hk0:(0:Int)<=k:=by omega
   have hkn:(k:Int) < n:=by omega
   have hsu:=qk8 xs k
   rw [hok.out,Bool.true_and] at hsu
   have HO:=Lib.hid hsu
   have hno:Hid (tOk xs (k+1)=false->code=8):=fun h=>HC.out.symm.trans (qkk (by have:=HL.out; omega) h H8.out)
   clear hsu
   generalize hx:xs[k]?.getD (0,0)=x at g1 g3
   obtain⟨x1,x2⟩:=x
   simp only at g1 g3
   have HX:=Lib.hid hx
   have Hc:=Lib.hid hc
   clear hc
   obtain⟨t,ht⟩:∃ t,q0a x1 x2=t:=⟨_,rfl⟩
   have HT:=Lib.hid ht
   have HO2:Hid (tOk xs (k+1)=(t && (decide (k=0) || qg7 (xs[k-1]?.getD (0,0)).1 (xs[k-1]?.getD (0,0)).2 x1 x2))):=Lib.hid (by rw [HO.out,hx,<-ht])
   clear hx ht HO
   obtain⟨u,hu,bT,ju,Su⟩:=qdz wr x1 x2
   go_upto_region 6 with fail
   try rw [hu]
   try clear hu
   cases t
   . try clear hw
     refine zB (qan u) [] 17 ?_
     have j2:Below u.heap.size u u.drew:=(Below.refl _ _).drew
     generalize u.drew=v1 at *
     have c1_:u.cell? ⟨wr.heap.size,0,none⟩=some (.int .i64 x1):=cell_of_row u wr.heap.size 0 _ _ _ bT
     have c2_:u.cell? ⟨wr.heap.size,0+1,none⟩=some (.int .i64 x2):=cell_of_row u wr.heap.size 1 _ _ _ bT
     have kpy3:qan u v1:=fun p hp=>Below.block j2 p hp
     refine zD 0 (.agg #[.int .i64 x1,.int .i64 x2]) rfl ?y3 ?z4
     case y3 =>
      intro w' h1
      have k1_:w'.cell? ⟨wr.heap.size,0,none⟩=_:=(World.cell?_of_block (h1 _ (show wr.heap.size < u.heap.size from Su))).trans c1_
      have k2_:w'.cell? ⟨wr.heap.size,0+1,none⟩=_:=(World.cell?_of_block (h1 _ (show wr.heap.size < u.heap.size from Su))).trans c2_
      go_simp
     try simp only [Act.put,zp]
     refine zK 1 rfl fun K hK=>?_
     go_simp
     go_at_call 167
     refine (qds v1 x1 x2 false HT.out).mono ?_
     rintro e' v5 ⟨rfl,j6⟩
     refine hK _ _ ⟨fun _ _=>fun p hp=>Below.block (lz j2 j6) p hp,?_⟩
     clear hK K
     try simp only [Act.put,zp]
     refine zM 2 [2,3] ?_ ?_
     refine zS 12 [4,5,6,7,8,9,10,11,12,13,14,15] ?_ ?_
     refine zM 1 [16] ?_ ?_
     refine qa2 (by kernel_rfl) ?_ _
     obtain rfl:code=8:=hno.out (by rw [HO2.out]; rfl)
     go_wp2
     go_ret
     exact⟨rfl,hb.trans (Below.mono (lz ju (lz j2 j6)) lw)⟩
   skip
   by_cases hkp:0 < k
   . have h0:Hid (¬ k=0):=Lib.hid (by omega)
     obtain⟨⟨f1,_⟩,f3,_⟩:=Hc.out (k-1) (by omega)
     have hks:IntKind.i64.wrap ((k:Int)-1)=((k-1:Nat):Int):=by rw [IntKind.wrap_i64]; omega
     have hkq:(((k-1:Nat):Int)) < n:=by omega
     have hkr:(0:Int)<=((k-1:Nat):Int):=by omega
     generalize hy:xs[k-1]?.getD (0,0)=y at f1 f3
     obtain⟨y1,y2⟩:=y
     simp only at f1 f3
     have HY:=Lib.hid hy
     clear hy
     generalize hkk:k-1=kp at *
     obtain⟨s,hs⟩:∃ s,qg7 y1 y2 x1 x2=s:=⟨_,rfl⟩
     have HS:=Lib.hid hs
     clear hs
     try clear hw
     refine zB (qan u) [] 17 ?_
     have j8:Below u.heap.size u u.drew:=(Below.refl _ _).drew
     generalize u.drew=v7 at *
     have c1_:u.cell? ⟨wr.heap.size,0,none⟩=some (.int .i64 x1):=cell_of_row u wr.heap.size 0 _ _ _ bT
     have c2_:u.cell? ⟨wr.heap.size,0+1,none⟩=some (.int .i64 x2):=cell_of_row u wr.heap.size 1 _ _ _ bT
     have kpy9:qan u v7:=fun p hp=>Below.block j8 p hp
     refine zD 0 (.agg #[.int .i64 x1,.int .i64 x2]) rfl ?y9 ?z10
     case y9 =>
      intro w' h1
      have k1_:w'.cell? ⟨wr.heap.size,0,none⟩=_:=(World.cell?_of_block (h1 _ (show wr.heap.size < u.heap.size from Su))).trans c1_
      have k2_:w'.cell? ⟨wr.heap.size,0+1,none⟩=_:=(World.cell?_of_block (h1 _ (show wr.heap.size < u.heap.size from Su))).trans c2_
      go_simp
     try simp only [Act.put,zp]
     refine zK 1 rfl fun K hK=>?_
     go_simp
     go_at_call 167
     refine (qds v7 x1 x2 true HT.out).mono ?_
     rintro e' v11 ⟨rfl,j12⟩
     refine hK _ _ ⟨fun _ _=>fun p hp=>Below.block (lz j8 j12) p hp,?_⟩
     clear hK K
     try simp only [Act.put,zp]
     refine zM 9 [2,3,4,5,6,7,8,9,10] ?_ ?_
     have kpy13:qan u v11:=fun p hp=>Below.block (lz j8 j12) p hp
     refine zD 11 (.agg #[.int .i64 y1,.int .i64 y2]) rfl ?y13 ?z14
     case y13 =>
      intro w' h1
      have k1_:w'.cell? ⟨b,off+kp*2,none⟩=_:=(World.cell?_of_block (h1 _ (show b < u.heap.size by have:=ju.size; omega))).trans ((World.cell?_of_block (ju.block _ (show b < wr.heap.size by omega))).trans f1)
      have k2_:w'.cell? ⟨b,off+kp*2+1,none⟩=_:=(World.cell?_of_block (h1 _ (show b < u.heap.size by have:=ju.size; omega))).trans ((World.cell?_of_block (ju.block _ (show b < wr.heap.size by omega))).trans f3)
      go_simp
     try simp only [Act.put,zp]
     have kpy15:qan u v11:=fun p hp=>Below.block (lz j8 j12) p hp
     refine zD 12 (.agg #[.int .i64 x1,.int .i64 x2]) rfl ?y15 ?z16
     case y15 =>
      intro w' h1
      have k1_:w'.cell? ⟨wr.heap.size,0,none⟩=_:=(World.cell?_of_block (h1 _ (show wr.heap.size < u.heap.size from Su))).trans c1_
      have k2_:w'.cell? ⟨wr.heap.size,0+1,none⟩=_:=(World.cell?_of_block (h1 _ (show wr.heap.size < u.heap.size from Su))).trans c2_
      go_simp
     try simp only [Act.put,zp]
     refine zK 13 rfl fun K hK=>?_
     go_simp
     go_at_call 168
     refine (qfs v11 y1 y2 x1 x2 s HS.out).mono ?_
     rintro e' v17 ⟨rfl,j18⟩
     refine hK _ _ ⟨fun _ _=>fun p hp=>Below.block (lz j8 (lz j12 j18)) p hp,?_⟩
     clear hK K
     try simp only [Act.put,zp]
     refine zM 3 [14,15,16] ?_ ?_
     refine qa2 (by kernel_rfl) ?_ _
     cases s
     . obtain rfl:code=8:=hno.out (by rw [HO2.out,HY.out,decide_eq_false h0.out,HS.out]; rfl)
       go_wp2
       go_ret
       exact⟨rfl,hb.trans (Below.mono (lz ju (lz j8 (lz j12 j18))) lw)⟩
     have hn2:Hid (tOk xs (k+1)=true):=Lib.hid (by rw [HO2.out,HY.out,decide_eq_false h0.out,HS.out]; rfl)
     go_wp2
     go_roundw
     case rel=>exact⟨k+1,by go_num,by omega,hn2,hb.trans (Below.mono (lz ju (lz j8 (lz j12 j18))) lw)⟩
     case measure=>first | (simp [intOf]; done) | (simp [intOf]; omega)
   skip
   try clear hw
   refine zB (qan u) [] 17 ?_
   have j20:Below u.heap.size u u.drew:=(Below.refl _ _).drew
   generalize u.drew=v19 at *
   have c1_:u.cell? ⟨wr.heap.size,0,none⟩=some (.int .i64 x1):=cell_of_row u wr.heap.size 0 _ _ _ bT
   have c2_:u.cell? ⟨wr.heap.size,0+1,none⟩=some (.int .i64 x2):=cell_of_row u wr.heap.size 1 _ _ _ bT
   have kpy21:qan u v19:=fun p hp=>Below.block j20 p hp
   refine zD 0 (.agg #[.int .i64 x1,.int .i64 x2]) rfl ?y21 ?z22
   case y21 =>
    intro w' h1
    have k1_:w'.cell? ⟨wr.heap.size,0,none⟩=_:=(World.cell?_of_block (h1 _ (show wr.heap.size < u.heap.size from Su))).trans c1_
    have k2_:w'.cell? ⟨wr.heap.size,0+1,none⟩=_:=(World.cell?_of_block (h1 _ (show wr.heap.size < u.heap.size from Su))).trans c2_
    go_simp
   try simp only [Act.put,zp]
   refine zK 1 rfl fun K hK=>?_
   go_simp
   go_at_call 167
   refine (qds v19 x1 x2 true HT.out).mono ?_
   rintro e' v23 ⟨rfl,j24⟩
   refine hK _ _ ⟨fun _ _=>fun p hp=>Below.block (lz j20 j24) p hp,?_⟩
   clear hK K
   try simp only [Act.put,zp]
   refine zM 5 [2,3,4,5,6] ?_ ?_
   refine zS 8 [7,8,9,10,11,12,13,14] ?_ ?_
   refine zM 2 [15,16] ?_ ?_
   refine qa2 (by kernel_rfl) ?_ _
   have hn2:Hid (tOk xs (k+1)=true):=Lib.hid (by rw [HO2.out,decide_eq_true (show k=0 by omega)]; rfl)
   go_wp2
   go_roundw
   case rel=>exact⟨k+1,by go_num,by omega,hn2,hb.trans (Below.mono (lz ju (lz j20 j24)) lw)⟩
   case measure=>first | (simp [intOf]; done) | (simp [intOf]; omega)
 obtain rfl:k=n:=by omega
 have e2:code=0:=HC.out.symm.trans (qiy (by rw [HL.out]; exact hok.out) H8.out)
 subst e2
 go_wp2
 go_ret
 exact⟨rfl,hb⟩
theorem RTimer_any(w:World)(lo hi:Nat)(A:Option Addr)(n c:Nat)(xs:List (Int×Int))(hX:Descs w lo hi A n xs)(hhi:hi<=w.heap.size)(code:Int)(hcode:timersC xs=code) :
  Calls Tryz.prog 105 #[.slice A n c] w fun e w'=>e=.returned (.int .i64 code)/\Below w.heap.size w w':=by
 have HL:=Lib.hid hX.len
 have hbig:=hX.big
 have HC:=Lib.hid hcode
 clear hcode
 by_cases h8:(1024:Int) < n
 . have e4:code=4:=by rw [<-HC.out]; unfold timersC; rw [if_pos (by have:=HL.out; omega)]
   subst e4
   go_enter Tryz.func105,Tryz.ntmps105
   go_wp2
   go_ret
   exact⟨rfl,Below.refl _ _⟩
 have H8:Hid (¬ 1024 < xs.length):=Lib.hid (by have:=HL.out; omega)
 go_enter Tryz.func105,Tryz.ntmps105
 go_wp2
 go_loopw [3] (fun iv wr=>∃ k:Nat,iv=.int .i64 k/\k<=n/\Hid (tOk xs k=true)/\Below w.heap.size w wr) (fun iv _=>n-(intOf iv).toNat)
 case atStart=>exact⟨0,rfl,Nat.zero_le _,rfl,Below.refl _ _⟩
 obtain⟨k,rfl,hk,hok,hb⟩:=hrel
 have lw:=hb.size
 have hXr:=hX.below hb hhi
 by_cases hlt:k < n
 . obtain⟨b,off,rfl,hb1,hb2,hc⟩:=hXr.row (by omega)
   obtain⟨⟨g1,_⟩,g3,_⟩:=hc k hlt
   have hk0:(0:Int)<=k:=by omega
   have hkn:(k:Int) < n:=by omega
   have hsu:=qk8 xs k
   rw [hok.out,Bool.true_and] at hsu
   have HO:=Lib.hid hsu
   have hno:Hid (tOk xs (k+1)=false->code=8):=fun h=>HC.out.symm.trans (qkk (by have:=HL.out; omega) h H8.out)
   clear hsu
   generalize hx:xs[k]?.getD (0,0)=x at g1 g3
   obtain⟨x1,x2⟩:=x
   simp only at g1 g3
   have HX:=Lib.hid hx
   have Hc:=Lib.hid hc
   clear hc
   obtain⟨t,ht⟩:∃ t,q0a x1 x2=t:=⟨_,rfl⟩
   have HT:=Lib.hid ht
   have HO2:Hid (tOk xs (k+1)=(t && (decide (k=0) || qg7 (xs[k-1]?.getD (0,0)).1 (xs[k-1]?.getD (0,0)).2 x1 x2))):=Lib.hid (by rw [HO.out,hx,<-ht])
   clear hx ht HO
   go_upto_region 6 with fail
   cases t
   . try clear hw
     refine zB (qan wr) [] 23 ?_
     have j26:Below wr.heap.size wr wr.drew:=(Below.refl _ _).drew
     generalize wr.drew=v25 at *
     refine zM 3 [0,1,2] ?_ ?_
     have kpy27:qan wr v25:=fun p hp=>Below.block j26 p hp
     refine zD 3 (.agg #[.int .i64 x1,.int .i64 x2]) rfl ?y27 ?z28
     case y27 =>
      intro w' h1
      have k1_:w'.cell? ⟨b,off+k*2,none⟩=_:=(World.cell?_of_block (h1 _ (show b < wr.heap.size by omega))).trans g1
      have k2_:w'.cell? ⟨b,off+k*2+1,none⟩=_:=(World.cell?_of_block (h1 _ (show b < wr.heap.size by omega))).trans g3
      go_simp
     try simp only [Act.put,zp]
     refine zK 4 rfl fun K hK=>?_
     go_simp
     go_at_call 161
     refine (qgm v25 x1 x2 false HT.out).mono ?_
     rintro e' v29 ⟨rfl,j30⟩
     refine hK _ _ ⟨fun _ _=>fun p hp=>Below.block (lz j26 j30) p hp,?_⟩
     clear hK K
     try simp only [Act.put,zp]
     refine zM 2 [5,6] ?_ ?_
     refine zS 15 [7,8,9,10,11,12,13,14,15,16,17,18,19,20,21] ?_ ?_
     refine zM 1 [22] ?_ ?_
     refine qa2 (by kernel_rfl) ?_ _
     obtain rfl:code=8:=hno.out (by rw [HO2.out]; rfl)
     go_wp2
     go_ret
     exact⟨rfl,hb.trans (Below.mono (lz j26 j30) lw)⟩
   skip
   by_cases hkp:0 < k
   . have h0:Hid (¬ k=0):=Lib.hid (by omega)
     obtain⟨⟨f1,_⟩,f3,_⟩:=Hc.out (k-1) (by omega)
     have hks:IntKind.i64.wrap ((k:Int)-1)=((k-1:Nat):Int):=by rw [IntKind.wrap_i64]; omega
     have hkq:(((k-1:Nat):Int)) < n:=by omega
     have hkr:(0:Int)<=((k-1:Nat):Int):=by omega
     generalize hy:xs[k-1]?.getD (0,0)=y at f1 f3
     obtain⟨y1,y2⟩:=y
     simp only at f1 f3
     have HY:=Lib.hid hy
     clear hy
     generalize hkk:k-1=kp at *
     obtain⟨s,hs⟩:∃ s,qg7 y1 y2 x1 x2=s:=⟨_,rfl⟩
     have HS:=Lib.hid hs
     clear hs
     try clear hw
     refine zB (qan wr) [] 23 ?_
     have j32:Below wr.heap.size wr wr.drew:=(Below.refl _ _).drew
     generalize wr.drew=v31 at *
     refine zM 3 [0,1,2] ?_ ?_
     have kpy33:qan wr v31:=fun p hp=>Below.block j32 p hp
     refine zD 3 (.agg #[.int .i64 x1,.int .i64 x2]) rfl ?y33 ?z34
     case y33 =>
      intro w' h1
      have k1_:w'.cell? ⟨b,off+k*2,none⟩=_:=(World.cell?_of_block (h1 _ (show b < wr.heap.size by omega))).trans g1
      have k2_:w'.cell? ⟨b,off+k*2+1,none⟩=_:=(World.cell?_of_block (h1 _ (show b < wr.heap.size by omega))).trans g3
      go_simp
     try simp only [Act.put,zp]
     refine zK 4 rfl fun K hK=>?_
     go_simp
     go_at_call 161
     refine (qgm v31 x1 x2 true HT.out).mono ?_
     rintro e' v35 ⟨rfl,j36⟩
     refine hK _ _ ⟨fun _ _=>fun p hp=>Below.block (lz j32 j36) p hp,?_⟩
     clear hK K
     try simp only [Act.put,zp]
     refine zM 9 [5,6,7,8,9,10,11,12,13] ?_ ?_
     have kpy37:qan wr v35:=fun p hp=>Below.block (lz j32 j36) p hp
     refine zD 14 (.agg #[.int .i64 y1,.int .i64 y2]) rfl ?y37 ?z38
     case y37 =>
      intro w' h1
      have k1_:w'.cell? ⟨b,off+kp*2,none⟩=_:=(World.cell?_of_block (h1 _ (show b < wr.heap.size by omega))).trans f1
      have k2_:w'.cell? ⟨b,off+kp*2+1,none⟩=_:=(World.cell?_of_block (h1 _ (show b < wr.heap.size by omega))).trans f3
      go_simp
     try simp only [Act.put,zp]
     refine zM 3 [15,16,17] ?_ ?_
     have kpy39:qan wr v35:=fun p hp=>Below.block (lz j32 j36) p hp
     refine zD 18 (.agg #[.int .i64 x1,.int .i64 x2]) rfl ?y39 ?z40
     case y39 =>
      intro w' h1
      have k1_:w'.cell? ⟨b,off+k*2,none⟩=_:=(World.cell?_of_block (h1 _ (show b < wr.heap.size by omega))).trans g1
      have k2_:w'.cell? ⟨b,off+k*2+1,none⟩=_:=(World.cell?_of_block (h1 _ (show b < wr.heap.size by omega))).trans g3
      go_simp
     try simp only [Act.put,zp]
     refine zK 19 rfl fun K hK=>?_
     go_simp
     go_at_call 162
     refine (qko v35 y1 y2 x1 x2 s HS.out).mono ?_
     rintro e' v41 ⟨rfl,j42⟩
     refine hK _ _ ⟨fun _ _=>fun p hp=>Below.block (lz j32 (lz j36 j42)) p hp,?_⟩
     clear hK K
     try simp only [Act.put,zp]
     refine zM 3 [20,21,22] ?_ ?_
     refine qa2 (by kernel_rfl) ?_ _
     cases s
     . obtain rfl:code=8:=hno.out (by rw [HO2.out,HY.out,decide_eq_false h0.out,HS.out]; rfl)
       go_wp2
       go_ret
       exact⟨rfl,hb.trans (Below.mono (lz j32 (lz j36 j42)) lw)⟩
     have hn2:Hid (tOk xs (k+1)=true):=Lib.hid (by rw [HO2.out,HY.out,decide_eq_false h0.out,HS.out]; rfl)
     go_wp2
     go_roundw
     case rel=>exact⟨k+1,by go_num,by omega,hn2,hb.trans (Below.mono (lz j32 (lz j36 j42)) lw)⟩
     case measure=>first | (simp [intOf]; done) | (simp [intOf]; omega)
   skip
   try clear hw
   refine zB (qan wr) [] 23 ?_
   have j44:Below wr.heap.size wr wr.drew:=(Below.refl _ _).drew
   generalize wr.drew=v43 at *
   refine zM 3 [0,1,2] ?_ ?_
   have kpy45:qan wr v43:=fun p hp=>Below.block j44 p hp
   refine zD 3 (.agg #[.int .i64 x1,.int .i64 x2]) rfl ?y45 ?z46
   case y45 =>
    intro w' h1
    have k1_:w'.cell? ⟨b,off+k*2,none⟩=_:=(World.cell?_of_block (h1 _ (show b < wr.heap.size by omega))).trans g1
    have k2_:w'.cell? ⟨b,off+k*2+1,none⟩=_:=(World.cell?_of_block (h1 _ (show b < wr.heap.size by omega))).trans g3
    go_simp
   try simp only [Act.put,zp]
   refine zK 4 rfl fun K hK=>?_
   go_simp
   go_at_call 161
   refine (qgm v43 x1 x2 true HT.out).mono ?_
   rintro e' v47 ⟨rfl,j48⟩
   refine hK _ _ ⟨fun _ _=>fun p hp=>Below.block (lz j44 j48) p hp,?_⟩
   clear hK K
   try simp only [Act.put,zp]
   refine zM 5 [5,6,7,8,9] ?_ ?_
   refine zS 11 [10,11,12,13,14,15,16,17,18,19,20] ?_ ?_
   refine zM 2 [21,22] ?_ ?_
   refine qa2 (by kernel_rfl) ?_ _
   have hn2:Hid (tOk xs (k+1)=true):=Lib.hid (by rw [HO2.out,decide_eq_true (show k=0 by omega)]; rfl)
   go_wp2
   go_roundw
   case rel=>exact⟨k+1,by go_num,by omega,hn2,hb.trans (Below.mono (lz j44 j48) lw)⟩
   case measure=>first | (simp [intOf]; done) | (simp [intOf]; omega)
 obtain rfl:k=n:=by omega
 have e2:code=0:=HC.out.symm.trans (qiy (by rw [HL.out]; exact hok.out) H8.out)
 subst e2
 go_wp2
 go_ret
 exact⟨rfl,hb⟩
end NoT
end Go.Proofs.YtmbppgjhdcmckaaGreatDoor
namespace Go.Proofs.YtmbppgjhdcmckaaGreatDoor
open Go.RowKit
namespace Ma
open Dp Dy
structure Fv where
 e:Int
 P:Pv
def qfb(w:World)(b o:Nat)(f:Fv):Prop:=w.cell? ⟨b,o,none⟩=some (.int .i64 f.e)/\qq7 w b (o+1) f.P
theorem qfb.blk{w w':World}{b o:Nat}{f:Fv}(h:qfb w b o f)(hk:w'.heap[b]? = w.heap[b]?):qfb w' b o f:=⟨by rw [World.cell?_of_block hk]; exact h.1,h.2.blk hk⟩
structure LFs(w:World)(lo hi:Nat)(A:Option Addr)(n:Nat)(fs:List Fv):Prop where
 len:fs.length=n
 big:n<=9223372036854775807
 row:0 < n->∃ b off,A=some ⟨b,off,none⟩/\lo<=b/\b < hi/\∀ j (h:j < fs.length),qfb w b (off+j*17) fs[j]
 rows:∀ j (h:j < fs.length),PRows w lo hi fs[j].P
theorem LFs.below{w w':World}{lo hi B:Nat}{A:Option Addr}{n:Nat}{fs:List Fv}(h:LFs w lo hi A n fs)(hb:Below B w w')(hB:hi<=B):LFs w' lo hi A n fs :=
 ⟨h.len,h.big,fun h0=>by
  obtain⟨b,off,e,h1,h2,hc⟩:=h.row h0
  exact⟨b,off,e,h1,h2,fun j hj=>(hc j hj).blk (hb.block b (by omega))⟩,fun j hj=>(h.rows j hj).below hb hB⟩
theorem LFs.more{w:World}{lo hi lo' hi':Nat}{A:Option Addr}{n:Nat}{fs:List Fv}(h:LFs w lo hi A n fs)(hl:lo'<=lo)(hh:hi<=hi'):LFs w lo' hi' A n fs :=
 ⟨h.len,h.big,fun h0=>by
  obtain⟨b,off,e,h1,h2,hc⟩:=h.row h0
  exact⟨b,off,e,by omega,by omega,hc⟩,fun j hj=>(h.rows j hj).more hl hh⟩
theorem LFs.on{w w':World}{A:Option Addr}{n:Nat}{fs:List Fv}(h:LFs w 0 w.heap.size A n fs)(hb:Below w.heap.size w w'):LFs w' 0 w'.heap.size A n fs:=(h.below hb (Nat.le_refl _)).more (Nat.le_refl _) hb.size
def qqz(p:Pv):Int:=(p.M.S.n:Int)+p.M.W.n+p.M.C.n+p.M.A.n+p.n
def qch(n:Nat)(fs:List Fv):Bool:=(decide (40 < n) && decide (n < 1024)) || decide (1028 < n) || fs.any fun f=>qbi f.P || (decide (40 < n) && decide (4 < qqz f.P))
def qcp(fs gs:List Fv):Bool:=decide (fs.length=gs.length) && (fs.zip gs).all fun x=>decide (x.1.e=x.2.e) && qbf x.1.P x.2.P
theorem qq4{f:Fv->Bool}:∀ {l:List Fv} {i:Nat} (h:i < l.length),f l[i]=true->l.any f=true
 | a::l,0,_,h=>by simp at h; simp [h]
 | a::l,i+1,h,k=>by
  have:=qq4 (f:=f) (l:=l) (i:=i) (by simpa using h) (by simpa using k)
  simp [this]
theorem qq3{f:Fv->Bool}{l:List Fv}(h:∀ i (hi:i < l.length),f l[i]=false):l.any f=false:=by
 cases hx:l.any f
 . rfl
 obtain⟨a,ha,k⟩:=List.any_eq_true.1 hx
 obtain⟨i,hi,rfl⟩:=List.mem_iff_getElem.1 ha
 rw [h i hi] at k
 cases k
theorem qc6{P:Program}{ops:Array Oper}{rest:List Oper}{op:Oper}{a:Act}{w:World}{Q:Exit->Act->World->Prop}(hgd:op.guard=none)(ty:TypeId)(x y:Operand)(ho:op.op=.store ty x y)(c c':Array Value)
  (hx:a.eval x=.pointer (some ⟨w.heap.size,0,none⟩)) (hy:a.eval y=.agg c') (hi:(P.info? ty).map (·.size)=some c'.size) (hs:c.size=c'.size) (h1:c'.all (·.oneCell')=true)
  (h:wpList P ops Q rest (a.put op.dst undef) (w.alloc (.cells c' ty))):wpList P ops Q (op::rest) a (w.alloc (.cells c ty)) :=
 wpList_plain hgd fun _ hK=>by
  unfold Oper.wp execOp
  simp only [ho,hx,hy,Instr.storeAt,Instr.sureAddr,Sem.run_bind,Sem.run_pure,Result.andThen_ok,run_storeVar_new w ty c c' hi hs h1]
  exact hK _ _ h
def qkh(w:World)(g:Nat)(f:Fv):Prop:=w.heap[g]? = some (.cells #[.int .i64 f.e,.bool f.P.M.S.s,.slice f.P.M.S.A f.P.M.S.n f.P.M.S.c,.int .i64 f.P.M.S.e,.bool f.P.M.W.s,.slice f.P.M.W.A f.P.M.W.n f.P.M.W.c,.int .i64 f.P.M.W.e,.bool f.P.M.C.s,.slice f.P.M.C.A f.P.M.C.n f.P.M.C.c,.int .i64 f.P.M.C.e,.bool f.P.M.A.s,.slice f.P.M.A.A f.P.M.A.n f.P.M.A.c,.int .i64 f.P.M.A.e,.bool f.P.h,.int .i64 f.P.mn,.int .i64 f.P.mx,.slice f.P.A f.P.n f.P.c] 115 (0,0))
theorem qkh.cell{w:World}{g:Nat}{f:Fv}(h:qkh w g f):(w.cell? ⟨g,0,none⟩=some (.int .i64 f.e)/\w.cell? ⟨g,1,none⟩=some (.bool f.P.M.S.s)/\w.cell? ⟨g,2,none⟩=some (.slice f.P.M.S.A f.P.M.S.n f.P.M.S.c)/\w.cell? ⟨g,3,none⟩=some (.int .i64 f.P.M.S.e)/\w.cell? ⟨g,4,none⟩=some (.bool f.P.M.W.s)/\w.cell? ⟨g,5,none⟩=some (.slice f.P.M.W.A f.P.M.W.n f.P.M.W.c)/\w.cell? ⟨g,6,none⟩=some (.int .i64 f.P.M.W.e)/\w.cell? ⟨g,7,none⟩=some (.bool f.P.M.C.s)/\w.cell? ⟨g,8,none⟩=some (.slice f.P.M.C.A f.P.M.C.n f.P.M.C.c)/\w.cell? ⟨g,9,none⟩=some (.int .i64 f.P.M.C.e)/\w.cell? ⟨g,10,none⟩=some (.bool f.P.M.A.s)/\w.cell? ⟨g,11,none⟩=some (.slice f.P.M.A.A f.P.M.A.n f.P.M.A.c)/\w.cell? ⟨g,12,none⟩=some (.int .i64 f.P.M.A.e)/\w.cell? ⟨g,13,none⟩=some (.bool f.P.h)/\w.cell? ⟨g,14,none⟩=some (.int .i64 f.P.mn)/\w.cell? ⟨g,15,none⟩=some (.int .i64 f.P.mx)/\w.cell? ⟨g,16,none⟩=some (.slice f.P.A f.P.n f.P.c))/\∀ k,w.frozen? ⟨g,k,none⟩=false:=by
 have hf:∀ k,w.frozen? ⟨g,k,none⟩=false:=fun k=>frozen_of_row w g k _ _ h
 have hc:∀ k v,(#[.int .i64 f.e,.bool f.P.M.S.s,.slice f.P.M.S.A f.P.M.S.n f.P.M.S.c,.int .i64 f.P.M.S.e,.bool f.P.M.W.s,.slice f.P.M.W.A f.P.M.W.n f.P.M.W.c,.int .i64 f.P.M.W.e,.bool f.P.M.C.s,.slice f.P.M.C.A f.P.M.C.n f.P.M.C.c,.int .i64 f.P.M.C.e,.bool f.P.M.A.s,.slice f.P.M.A.A f.P.M.A.n f.P.M.A.c,.int .i64 f.P.M.A.e,.bool f.P.h,.int .i64 f.P.mn,.int .i64 f.P.mx,.slice f.P.A f.P.n f.P.c]:Array Value)[k]? = some v->w.cell? ⟨g,k,none⟩=some v:=fun k v hk=>by
  unfold qkh at h
  simp [World.cell?,h]
  simpa using hk
 exact⟨⟨hc 0 _ rfl,hc 1 _ rfl,hc 2 _ rfl,hc 3 _ rfl,hc 4 _ rfl,hc 5 _ rfl,hc 6 _ rfl,hc 7 _ rfl,hc 8 _ rfl,hc 9 _ rfl,hc 10 _ rfl,hc 11 _ rfl,hc 12 _ rfl,hc 13 _ rfl,hc 14 _ rfl,hc 15 _ rfl,hc 16 _ rfl⟩,hf⟩
theorem qmc(w:World)(f:Fv):∃ U,w.alloc (.cells #[.int .i64 f.e,.bool f.P.M.S.s,.slice f.P.M.S.A f.P.M.S.n f.P.M.S.c,.int .i64 f.P.M.S.e,.bool f.P.M.W.s,.slice f.P.M.W.A f.P.M.W.n f.P.M.W.c,.int .i64 f.P.M.W.e,.bool f.P.M.C.s,.slice f.P.M.C.A f.P.M.C.n f.P.M.C.c,.int .i64 f.P.M.C.e,.bool f.P.M.A.s,.slice f.P.M.A.A f.P.M.A.n f.P.M.A.c,.int .i64 f.P.M.A.e,.bool f.P.h,.int .i64 f.P.mn,.int .i64 f.P.mx,.slice f.P.A f.P.n f.P.c] 115)=U/\qkh U w.heap.size f/\Below w.heap.size w U/\w.heap.size < U.heap.size :=
 ⟨_,rfl,heap_alloc_last _ _,(Below.refl _ w).alloc (Nat.le_refl _) _,by simp⟩
theorem qkh.range{w:World}{g:Nat}{f:Fv}(h:qkh w g f):w.rangeAt g 0 [.int .i64 f.e,.bool f.P.M.S.s,.slice f.P.M.S.A f.P.M.S.n f.P.M.S.c,.int .i64 f.P.M.S.e,.bool f.P.M.W.s,.slice f.P.M.W.A f.P.M.W.n f.P.M.W.c,.int .i64 f.P.M.W.e,.bool f.P.M.C.s,.slice f.P.M.C.A f.P.M.C.n f.P.M.C.c,.int .i64 f.P.M.C.e,.bool f.P.M.A.s,.slice f.P.M.A.A f.P.M.A.n f.P.M.A.c,.int .i64 f.P.M.A.e,.bool f.P.h,.int .i64 f.P.mn,.int .i64 f.P.mx,.slice f.P.A f.P.n f.P.c]:=fun j v hj=>by
 rw [Nat.zero_add]
 unfold qkh at h
 simp [World.cell?,h]
 simpa using hj
theorem qfb.flat{w:World}{b o:Nat}{f:Fv}(h:qfb w b o f):w.cell? ⟨b,o,none⟩=some (.int .i64 f.e)/\w.cell? ⟨b,o+1,none⟩=some (.bool f.P.M.S.s)/\w.cell? ⟨b,o+2,none⟩=some (.slice f.P.M.S.A f.P.M.S.n f.P.M.S.c)/\w.cell? ⟨b,o+3,none⟩=some (.int .i64 f.P.M.S.e)/\w.cell? ⟨b,o+4,none⟩=some (.bool f.P.M.W.s)/\w.cell? ⟨b,o+5,none⟩=some (.slice f.P.M.W.A f.P.M.W.n f.P.M.W.c)/\w.cell? ⟨b,o+6,none⟩=some (.int .i64 f.P.M.W.e)/\w.cell? ⟨b,o+7,none⟩=some (.bool f.P.M.C.s)/\w.cell? ⟨b,o+8,none⟩=some (.slice f.P.M.C.A f.P.M.C.n f.P.M.C.c)/\w.cell? ⟨b,o+9,none⟩=some (.int .i64 f.P.M.C.e)/\w.cell? ⟨b,o+10,none⟩=some (.bool f.P.M.A.s)/\w.cell? ⟨b,o+11,none⟩=some (.slice f.P.M.A.A f.P.M.A.n f.P.M.A.c)/\w.cell? ⟨b,o+12,none⟩=some (.int .i64 f.P.M.A.e)/\w.cell? ⟨b,o+13,none⟩=some (.bool f.P.h)/\w.cell? ⟨b,o+14,none⟩=some (.int .i64 f.P.mn)/\w.cell? ⟨b,o+15,none⟩=some (.int .i64 f.P.mx)/\w.cell? ⟨b,o+16,none⟩=some (.slice f.P.A f.P.n f.P.c):=by
 obtain⟨k_,k0,k1,k2,k3,k4,k5,k6,k7,k8,k9,k10,k11,k12,k13,k14,k15⟩:=h
 exact⟨k_,k0,k1,k2,k3,k4,k5,k6,k7,k8,k9,k10,k11,k12,k13,k14,k15⟩
theorem qfb.range{w:World}{b o:Nat}{f:Fv}(h:qfb w b o f):w.rangeAt b o [.int .i64 f.e,.bool f.P.M.S.s,.slice f.P.M.S.A f.P.M.S.n f.P.M.S.c,.int .i64 f.P.M.S.e,.bool f.P.M.W.s,.slice f.P.M.W.A f.P.M.W.n f.P.M.W.c,.int .i64 f.P.M.W.e,.bool f.P.M.C.s,.slice f.P.M.C.A f.P.M.C.n f.P.M.C.c,.int .i64 f.P.M.C.e,.bool f.P.M.A.s,.slice f.P.M.A.A f.P.M.A.n f.P.M.A.c,.int .i64 f.P.M.A.e,.bool f.P.h,.int .i64 f.P.mn,.int .i64 f.P.mx,.slice f.P.A f.P.n f.P.c]:=fun j v hj=>by
 obtain⟨k0,k1,k2,k3,k4,k5,k6,k7,k8,k9,k10,k11,k12,k13,k14,k15,k16⟩:=h.flat
 have hl:j < 17:=by
  rcases Nat.lt_or_ge j 17 with h'|h'
  . exact h'
  rw [List.getElem?_eq_none (by simpa using h')] at hj
  cases hj
 have hc:j=0∨j=1∨j=2∨j=3∨j=4∨j=5∨j=6∨j=7∨j=8∨j=9∨j=10∨j=11∨j=12∨j=13∨j=14∨j=15∨j=16:=by omega
 rcases hc with rfl|rfl|rfl|rfl|rfl|rfl|rfl|rfl|rfl|rfl|rfl|rfl|rfl|rfl|rfl|rfl|rfl<;>(simp at hj; subst hj; assumption)
theorem qkh.part{w:World}{g:Nat}{f:Fv}(h:qkh w g f):w.rangeAt g 1 (qbk f.P):=fun j v hj=>by
 have k:=h.range (j+1) v hj
 rw [Nat.zero_add,Nat.add_comm] at k
 exact k
theorem qfb.part{w:World}{b o:Nat}{f:Fv}(h:qfb w b o f):w.rangeAt b (o+1) (qbk f.P):=fun j v hj=>by
 have k:=h.range (j+1) v hj
 rw [show o+1+j=o+(j+1) by omega]
 exact k
end Ma
end Go.Proofs.YtmbppgjhdcmckaaGreatDoor
namespace Go.Proofs.YtmbppgjhdcmckaaGreatDoor
open Go.RowKit
namespace No
open De (Descs)
open Ma (Pv PRows LFs Fv qbk)
structure Nv where
 id:Int
 val:Int
 up:Bool
 kl:Int
 kt:Int
 ks:Int
 ke:Int
 kf:Int
 P:Pv
 wo:Bool
 wn:Int
 wt:Int
 hA:Option Addr
 hn:Nat
 hc:Nat
 hs:List Int
 own:Int
 cap:Int
 dA:Option Addr
 dn:Nat
 dc:Nat
 ds:List (Int×Int)
 fA:Option Addr
 fn:Nat
 fc:Nat
 fs:List Fv
 tA:Option Addr
 tn:Nat
 tc:Nat
 ts:List (Int×Int)
structure NRows(w:World)(lo hi:Nat)(v:Nv):Prop where
 P:PRows w lo hi v.P
 H:qae w lo hi .i64 v.hA v.hn v.hs
 D:Descs w lo hi v.dA v.dn v.ds
 F:LFs w lo hi v.fA v.fn v.fs
 T:Descs w lo hi v.tA v.tn v.ts
def cells33(v:Nv):List Value:=[.int .i64 v.id,.int .i64 v.val,.bool v.up,.int .i64 v.kl,.int .i64 v.kt,.int .i64 v.ks,.int .i64 v.ke,.int .i64 v.kf,.bool v.P.M.S.s,.slice v.P.M.S.A v.P.M.S.n v.P.M.S.c,.int .i64 v.P.M.S.e,.bool v.P.M.W.s,.slice v.P.M.W.A v.P.M.W.n v.P.M.W.c,.int .i64 v.P.M.W.e,.bool v.P.M.C.s,.slice v.P.M.C.A v.P.M.C.n v.P.M.C.c,.int .i64 v.P.M.C.e,.bool v.P.M.A.s,.slice v.P.M.A.A v.P.M.A.n v.P.M.A.c,.int .i64 v.P.M.A.e,.bool v.P.h,.int .i64 v.P.mn,.int .i64 v.P.mx,.slice v.P.A v.P.n v.P.c,.bool v.wo,.int .i64 v.wn,.int .i64 v.wt,.slice v.hA v.hn v.hc,.int .i64 v.own,.int .i64 v.cap,.slice v.dA v.dn v.dc,.slice v.fA v.fn v.fc,.slice v.tA v.tn v.tc]
def q0q(v:Nv):List Value:=[.int .i64 v.kl,.int .i64 v.kt,.int .i64 v.ks,.int .i64 v.ke,.int .i64 v.kf]
def qvv(v:Nv):List Value:=[.int .i64 v.own,.int .i64 v.cap,.slice v.dA v.dn v.dc]
theorem qf5(v:Nv):∀ u∈cells33 v,u.oneCell'=true:=by
 intro u hu
 simp only [cells33,List.mem_cons,List.not_mem_nil,or_false] at hu
 rcases hu with rfl|rfl|rfl|rfl|rfl|rfl|rfl|rfl|rfl|rfl|rfl|rfl|rfl|rfl|rfl|rfl|rfl|rfl|rfl|rfl|rfl|rfl|rfl|rfl|rfl|rfl|rfl|rfl|rfl|rfl|rfl|rfl|rfl<;>rfl
theorem NRows.below{w w':World}{lo hi B:Nat}{v:Nv}(h:NRows w lo hi v)(hb:Below B w w')(hB:hi<=B):NRows w' lo hi v :=
 ⟨h.P.below hb hB,h.H.below hb hB,h.D.below hb hB,h.F.below hb hB,h.T.below hb hB⟩
theorem NRows.more{w:World}{lo hi lo' hi':Nat}{v:Nv}(h:NRows w lo hi v)(hl:lo'<=lo)(hh:hi<=hi'):NRows w lo' hi' v :=
 ⟨h.P.more hl hh,h.H.more hl hh,h.D.more hl hh,h.F.more hl hh,h.T.more hl hh⟩
theorem NRows.on{w w':World}{v:Nv}(h:NRows w 0 w.heap.size v)(hb:Below w.heap.size w w'):NRows w' 0 w'.heap.size v:=(h.below hb (Nat.le_refl _)).more (Nat.le_refl _) hb.size
def qak(t:TypeId)(w:World)(g:Nat)(v:Nv):Prop:=w.heap[g]? = some (.cells #[.int .i64 v.id,.int .i64 v.val,.bool v.up,.int .i64 v.kl,.int .i64 v.kt,.int .i64 v.ks,.int .i64 v.ke,.int .i64 v.kf,.bool v.P.M.S.s,.slice v.P.M.S.A v.P.M.S.n v.P.M.S.c,.int .i64 v.P.M.S.e,.bool v.P.M.W.s,.slice v.P.M.W.A v.P.M.W.n v.P.M.W.c,.int .i64 v.P.M.W.e,.bool v.P.M.C.s,.slice v.P.M.C.A v.P.M.C.n v.P.M.C.c,.int .i64 v.P.M.C.e,.bool v.P.M.A.s,.slice v.P.M.A.A v.P.M.A.n v.P.M.A.c,.int .i64 v.P.M.A.e,.bool v.P.h,.int .i64 v.P.mn,.int .i64 v.P.mx,.slice v.P.A v.P.n v.P.c,.bool v.wo,.int .i64 v.wn,.int .i64 v.wt,.slice v.hA v.hn v.hc,.int .i64 v.own,.int .i64 v.cap,.slice v.dA v.dn v.dc,.slice v.fA v.fn v.fc,.slice v.tA v.tn v.tc] t (0,0))
theorem qak.range{t:TypeId}{w:World}{g:Nat}{v:Nv}(h:qak t w g v):w.rangeAt g 0 (cells33 v):=fun j u hj=>by
 rw [Nat.zero_add,cell_of_row w g j _ _ _ h]
 simpa [cells33] using hj
theorem qak.sub{t:TypeId}{w:World}{g:Nat}{v:Nv}(h:qak t w g v)(o:Nat)(l:List Value)(hl:(cells33 v).drop o=l++(cells33 v).drop (o+l.length)):w.rangeAt g o l:=fun j u hj=>by
 refine (qak.range h) (o+j) u ?_ |> fun k=>by simpa using k
 have h1:j < l.length:=(List.getElem?_eq_some_iff.1 hj).1
 have h2:(cells33 v)[o+j]? = ((cells33 v).drop o)[j]? := by rw [List.getElem?_drop]
 rw [h2,hl,List.getElem?_append_left h1]
 exact hj
theorem qak.part{t:TypeId}{w:World}{g:Nat}{v:Nv}(h:qak t w g v):w.rangeAt g 8 (qbk v.P):=qak.sub h 8 _ rfl
theorem qak.clock{t:TypeId}{w:World}{g:Nat}{v:Nv}(h:qak t w g v):w.rangeAt g 3 (q0q v):=qak.sub h 3 _ rfl
theorem qak.cache{t:TypeId}{w:World}{g:Nat}{v:Nv}(h:qak t w g v):w.rangeAt g 28 (qvv v):=qak.sub h 28 _ rfl
theorem qak.there{t:TypeId}{w:World}{g:Nat}{v:Nv}(h:qak t w g v):w.there g 0 33:=fun j hj =>
 ⟨by rw [(qak.range h) j _ (List.getElem?_eq_getElem (by simpa [cells33] using hj))]; rfl,frozen_of_row w g _ _ _ h⟩
theorem qak.at_{t:TypeId}{w:World}{g:Nat}{v:Nv}(h:qak t w g v)(j:Nat)(u:Value)(hj:(cells33 v)[j]? = some u):w.cell? ⟨g,j,none⟩=some u:=by
 have:=qak.range h j u hj
 rwa [Nat.zero_add] at this
theorem qb7(t:TypeId)(w:World)(v:Nv):∃ U,w.alloc (.cells #[.int .i64 v.id,.int .i64 v.val,.bool v.up,.int .i64 v.kl,.int .i64 v.kt,.int .i64 v.ks,.int .i64 v.ke,.int .i64 v.kf,.bool v.P.M.S.s,.slice v.P.M.S.A v.P.M.S.n v.P.M.S.c,.int .i64 v.P.M.S.e,.bool v.P.M.W.s,.slice v.P.M.W.A v.P.M.W.n v.P.M.W.c,.int .i64 v.P.M.W.e,.bool v.P.M.C.s,.slice v.P.M.C.A v.P.M.C.n v.P.M.C.c,.int .i64 v.P.M.C.e,.bool v.P.M.A.s,.slice v.P.M.A.A v.P.M.A.n v.P.M.A.c,.int .i64 v.P.M.A.e,.bool v.P.h,.int .i64 v.P.mn,.int .i64 v.P.mx,.slice v.P.A v.P.n v.P.c,.bool v.wo,.int .i64 v.wn,.int .i64 v.wt,.slice v.hA v.hn v.hc,.int .i64 v.own,.int .i64 v.cap,.slice v.dA v.dn v.dc,.slice v.fA v.fn v.fc,.slice v.tA v.tn v.tc] t)=U/\qak t U w.heap.size v/\Below w.heap.size w U/\w.heap.size < U.heap.size :=
 ⟨_,rfl,heap_alloc_last _ _,(Below.refl _ w).alloc (Nat.le_refl _) _,by simp⟩
def ZNv(i:Int):Nv:=⟨i,0,false,0,0,0,0,0,Ma.ZPv,false,0,0,none,0,0,[],0,0,none,0,0,[],none,0,0,[],none,0,0,[]⟩
theorem qy8(w:World)(lo hi:Nat)(i:Int):NRows w lo hi (ZNv i) :=
 ⟨⟨⟨qae.nil_ ..,qae.nil_ ..,qae.nil_ ..,qae.nil_ ..⟩,qae.nil_ ..⟩,qae.nil_ ..,Descs.nil_ ..,⟨rfl,Nat.zero_le _,fun h=>absurd h (Nat.lt_irrefl 0),fun _ h=>absurd h (Nat.not_lt_zero _)⟩,Descs.nil_ ..⟩
end No
end Go.Proofs.YtmbppgjhdcmckaaGreatDoor
namespace Go.Proofs.YtmbppgjhdcmckaaGreatDoor
open Go.RowKit
namespace Pa
theorem tagsSame_any(w:World)(lo hi lo' hi':Nat)(A A':Option Addr)(n c n' c':Nat)(xs ys:List Int)(hX:qae w lo hi .u32 A n xs)(hY:qae w lo' hi' .u32 A' n' ys)(r:Bool)(hr:Sm xs ys=r) :
  Calls Tryz.prog 46 #[.slice A n c,.slice A' n' c'] w fun e w'=>e=.returned (.bool r)/\∃ m,w'=w.drewN m:=by
 have HR:=Lib.hid hr
 have HX:=Lib.hid hX.len
 have HY:=Lib.hid hY.len
 have hbx:=hX.big
 have hby:=hY.big
 clear hr
 by_cases hnn:n=n'
 . subst hnn
   go_enter Tryz.func46,Tryz.ntmps46
   go_wp2
   go_loopw [5] (fun iv wr=>∃ k:Nat,iv=.int .i64 k/\k<=n/\Hid (xs.take k=ys.take k)/\∃ m,wr=w.drewN m) (fun iv _=>n-(intOf iv).toNat)
   case atStart=>exact⟨0,rfl,Nat.zero_le _,rfl,0,rfl⟩
   obtain⟨k,rfl,hk,htk,m,rfl⟩:=hrel
   by_cases hlt:k < n
   . obtain⟨b,off,rfl,_,_,hc⟩:=hX.row (by omega)
     obtain⟨b',off',rfl,_,_,hc'⟩:=hY.row (by omega)
     have g1:=(hc k hlt).1
     have g2:=(hc' k hlt).1
     have hk0:(0:Int)<=k:=by omega
     have hkn:(k:Int) < n:=by omega
     have hnx:Hid (xs[k]?.getD 0=ys[k]?.getD 0->xs.take (k+1)=ys.take (k+1)):=fun he=>qbh (by rw [HX.out]; exact hlt) (by rw [HY.out]; exact hlt) htk.out he
     have hno:Hid (xs[k]?.getD 0≠ys[k]?.getD 0->Sm xs ys=false):=fun he=>qs7 he
     clear hc hc'
     generalize xs[k]?.getD 0=x at g1 hnx hno
     generalize ys[k]?.getD 0=y at g2 hnx hno
     by_cases he:x=y
     . subst he
       have hn2:=Lib.hid (hnx.out rfl)
       have hne:(x != x)=false:=by simp
       go_wp2
       go_quiet (fail)
       go_wp2
       go_roundw
       case rel=>exact⟨k+1,by go_num,by omega,hn2,_,rfl⟩
       case measure=>simp [intOf]; omega
     have e2:r=false:=by rw [<-HR.out]; exact hno.out he
     subst e2
     have hne:(x != y)=true:=by simpa using he
     go_wp2
     go_quiet (fail)
     go_wp2
     go_ret
     exact⟨rfl,_,qb5 ..⟩
   obtain rfl:k=n:=by omega
   have e2:r=true:=by
    rw [<-HR.out]
    have:=htk.out
    rw [List.take_of_length_le (by rw [HX.out]; exact Nat.le_refl _),List.take_of_length_le (by rw [HY.out]; exact Nat.le_refl _)] at this
    rw [this]
    exact Sm_refl _
   subst e2
   go_wp2
   go_ret
   exact⟨rfl,m,rfl⟩
 have e2:r=false:=by rw [<-HR.out]; exact qk3 (by rw [HX.out,HY.out]; exact hnn)
 subst e2
 have hne:((n:Int) != n')=true:=by simpa using (show ¬ (n:Int)=n' by omega)
 have hne2:(n != n')=true:=by simpa using hnn
 go_enter Tryz.func46,Tryz.ntmps46
 go_wp2
 go_ret
 exact⟨rfl,0,rfl⟩
end Pa
end Go.Proofs.YtmbppgjhdcmckaaGreatDoor
namespace Go.Proofs.YtmbppgjhdcmckaaGreatDoor
open Go.RowKit
namespace Ma
open Dp Dy
attribute [local go_sem] Oper.semAt_some
theorem qtg(w:World)(a b:Mv)(hA:MRows w 0 w.heap.size a)(hBb:MRows w 0 w.heap.size b)(k:Bool)(hk:qfp a b=k) :
  Calls Tryz.prog 163 #[.agg #[.bool a.S.s,.slice a.S.A a.S.n a.S.c,.int .i64 a.S.e,.bool a.W.s,.slice a.W.A a.W.n a.W.c,.int .i64 a.W.e,.bool a.C.s,.slice a.C.A a.C.n a.C.c,.int .i64 a.C.e,.bool a.A.s,.slice a.A.A a.A.n a.A.c,.int .i64 a.A.e],.agg #[.bool b.S.s,.slice b.S.A b.S.n b.S.c,.int .i64 b.S.e,.bool b.W.s,.slice b.W.A b.W.n b.W.c,.int .i64 b.W.e,.bool b.C.s,.slice b.C.A b.C.n b.C.c,.int .i64 b.C.e,.bool b.A.s,.slice b.A.A b.A.n b.A.c,.int .i64 b.A.e]] w fun e w'=>e=.returned (.bool k)/\Below w.heap.size w w':=by
 have HK:=Lib.hid hk
 clear hk
 have hmx:Tryz.prog.follows .mixedOrders=true:=by kernel_rfl
 refine (callsIn_wide (n:=5)).1 ?_
 refine callsIn_of_wp_marks Tryz.func163 rfl trivial ?_ rfl
 simp only [Tryz.ntmps163,List.size_toArray,List.length_cons,List.length_nil,Nat.reduceAdd,Nat.reduceSub,Array.replicate_succ,Array.replicate_zero,List.push_toArray,List.append_toArray,List.nil_append,List.cons_append]
 gi_wp2_with fail
 refine⟨trivial,(callsIn_wide.2 (qi7 _ _ _)).mono ?_⟩
 rintro e w2 ⟨rfl,rfl⟩
 gi_wp2_with fail
 obtain⟨W0,hW0⟩:∃ W0,((((w.alloc (.cells #[.bool a.S.s,.slice a.S.A a.S.n a.S.c,.int .i64 a.S.e,.bool a.W.s,.slice a.W.A a.W.n a.W.c,.int .i64 a.W.e,.bool a.C.s,.slice a.C.A a.C.n a.C.c,.int .i64 a.C.e,.bool a.A.s,.slice a.A.A a.A.n a.A.c,.int .i64 a.A.e] 26)).alloc (.cells #[.bool b.S.s,.slice b.S.A b.S.n b.S.c,.int .i64 b.S.e,.bool b.W.s,.slice b.W.A b.W.n b.W.c,.int .i64 b.W.e,.bool b.C.s,.slice b.C.A b.C.n b.C.c,.int .i64 b.C.e,.bool b.A.s,.slice b.A.A b.A.n b.A.c,.int .i64 b.A.e] 26)).alloc (.cells #[.bool false] 4)).alloc (.cells #[.pointer (some ⟨w.heap.size,0,none⟩)] 185)).alloc (.cells #[.pointer (some ⟨w.heap.size+1,0,none⟩)] 185)=W0:=⟨_,rfl⟩
 obtain⟨⟨hM0,hN0,hE0,hS1,hS2⟩,hB0,hlo,hhi⟩:=qv0 w _ _ _ _ _ hW0
 rw [hW0]
 clear hW0
 refine qb3 (F:=Fence.wide) rfl (by decide) (gf:=190) (lb:=#[.pointer (some ⟨w.heap.size+1+1+1,0,none⟩),.pointer (some ⟨w.heap.size+1+1+1+1,0,none⟩)]) rfl trivial (enters_of Tryz.func190 (by kernel_rfl) rfl)
  (qi6 _ _ _ w.heap.size (w.heap.size+1) W0 ⟨hS1,hS2⟩) (by omega) (fun _=>rfl)
  (fun pre O W=>O (w.heap.size+1+1)/\(∀ x,x∈pre->x < 4->qdd (a.get x) (b.get x)=true)/\qaz W w.heap.size a/\qaz W (w.heap.size+1) b/\W.heap[w.heap.size+1+1]? = some (.cells #[.bool false] 4 (0,0))/\Below w.heap.size w W)
  (fun j pre O W=>j=.ret/\qfp a b=false/\W.heap[w.heap.size+1+1]? = some (.cells #[.bool false] 4 (0,0))/\Below w.heap.size w W)
  (fun O s A B row hs hg hr=>⟨hs.1,hs.2.1,qcx hs.2.2.1 hg (fun r e=>(hr r e).2),qcx hs.2.2.2.1 hg (fun r e=>(hr r e).2),qcx hs.2.2.2.2.1 hg (fun r e=>(hr r e).2),hs.2.2.2.2.2.grown hg hs.2.2.2.2.2.size (fun k e=>by have:=(hr k e).1; omega)⟩)
  (fun j O s A B row hs hg hr=>⟨hs.1,hs.2.1,qcx hs.2.2.1 hg (fun r e=>(hr r e).2),hs.2.2.2.grown hg hs.2.2.2.size (fun k e=>by have:=(hr k e).1; omega)⟩)
  (fun s O A B row hs hg hr=>⟨hs.1,hs.2.1,qb6 hs.2.2.1 hg hr (by omega),qb6 hs.2.2.2.1 hg hr (by omega),qb6 hs.2.2.2.2.1 hg hr (by omega),qcu hs.2.2.2.2.2 (Nat.le_refl _) hg hr (by omega)⟩)
  (fun j s O A B row hs hg hr=>⟨hs.1,hs.2.1,qb6 hs.2.2.1 hg hr (by omega),qcu hs.2.2.2 (Nat.le_refl _) hg hr (by omega)⟩)
  (fun k=>k=w.heap.size+1+1) (fun k hk e=>by omega) (fun k e=>by omega) ⟨rfl,(fun x hx=>absurd hx (List.not_mem_nil)),hM0,hN0,hE0,hB0⟩
  (fun x a' W=>a'={ tmps:=#[.agg #[.bool a.S.s,.slice a.S.A a.S.n a.S.c,.int .i64 a.S.e,.bool a.W.s,.slice a.W.A a.W.n a.W.c,.int .i64 a.W.e,.bool a.C.s,.slice a.C.A a.C.n a.C.c,.int .i64 a.C.e,.bool a.A.s,.slice a.A.A a.A.n a.A.c,.int .i64 a.A.e],.agg #[.bool b.S.s,.slice b.S.A b.S.n b.S.c,.int .i64 b.S.e,.bool b.W.s,.slice b.W.A b.W.n b.W.c,.int .i64 b.W.e,.bool b.C.s,.slice b.C.A b.C.n b.C.c,.int .i64 b.C.e,.bool b.A.s,.slice b.A.A b.A.n b.A.c,.int .i64 b.A.e],.pointer (some ⟨w.heap.size,0,none⟩),.pointer (some ⟨w.heap.size+1,0,none⟩),.pointer (some ⟨w.heap.size+1+1,0,none⟩),.pointer (some ⟨w.heap.size,3*x,none⟩),.pointer (some ⟨w.heap.size+1,3*x,none⟩),
   .func (.func 190) #[] #[.pointer (some ⟨w.heap.size+1+1+1,0,none⟩),.pointer (some ⟨w.heap.size+1+1+1+1,0,none⟩)],.pointer (some ⟨w.heap.size,3*x,none⟩),.pointer (some ⟨w.heap.size+1,3*x,none⟩),undef,undef,undef,undef,undef,undef,undef,undef],defers:=[] })
  (fun x a' _ _ _ _ h _ _=>h) ?assign ?body ?done ?stop
 case assign =>
  intro l pre x O W K hgx hsW hi hK
  unfold qx8
  gi_wp2
  exact hK _ _ (KeepsFrom.refl _ _) (qfr.refl _ _) hi rfl
 case body =>
  rintro l pre x O a' W ⟨hx4,hpre⟩ hsW ⟨hO,hall,hM,hN,hE,hb⟩ rfl _
  have hrow:qae W 0 W.heap.size .u32 (a.get x).A (a.get x).n (a.get x).xs:=((hA.get x).below hb (Nat.le_refl _)).more (Nat.le_refl _) hb.size
  have hrow2:qae W 0 W.heap.size .u32 (b.get x).A (b.get x).n (b.get x).xs:=((hBb.get x).below hb (Nat.le_refl _)).more (Nat.le_refl _) hb.size
  have hcm:=qaz.at_ hM hx4
  have hcn:=qaz.at_ hN hx4
  generalize hd:a.get x=d at hcm hrow
  generalize hd':b.get x=d' at hcn hrow2
  have HD:=Lib.hid hd
  have HD':=Lib.hid hd'
  clear hd hd'
  obtain⟨r,hr⟩:∃ r,qdd d d'=r:=⟨_,rfl⟩
  have HR:=Lib.hid hr
  clear hr
  gi_wp2
  refine qgi (qan W) [] (m:=8) (L:=#[zF,zF,zF,zF,zF,zF,zF,zF]) hmx (by kernel_rfl) (fun _ _ h=>h) (by rfl) (by rfl) ?_
  have kD:qan W W.drew:=fun _ _=>rfl
  refine zM 2 [0,1] ?_ ?_
  refine zD 2 (.agg #[.bool d.s,.slice d.A d.n d.c,.int .i64 d.e]) rfl ?ry2 ?rr2
  case ry2 =>
   intro w' h1
   obtain⟨⟨k1,k2,k3⟩,_⟩:=qaz.at_ ((h1 _ (by omega)).trans hM) hx4
   rw [HD.out] at k1 k2 k3
   go_simp
  try simp only [Act.put,zp]
  refine zM 2 [3,4] ?_ ?_
  refine zD 5 (.agg #[.bool d'.s,.slice d'.A d'.n d'.c,.int .i64 d'.e]) rfl ?ry5 ?rr5
  case ry5 =>
   intro w' h1
   obtain⟨⟨k1,k2,k3⟩,_⟩:=qaz.at_ ((h1 _ (by omega)).trans hN) hx4
   rw [HD'.out] at k1 k2 k3
   go_simp
  try simp only [Act.put,zp]
  refine zK 6 rfl fun K hK=>?_
  go_simp
  go_at_call 43
  refine (Pa.dyadSame_any W.drew _ _ _ _ _ _ _ _ _ _ _ _ (hrow.drewN 1) (hrow2.drewN 1) r HR.out).mono ?_
  rintro e W2 ⟨rfl,hB'⟩
  have hB:Below W.heap.size W W2:=(Below.refl _ W).drew.trans hB'
  clear hB'
  refine hK _ _ ⟨fun _ _ p hp=>hB.block p hp,?_⟩
  clear hK K
  try simp only [Act.put,zp]
  refine zM 1 [7] ?_ ?_
  refine qa2 (by kernel_rfl) ?_ _
  have hE2:=qb2 hE hB (by omega)
  obtain⟨e3,e4⟩:=qb1 hE2
  cases r
  . gi_wp2
    refine⟨(qdn hB).trans ((KeepsOthers.setCell _ _ _).from _),O,(qd9 hB).trans (qgu hO _),rfl,?_,set1 hE2 _,(hb.trans (hB.mono hb.size)).setCell (by simp<;>omega) _⟩
    refine Bool.eq_false_iff.2 fun h=>?_
    have:=(qmq a b).1 h x hx4
    rw [HD.out,HD'.out,HR.out] at this
    cases this
  gi_wp2
  refine⟨qdn hB,O,qd9 hB,hO,fun y hy hy4=>?_,qb2 hM hB (by omega),qb2 hN hB (by omega),hE2,hb.trans (hB.mono hb.size)⟩
  rcases List.mem_append.1 hy with h|h
  . exact hall y h hy4
  rw [List.mem_singleton.1 h,HD.out,HD'.out]
  exact HR.out
 case done =>
  rintro D ys O W hD hS ⟨hO,hall,hM,hN,hE,hb⟩ hK
  obtain⟨e1,e2⟩:=qb1 hE
  have hk:=HK.out
  rw [show qfp a b=true from (qmq a b).2 fun x hx=>hall x (by rw [hS]; simp; omega) hx] at hk
  subst hk
  clear hS hall
  gi_wp2
  have hK':=(KeepsOthers.setCell W ⟨w.heap.size+1+1,0,none⟩ (.bool true)).same D _ hK rfl
  have c1:=qb1 ((World.putObj_heap_other (o:=.deferred none) (by omega:w.heap.size+1+1≠D)).trans (set1 hE (.bool true)))
  refine⟨by simp,.inl ⟨_,_,rfl,run_takeDeferred hK',?_⟩⟩
  refine⟨.bool true,?_,rfl,?_⟩
  . simp [results,Tryz.f163,go_sem,c1.1]
  exact (hb.setCell (by simp<;>omega) _).trans (belowK_b (w:=w) (Nat.le_refl _) _ D _ _ (by omega) hK' rfl rfl)
 case stop =>
  rintro D j pre O W hD hSp ⟨rfl,hm,hE,hb⟩ hK
  have hk:=HK.out
  rw [hm] at hk
  subst hk
  gi_wp2
  have c1:=qb1 ((World.putObj_heap_other (o:=.deferred none) (by omega:w.heap.size+1+1≠D)).trans hE)
  refine⟨by simp,.inl ⟨_,_,rfl,run_takeDeferred hK,?_⟩⟩
  refine⟨.bool false,?_,rfl,?_⟩
  . simp [results,Tryz.f163,go_sem,c1.1]
  exact hb.trans (belowK_b (w:=w) (Nat.le_refl _) _ D _ _ (by omega) hK rfl rfl)
end Ma
end Go.Proofs.YtmbppgjhdcmckaaGreatDoor