/- A node and its copy answer alike. No program in sight. -/
import Derived.Test.YtmbppgjhdcmckaaGreatDoorBj29
set_option maxHeartbeats 102400000
set_option maxRecDepth 100000
namespace Go.Proofs.YtmbppgjhdcmckaaGreatDoor
open Go.RowKit
namespace No
open Ma
open Dp Dy
theorem qri{v u:Nv}(h:qny v u):qmp u v=true:=by
 obtain⟨h0,h1,h2,h3,h4,h5,h6,h7,hP,h8,h9,h10,_,hH,h11,h12,_,hD,_,hF,_,hT⟩:=h
 unfold qmp qge qgd De.sameC
 rw [h0,h1,h2,h3,h4,h5,h6,h7,h8,h9,h10,hH,h11,h12,hD,hT,qn8 hP,qrj hF,Pa.Sm_refl,De.Sm_refl,De.Sm_refl]
 simp
theorem qsc{v u:Nv}(h:qny v u):qe1 u=qe1 v:=by
 obtain⟨h0,h1,h2,h3,h4,h5,h6,h7,hP,h8,h9,h10,_,hH,h11,h12,_,hD,hn,hF,_,hT⟩:=h
 unfold qe1
 rw [hn]
 by_cases hlt:v.fn-1 < v.fs.length
 . have hlt':v.fn-1 < u.fs.length:=by rw [hF.1]; exact hlt
   rw [List.getElem?_eq_getElem hlt,List.getElem?_eq_getElem hlt']
   simp [(hF.2 _ hlt hlt').1]
 rw [List.getElem?_eq_none (by rw [hF.1]; omega),List.getElem?_eq_none (by omega)]
theorem qus{v u:Nv}(h:qny v u):qir u=qir v:=by
 have hl:=qsc h
 obtain⟨h0,h1,h2,h3,h4,h5,h6,h7,hP,h8,h9,h10,_,hH,h11,h12,_,hD,hn,hF,_,hT⟩:=h
 unfold qir qbl qc9 qen qc8 qem qel qd2 qd1 qft qix qft qmp qge qgd
 rw [hl,h0,h1,h2,h3,h4,h5,h6,h7,h8,h9,h10,hH,h11,h12,hD,hT,hn,qqk hP,qjp hF,qfd (r:=ZPv) hP,qfd (r:=(ZNv v.id).P) hP,qp7 hF]
theorem qhl{v u:Nv}(h:qny v u)(e:Int):qdk u e=qdk v e:=by
 have hm:=qus h
 obtain⟨h0,h1,h2,h3,h4,h5,h6,h7,hP,h8,h9,h10,_,hH,h11,h12,_,hD,hn,hF,_,hT⟩:=h
 unfold qdk
 rw [hm,h2,h6,h7,hn,qvc hF]
theorem qkq{v u:Nv}(h:qny v u)(e:Int):qbv (qc7 v e) (qc7 u e):=by
 have hc:=qhl h e
 obtain⟨h0,h1,h2,h3,h4,h5,h6,h7,hP,h8,h9,h10,_,hH,h11,h12,_,hD,hn,hF,_,hT⟩:=h
 unfold qc7
 rw [hc,h6,h7]
 split
 . split
   . exact hP
   exact qva hF
 exact qhc
theorem qr3{v u:Nv}(h:qny v u)(kind e k:Int):qig u kind e k=qig v kind e k:=by
 unfold qig
 rw [qhl h,qjy (qkq h e)]
theorem qjg{p q:Pv}(h:qbv p q):qbi q=qbi p:=by
 have h0:=h.1 0 (by decide)
 have h1:=h.1 1 (by decide)
 have h2:=h.1 2 (by decide)
 have h3:=h.1 3 (by decide)
 have hd:∀ {a b:Dv},qet a b->b.great=a.great:=fun {a b} h=>by
  unfold Dv.great
  rw [h.1,h.2.2.1,h.2.2.2.1]
 have e0:q.M.S.great=p.M.S.great:=hd h0
 have e1:q.M.W.great=p.M.W.great:=hd h1
 have e2:q.M.C.great=p.M.C.great:=hd h2
 have e3:q.M.A.great=p.M.A.great:=hd h3
 unfold qbi qh6
 rw [e0,e1,e2,e3,h.2.2.2.2.1]
theorem qv3{p q:Pv}(h:qbv p q):qqz q=qqz p:=by
 have e0:q.M.S.n=p.M.S.n:=(h.1 0 (by decide)).2.1
 have e1:q.M.W.n=p.M.W.n:=(h.1 1 (by decide)).2.1
 have e2:q.M.C.n=p.M.C.n:=(h.1 2 (by decide)).2.1
 have e3:q.M.A.n=p.M.A.n:=(h.1 3 (by decide)).2.1
 unfold qqz
 rw [e0,e1,e2,e3,h.2.2.2.2.1]
theorem qq1{F:Fv->Bool}(hF:∀ f g:Fv,g.e=f.e->qbv f.P g.P->F g=F f):∀ {fs gs:List Fv},qe8 fs gs->gs.any F=fs.any F
 | [],gs,h=>by
  obtain rfl:gs=[]:=List.length_eq_zero_iff.1 h.1
  rfl
 | f::fs,[],h=>absurd h.1 (by simp)
 | f::fs,g::gs,h=>by
  have h0:=h.2 0 (by simp) (by simp)
  simp only [List.getElem_cons_zero] at h0
  have ht:qe8 fs gs:=⟨by simpa using h.1,fun j h1 h2=>by
   have:=h.2 (j+1) (by simp; omega) (by simp; omega)
   simpa using this⟩
  simp only [List.any_cons]
  rw [hF f g h0.1 h0.2,qq1 hF ht]
theorem qov{n:Nat}{fs gs:List Fv}(h:qe8 fs gs):qch n gs=qch n fs:=by
 unfold qch
 rw [qq1 (fun f g _ hp=>by rw [qjg hp,qv3 hp]) h]
end No
end Go.Proofs.YtmbppgjhdcmckaaGreatDoor
namespace Go.Proofs.YtmbppgjhdcmckaaGreatDoor
open Go.RowKit
namespace NoT
open De (Descs Sm qbe Rng)
open Dy
theorem RSameT_any(w:World)(lo hi lo' hi':Nat)(A A':Option Addr)(n c n' c':Nat)(xs ys:List (Int×Int))(hX:Descs w lo hi A n xs)(hY:Descs w lo' hi' A' n' ys)(r:Bool)(hr:Sm xs ys=r) :
  Calls Tryz.prog 60 #[.slice A n c,.slice A' n' c'] w fun e w'=>e=.returned (.bool r)/\∃ m,w'=w.drewN m:=by
 have HR:=Lib.hid hr
 have HL:=Lib.hid hX.len
 have HL':=Lib.hid hY.len
 have hbig:=hX.big
 have hbig':=hY.big
 clear hr
 by_cases hn:n=n'
 . subst hn
   have hne:((n:Int) != (n:Int))=false:=by simp
   go_enter Tryz.func60,Tryz.ntmps60
   go_wp2
   go_loopw [5] (fun i wr=>∃ k m:Nat,i=.int .i64 k/\k<=n/\Hid (xs.take k=ys.take k)/\wr=w.drewN m) (fun i _=>n-(intOf i).toNat)
   case atStart=>exact⟨0,0,rfl,Nat.zero_le _,rfl,rfl⟩
   obtain⟨k,m,rfl,hk,heq,rfl⟩:=hrel
   by_cases hlt:k < n
   . obtain⟨b,off,rfl,h1,h2,hc⟩:=hX.row (by omega)
     obtain⟨b',off',rfl,h1',h2',hc'⟩:=hY.row (by omega)
     obtain⟨⟨g1,_⟩,g3,_⟩:=hc k hlt
     obtain⟨⟨f1,_⟩,f3,_⟩:=hc' k hlt
     clear hc hc'
     have hkn:(k:Int) < n:=by omega
     have hk0:(0:Int)<=k:=by omega
     generalize hx:xs[k]?.getD (0,0)=x at g1 g3
     generalize hy:ys[k]?.getD (0,0)=y at f1 f3
     obtain⟨x1,x2⟩:=x
     obtain⟨y1,y2⟩:=y
     have HX:=Lib.hid hx
     have HY:=Lib.hid hy
     obtain⟨s1,hs1⟩:∃ s,(x1 != y1)=s:=⟨_,rfl⟩
     obtain⟨s2,hs2⟩:∃ s,(x2 != y2)=s:=⟨_,rfl⟩
     have hno:Hid (s1=true∨s2=true->r=false):=fun hs=>by
      rw [<-HR.out]
      unfold Sm
      rw [beq_eq_false_iff_ne]
      intro h
      have h3:=HX.out
      rw [h,HY.out] at h3
      have h4:=Prod.mk.inj h3
      rcases hs with hs|hs
      . rw [<-hs1,h4.1] at hs; simp at hs
      rw [<-hs2,h4.2] at hs; simp at hs
     have hye:Hid (s1=false->s2=false->xs.take (k+1)=ys.take (k+1)):=fun h1 h2=>by
      refine qiz (by rw [HL.out]; exact hlt) (by rw [HL'.out]; exact hlt) heq.out ?_
      rw [HX.out,HY.out]
      rw [<-hs1] at h1
      rw [<-hs2] at h2
      have e1:x1=y1:=by simpa using h1
      have e2:x2=y2:=by simpa using h2
      rw [e1,e2]
     clear hx hy
     cases s1
     . cases s2
       . have hn2:=Lib.hid (hye.out rfl rfl)
         go_wp2
         go_quiet (fail)
         go_wp2
         go_roundw
         case rel=>exact⟨k+1,_,by go_num,by omega,hn2,rfl⟩
         case measure=>simp [intOf]; omega
       obtain rfl:r=false:=hno.out (.inr rfl)
       go_wp2
       go_quiet (fail)
       go_wp2
       go_ret
       exact⟨rfl,_,World.drewN_drewN _ _ _⟩
     obtain rfl:r=false:=hno.out (.inl rfl)
     go_wp2
     go_quiet (fail)
     go_wp2
     go_ret
     exact⟨rfl,_,World.drewN_drewN _ _ _⟩
   obtain rfl:k=n:=by omega
   have e:r=true:=by
    rw [<-HR.out]
    unfold Sm
    have h:=heq.out
    rw [List.take_of_length_le (by rw [HL.out]; exact Nat.le_refl _),List.take_of_length_le (by rw [HL'.out]; exact Nat.le_refl _)] at h
    rw [h]
    exact beq_self_eq_true _
   subst e
   clear heq
   go_wp2
   go_ret
   exact⟨rfl,_,rfl⟩
 have hne:((n:Int) != (n':Int))=true:=by rw [bne_iff_ne]; omega
 have e:r=false:=by
  rw [<-HR.out]
  unfold Sm
  rw [beq_eq_false_iff_ne]
  intro h
  have h1:=HL.out
  have h2:=HL'.out
  rw [h] at h1
  omega
 subst e
 go_enter Tryz.func60,Tryz.ntmps60
 go_wp2
 go_ret
 exact⟨rfl,0,rfl⟩
end NoT
namespace No
open Ma (Pv PRows qbf qcp)
open Dy
open De (sameC)
theorem qyr(w:World)(A A':Option Addr)(n c n' c':Nat)(xs ys:List Int)(hX:qae w 0 w.heap.size .i64 A n xs)(hY:qae w 0 w.heap.size .i64 A' n' ys)(r:Bool)(hr:Pa.Sm xs ys=r) :
  Calls Tryz.prog 57 #[.slice A n c,.slice A' n' c'] w fun e w'=>e=.returned (.bool r)/\Below w.heap.size w w':=qej (qtc w 0 _ 0 _ A A' n c n' c' xs ys hX hY r hr)
theorem qyq(w:World)(A A':Option Addr)(n c n' c':Nat)(xs ys:List (Int×Int))(hX:De.Descs w 0 w.heap.size A n xs)(hY:De.Descs w 0 w.heap.size A' n' ys)(r:Bool)(hr:De.Sm xs ys=r) :
  Calls Tryz.prog 60 #[.slice A n c,.slice A' n' c'] w fun e w'=>e=.returned (.bool r)/\Below w.heap.size w w':=qej (NoT.RSameT_any w 0 _ 0 _ A A' n c n' c' xs ys hX hY r hr)
theorem qh1(w:World)(a b:Nv)(hA:NRows w 0 w.heap.size a)(hB:NRows w 0 w.heap.size b)(k:Bool)(hk:qmp a b=k) :
  Calls Tryz.prog 29 #[.agg #[.int .i64 a.id,.int .i64 a.val,.bool a.up,.int .i64 a.kl,.int .i64 a.kt,.int .i64 a.ks,.int .i64 a.ke,.int .i64 a.kf,.bool a.P.M.S.s,.slice a.P.M.S.A a.P.M.S.n a.P.M.S.c,.int .i64 a.P.M.S.e,.bool a.P.M.W.s,.slice a.P.M.W.A a.P.M.W.n a.P.M.W.c,.int .i64 a.P.M.W.e,.bool a.P.M.C.s,.slice a.P.M.C.A a.P.M.C.n a.P.M.C.c,.int .i64 a.P.M.C.e,.bool a.P.M.A.s,.slice a.P.M.A.A a.P.M.A.n a.P.M.A.c,.int .i64 a.P.M.A.e,.bool a.P.h,.int .i64 a.P.mn,.int .i64 a.P.mx,.slice a.P.A a.P.n a.P.c,.bool a.wo,.int .i64 a.wn,.int .i64 a.wt,.slice a.hA a.hn a.hc,.int .i64 a.own,.int .i64 a.cap,.slice a.dA a.dn a.dc,.slice a.fA a.fn a.fc,.slice a.tA a.tn a.tc],.agg #[.int .i64 b.id,.int .i64 b.val,.bool b.up,.int .i64 b.kl,.int .i64 b.kt,.int .i64 b.ks,.int .i64 b.ke,.int .i64 b.kf,.bool b.P.M.S.s,.slice b.P.M.S.A b.P.M.S.n b.P.M.S.c,.int .i64 b.P.M.S.e,.bool b.P.M.W.s,.slice b.P.M.W.A b.P.M.W.n b.P.M.W.c,.int .i64 b.P.M.W.e,.bool b.P.M.C.s,.slice b.P.M.C.A b.P.M.C.n b.P.M.C.c,.int .i64 b.P.M.C.e,.bool b.P.M.A.s,.slice b.P.M.A.A b.P.M.A.n b.P.M.A.c,.int .i64 b.P.M.A.e,.bool b.P.h,.int .i64 b.P.mn,.int .i64 b.P.mx,.slice b.P.A b.P.n b.P.c,.bool b.wo,.int .i64 b.wn,.int .i64 b.wt,.slice b.hA b.hn b.hc,.int .i64 b.own,.int .i64 b.cap,.slice b.dA b.dn b.dc,.slice b.fA b.fn b.fc,.slice b.tA b.tn b.tc]] w fun e w'=>e=.returned (.bool k)/\Below w.heap.size w w':=by
 obtain⟨w1,hw1,bA,ja,S1⟩:=qb7 63 w a
 obtain⟨w2,hw2,bB,jb,S2⟩:=qb7 63 w1 b
 have s1:=ja.size
 have jw:Below w.heap.size w w2:=lz ja jb
 have s2:=jb.size
 have SA:w.heap.size < w2.heap.size:=by omega
 replace bA:qak 63 w2 w.heap.size a:=(jb.block _ S1).trans bA
 have HK:Hid (k=((a.id==b.id) && ((a.val==b.val) && ((a.up==b.up) && (qge a b && (qgd a b && (qbf a.P b.P && (Pa.Sm a.hs b.hs && (sameC a.own a.cap a.ds b.own b.cap b.ds && (qcp a.fs b.fs && De.Sm a.ts b.ts)))))))))):=Lib.hid hk.symm
 clear hk ja jb s2 S1 s1
 obtain⟨t0,h0⟩:∃ t,(a.id==b.id)=t:=⟨_,rfl⟩
 obtain⟨t1,h1⟩:∃ t,(a.val==b.val)=t:=⟨_,rfl⟩
 obtain⟨t2,h2⟩:∃ t,(a.up==b.up)=t:=⟨_,rfl⟩
 obtain⟨t3,h3⟩:∃ t,qge a b=t:=⟨_,rfl⟩
 obtain⟨t4,h4⟩:∃ t,qgd a b=t:=⟨_,rfl⟩
 obtain⟨t5,h5⟩:∃ t,qbf a.P b.P=t:=⟨_,rfl⟩
 obtain⟨t6,h6⟩:∃ t,Pa.Sm a.hs b.hs=t:=⟨_,rfl⟩
 obtain⟨t7,h7⟩:∃ t,sameC a.own a.cap a.ds b.own b.cap b.ds=t:=⟨_,rfl⟩
 obtain⟨t8,h8⟩:∃ t,qcp a.fs b.fs=t:=⟨_,rfl⟩
 obtain⟨t9,h9⟩:∃ t,De.Sm a.ts b.ts=t:=⟨_,rfl⟩
 have H5:=Lib.hid h5
 have H6:=Lib.hid h6
 have H7:=Lib.hid h7
 have H8:=Lib.hid h8
 have H9:=Lib.hid h9
 rw [h0,h1,h2,h3,h4,h5,h6,h7,h8,h9] at HK
 clear h5 h6 h7 h8 h9
 unfold qge at h3
 unfold qgd at h4
 have q3:=fun W=>neqCl W a.kl a.kt a.ks a.ke a.kf b.kl b.kt b.ks b.ke b.kf
 have q4:=fun W=>neqWt W a.wo a.wn a.wt b.wo b.wn b.wt
 rw [h3] at q3
 rw [h4] at q4
 clear h3 h4
 have n0:(a.id != b.id)=!t0:=by rw [bne,h0]
 have n1:(a.val != b.val)=!t1:=by rw [bne,h1]
 have n2:=h2
 clear h0 h1 h2
 go_enter Tryz.func29,Tryz.ntmps29
 go_upto_region 1 with fail
 try rw [hw1]
 try rw [hw2]
 try clear hw1
 try clear hw2
 have p0:w2.cell? ⟨w.heap.size,0,none⟩=some (.int .i64 a.id):=qak.at_ bA 0 _ rfl
 have p1:w2.cell? ⟨w.heap.size,1,none⟩=some (.int .i64 a.val):=qak.at_ bA 1 _ rfl
 have p2:w2.cell? ⟨w.heap.size,2,none⟩=some (.bool a.up):=qak.at_ bA 2 _ rfl
 have p3:w2.cell? ⟨w.heap.size,3,none⟩=some (.int .i64 a.kl):=qak.at_ bA 3 _ rfl
 have p4:w2.cell? ⟨w.heap.size,4,none⟩=some (.int .i64 a.kt):=qak.at_ bA 4 _ rfl
 have p5:w2.cell? ⟨w.heap.size,5,none⟩=some (.int .i64 a.ks):=qak.at_ bA 5 _ rfl
 have p6:w2.cell? ⟨w.heap.size,6,none⟩=some (.int .i64 a.ke):=qak.at_ bA 6 _ rfl
 have p7:w2.cell? ⟨w.heap.size,7,none⟩=some (.int .i64 a.kf):=qak.at_ bA 7 _ rfl
 have p24:w2.cell? ⟨w.heap.size,24,none⟩=some (.bool a.wo):=qak.at_ bA 24 _ rfl
 have p25:w2.cell? ⟨w.heap.size,25,none⟩=some (.int .i64 a.wn):=qak.at_ bA 25 _ rfl
 have p26:w2.cell? ⟨w.heap.size,26,none⟩=some (.int .i64 a.wt):=qak.at_ bA 26 _ rfl
 have q_0:w2.cell? ⟨w1.heap.size,0,none⟩=some (.int .i64 b.id):=qak.at_ bB 0 _ rfl
 have q_1:w2.cell? ⟨w1.heap.size,1,none⟩=some (.int .i64 b.val):=qak.at_ bB 1 _ rfl
 have q_2:w2.cell? ⟨w1.heap.size,2,none⟩=some (.bool b.up):=qak.at_ bB 2 _ rfl
 have q_3:w2.cell? ⟨w1.heap.size,3,none⟩=some (.int .i64 b.kl):=qak.at_ bB 3 _ rfl
 have q_4:w2.cell? ⟨w1.heap.size,4,none⟩=some (.int .i64 b.kt):=qak.at_ bB 4 _ rfl
 have q_5:w2.cell? ⟨w1.heap.size,5,none⟩=some (.int .i64 b.ks):=qak.at_ bB 5 _ rfl
 have q_6:w2.cell? ⟨w1.heap.size,6,none⟩=some (.int .i64 b.ke):=qak.at_ bB 6 _ rfl
 have q_7:w2.cell? ⟨w1.heap.size,7,none⟩=some (.int .i64 b.kf):=qak.at_ bB 7 _ rfl
 have q_24:w2.cell? ⟨w1.heap.size,24,none⟩=some (.bool b.wo):=qak.at_ bB 24 _ rfl
 have q_25:w2.cell? ⟨w1.heap.size,25,none⟩=some (.int .i64 b.wn):=qak.at_ bB 25 _ rfl
 have q_26:w2.cell? ⟨w1.heap.size,26,none⟩=some (.int .i64 b.wt):=qak.at_ bB 26 _ rfl
 cases t0
 case false =>
  obtain rfl:k=false:=HK.out
  go_wp2
  go_ret
  exact⟨rfl,jw⟩
 cases t1
 case false =>
  obtain rfl:k=false:=HK.out
  go_wp2
  go_ret
  exact⟨rfl,jw⟩
 cases t2
 case false =>
  obtain rfl:k=false:=HK.out
  go_wp2
  go_ret
  exact⟨rfl,jw⟩
 cases t3
 case false =>
  obtain rfl:k=false:=HK.out
  go_wp2
  go_ret
  exact⟨rfl,jw⟩
 cases t4
 case false =>
  obtain rfl:k=false:=HK.out
  go_wp2
  go_ret
  exact⟨rfl,jw⟩
 have ra:=qak.part bA
 have rb:=qak.part bB
 go_wp2_with (first
  | (refine wpList_load_mid rfl 30 (.tmp 38) rfl (w.heap.size) 8 rfl [.bool a.P.M.S.s,.slice a.P.M.S.A a.P.M.S.n a.P.M.S.c,.int .i64 a.P.M.S.e,.bool a.P.M.W.s,.slice a.P.M.W.A a.P.M.W.n a.P.M.W.c,.int .i64 a.P.M.W.e,.bool a.P.M.C.s,.slice a.P.M.C.A a.P.M.C.n a.P.M.C.c,.int .i64 a.P.M.C.e,.bool a.P.M.A.s,.slice a.P.M.A.A a.P.M.A.n a.P.M.A.c,.int .i64 a.P.M.A.e,.bool a.P.h,.int .i64 a.P.mn,.int .i64 a.P.mx,.slice a.P.A a.P.n a.P.c] _ ra Tryz.underlying30 rfl (by kernel_rfl) ?_)
  | (refine wpList_load_mid rfl 30 (.tmp 40) rfl (w1.heap.size) 8 rfl [.bool b.P.M.S.s,.slice b.P.M.S.A b.P.M.S.n b.P.M.S.c,.int .i64 b.P.M.S.e,.bool b.P.M.W.s,.slice b.P.M.W.A b.P.M.W.n b.P.M.W.c,.int .i64 b.P.M.W.e,.bool b.P.M.C.s,.slice b.P.M.C.A b.P.M.C.n b.P.M.C.c,.int .i64 b.P.M.C.e,.bool b.P.M.A.s,.slice b.P.M.A.A b.P.M.A.n b.P.M.A.c,.int .i64 b.P.M.A.e,.bool b.P.h,.int .i64 b.P.mn,.int .i64 b.P.mx,.slice b.P.A b.P.n b.P.c] _ rb Tryz.underlying30 rfl (by kernel_rfl) ?_))
 refine (Ma.RSamePart_any w2 a.P b.P (NRows.on hA jw).P (NRows.on hB jw).P t5 H5.out).mono ?_
 rintro e' v11 ⟨rfl,j12⟩
 try clear hw
 clear ra rb p0 p1 p2 p3 p4 p5 p6 p7 p24 p25 p26 q_0 q_1 q_2 q_3 q_4 q_5 q_6 q_7 q_24 q_25 q_26 q3 q4
 try clear hw1
 try clear hw2
 clear n0 n1 n2
 cases t5
 case false =>
  obtain rfl:k=false:=HK.out
  go_wp2
  go_ret
  exact⟨rfl,(lz jw j12)⟩
 have p27:v11.cell? ⟨w.heap.size,27,none⟩=some (.slice a.hA a.hn a.hc):=qak.at_ (qaa bA j12 SA) 27 _ rfl
 have q_27:v11.cell? ⟨w1.heap.size,27,none⟩=some (.slice b.hA b.hn b.hc):=qak.at_ (qaa bB j12 S2) 27 _ rfl
 go_wp2_with fail
 refine (qyr v11 a.hA b.hA a.hn a.hc b.hn b.hc a.hs b.hs (NRows.on hA (lz jw j12)).H (NRows.on hB (lz jw j12)).H t6 H6.out).mono ?_
 rintro e' v13 ⟨rfl,j14⟩
 try clear hw
 clear p27 q_27
 cases t6
 case false =>
  obtain rfl:k=false:=HK.out
  go_wp2
  go_ret
  exact⟨rfl,(lz jw (lz j12 j14))⟩
 have p28:v13.cell? ⟨w.heap.size,28,none⟩=some (.int .i64 a.own):=qak.at_ (qaa bA (lz j12 j14) SA) 28 _ rfl
 have p29:v13.cell? ⟨w.heap.size,29,none⟩=some (.int .i64 a.cap):=qak.at_ (qaa bA (lz j12 j14) SA) 29 _ rfl
 have p30:v13.cell? ⟨w.heap.size,30,none⟩=some (.slice a.dA a.dn a.dc):=qak.at_ (qaa bA (lz j12 j14) SA) 30 _ rfl
 have q_28:v13.cell? ⟨w1.heap.size,28,none⟩=some (.int .i64 b.own):=qak.at_ (qaa bB (lz j12 j14) S2) 28 _ rfl
 have q_29:v13.cell? ⟨w1.heap.size,29,none⟩=some (.int .i64 b.cap):=qak.at_ (qaa bB (lz j12 j14) S2) 29 _ rfl
 have q_30:v13.cell? ⟨w1.heap.size,30,none⟩=some (.slice b.dA b.dn b.dc):=qak.at_ (qaa bB (lz j12 j14) S2) 30 _ rfl
 go_wp2_with fail
 refine (De.SameCR_any v13 a.own a.cap b.own b.cap 0 v13.heap.size 0 v13.heap.size a.dA b.dA a.dn a.dc b.dn b.dc a.ds b.ds (NRows.on hA (lz jw (lz j12 j14))).D (NRows.on hB (lz jw (lz j12 j14))).D (Nat.le_refl _) (Nat.le_refl _) t7 H7.out).mono ?_
 rintro e' v15 ⟨rfl,j16⟩
 try clear hw
 clear p28 p29 p30 q_28 q_29 q_30
 cases t7
 case false =>
  obtain rfl:k=false:=HK.out
  go_wp2
  go_ret
  exact⟨rfl,(lz jw (lz j12 (lz j14 j16)))⟩
 have p31:v15.cell? ⟨w.heap.size,31,none⟩=some (.slice a.fA a.fn a.fc):=qak.at_ (qaa bA (lz j12 (lz j14 j16)) SA) 31 _ rfl
 have q_31:v15.cell? ⟨w1.heap.size,31,none⟩=some (.slice b.fA b.fn b.fc):=qak.at_ (qaa bB (lz j12 (lz j14 j16)) S2) 31 _ rfl
 go_wp2_with fail
 refine (Ma.RSameF_any v15 a.fA b.fA a.fn a.fc b.fn b.fc a.fs b.fs (NRows.on hA (lz jw (lz j12 (lz j14 j16)))).F (NRows.on hB (lz jw (lz j12 (lz j14 j16)))).F t8 H8.out).mono ?_
 rintro e' v17 ⟨rfl,j18⟩
 try clear hw
 clear p31 q_31
 cases t8
 case false =>
  obtain rfl:k=false:=HK.out
  go_wp2
  go_ret
  exact⟨rfl,(lz jw (lz j12 (lz j14 (lz j16 j18))))⟩
 have p32:v17.cell? ⟨w.heap.size,32,none⟩=some (.slice a.tA a.tn a.tc):=qak.at_ (qaa bA (lz j12 (lz j14 (lz j16 j18))) SA) 32 _ rfl
 have q_32:v17.cell? ⟨w1.heap.size,32,none⟩=some (.slice b.tA b.tn b.tc):=qak.at_ (qaa bB (lz j12 (lz j14 (lz j16 j18))) S2) 32 _ rfl
 go_wp2_with fail
 refine (qyq v17 a.tA b.tA a.tn a.tc b.tn b.tc a.ts b.ts (NRows.on hA (lz jw (lz j12 (lz j14 (lz j16 j18))))).T (NRows.on hB (lz jw (lz j12 (lz j14 (lz j16 j18))))).T t9 H9.out).mono ?_
 rintro e' v19 ⟨rfl,j20⟩
 try clear hw
 clear p32 q_32
 obtain rfl:k=t9:=HK.out
 go_wp2
 go_ret
 exact⟨rfl,(lz jw (lz j12 (lz j14 (lz j16 (lz j18 j20)))))⟩
end No
end Go.Proofs.YtmbppgjhdcmckaaGreatDoor
namespace Go.Proofs.YtmbppgjhdcmckaaGreatDoor
open Go.RowKit
namespace No
open Ma
open Dp Dy
theorem q0b{v:Nv}{x0 x1 x2 x3 x4 x5 x6 x7 x8 x9 x10 x11 x12:Bool}(h1:decide (0<=v.id)=true)(h2:decide (v.id < 8)=true)(hu:v.up=true)(y0:qzl v.val=x0)(y1:qke v.kl v.kt v.ks v.ke v.kf=x1)(y2:qd6 v.P=x2)(y3:qft v=x3)(y4:qbf v.P ZPv=x4)(y5:qix v=x5)(y6:decide (qc3 v.hs=0)=x6)(y7:De.mayC v.own v.cap v.ds=x7)(y8:decide (v.own=v.id)=x8)(y9:decide (NoT.timersC v.ts=0)=x9)(y10:decide (qbo v.fn v.fs=0)=x10)(y11:decide (v.fn=0)=x11)(y12:decide (qe1 v < v.ke)=x12) :
  qir v=(x0 && (x1 && (x2 && ((x3 || x4) && (x5 && (x6 && (x9 && (x7 && (x8 && (x10 && (x11 || x12))))))))))):=by
 have d1:decide (qc3 v.hs≠0)=!x6:=by rw [<-y6]; exact decide_not
 have d2:decide (NoT.timersC v.ts≠0)=!x9:=by rw [<-y9]; exact decide_not
 have d3:decide (v.own≠v.id)=!x8:=by rw [<-y8]; exact decide_not
 have d4:decide (qbo v.fn v.fs≠0)=!x10:=by rw [<-y10]; exact decide_not
 have d5:decide (0 < v.fn)=!x11:=by rw [<-y11,<-decide_not]; exact decide_eq_decide.2 (by omega)
 have d6:decide (v.ke<=qe1 v)=!x12:=by rw [<-y12,<-decide_not]; exact decide_eq_decide.2 (by omega)
 unfold qir qbl qc9 qen qc8 qem qel qd2 qd1
 rw [h1,h2,if_pos hu,y0,y1,y2,y3,y4,y5,y7,d1,d2,d3,d4,d5,d6]
 simp only [Bool.not_or,Bool.not_and,Bool.not_not,Bool.true_and,Bool.and_assoc]
theorem qya(w:World)(i:Int):Calls Tryz.prog 97 #[.int .i64 i] w fun e w'=>e=.returned (.agg (cells33 (ZNv i)).toArray)/\Below w.heap.size w w':=by
 obtain⟨w1,hw1,bN,ja,S1⟩:=qq5 w
 obtain⟨U_,hU_,bU_,hb_,hf_,l5_,l5'_⟩:=qm5 bN (ZNv i)
 have th_:=qak.there bN
 have HU_:=Lib.hid hU_
 clear hU_
 have fin_:=hb_ _ _ ja (Nat.le_refl _)
 go_enter Tryz.func97,Tryz.ntmps97
 go_upto_region 1 with fail
 try rw [hw1]
 try clear hw1
 go_wp2_with (first | (refine wpList_store_mid rfl 63 (.tmp 2) (.tmp 4) rfl w.heap.size 0 (cells33 (ZNv i)).toArray rfl rfl th_ (by kernel_rfl) (all_oneCell_toArray (qf5 (ZNv i))) ?_; rw [show (cells33 (ZNv i)).toArray.toList=cells33 (ZNv i) from rfl,HU_.out]))
 exact bodyPost_ret (results_cell_row Tryz.results97 _ _ w.heap.size 63 (cells33 (ZNv i)).toArray (0,0) _ rfl bU_ Tryz.underlying63 rfl (by kernel_rfl)) rfl ⟨rfl,fin_⟩
theorem qoj(w:World)(v:Nv)(hR:NRows w 0 w.heap.size v)(hd:v.dn<=1000000)(k:Bool)(hk:qir v=k) :
  Calls Tryz.prog 55 #[.agg #[.int .i64 v.id,.int .i64 v.val,.bool v.up,.int .i64 v.kl,.int .i64 v.kt,.int .i64 v.ks,.int .i64 v.ke,.int .i64 v.kf,.bool v.P.M.S.s,.slice v.P.M.S.A v.P.M.S.n v.P.M.S.c,.int .i64 v.P.M.S.e,.bool v.P.M.W.s,.slice v.P.M.W.A v.P.M.W.n v.P.M.W.c,.int .i64 v.P.M.W.e,.bool v.P.M.C.s,.slice v.P.M.C.A v.P.M.C.n v.P.M.C.c,.int .i64 v.P.M.C.e,.bool v.P.M.A.s,.slice v.P.M.A.A v.P.M.A.n v.P.M.A.c,.int .i64 v.P.M.A.e,.bool v.P.h,.int .i64 v.P.mn,.int .i64 v.P.mx,.slice v.P.A v.P.n v.P.c,.bool v.wo,.int .i64 v.wn,.int .i64 v.wt,.slice v.hA v.hn v.hc,.int .i64 v.own,.int .i64 v.cap,.slice v.dA v.dn v.dc,.slice v.fA v.fn v.fc,.slice v.tA v.tn v.tc]] w fun e w'=>e=.returned (.bool k)/\Below w.heap.size w w':=by
 obtain⟨w1,hw1,bN,ja,S1⟩:=qb7 63 w v
 have HK:=Lib.hid hk
 clear hk
 go_enter Tryz.func55,Tryz.ntmps55
 go_upto_region 1 with fail
 try rw [hw1]
 try clear hw1
 obtain⟨c1,h1⟩:∃ c,decide (v.id < 0)=c:=⟨_,rfl⟩
 obtain⟨c2,h2⟩:∃ c,decide (8<=v.id)=c:=⟨_,rfl⟩
 obtain⟨c3,h3⟩:∃ c,v.up=c:=⟨_,rfl⟩
 have H1:Hid (decide (0<=v.id)=!c1):=Lib.hid (by rw [<-h1,<-decide_not]; exact decide_eq_decide.2 Int.not_lt.symm)
 have H2:Hid (decide (v.id < 8)=!c2):=Lib.hid (by rw [<-h2,<-decide_not]; exact decide_eq_decide.2 Int.not_le.symm)
 have H3:=Lib.hid h3
 have c0:w1.cell? ⟨w.heap.size,0,none⟩=some (.int .i64 v.id):=qak.at_ bN 0 _ rfl
 have cu:w1.cell? ⟨w.heap.size,2,none⟩=some (.bool c3):=(qak.at_ bN 2 _ rfl).trans (by rw [h3])
 clear h3
 cases c1
 case true =>
  obtain rfl:k=false:=by rw [<-HK.out]; unfold qir; rw [H1.out]; rfl
  go_wp2
  go_ret
  exact⟨rfl,ja⟩
 cases c2
 case true =>
  obtain rfl:k=false:=by rw [<-HK.out]; unfold qir; rw [H1.out,H2.out]; rfl
  go_wp2
  go_ret
  exact⟨rfl,ja⟩
 cases c3
 case false =>
  have HS:Hid (qmp v (ZNv v.id)=k):=Lib.hid (by rw [<-HK.out]; unfold qir; rw [H1.out,H2.out,H3.out]; rfl)
  go_upto_region 4 with fail
  clear h1 h2 c0 cu
  try clear hw
  refine zB (qan w1) [] 6 ?_
  have j2:Below w1.heap.size w1 w1.drew:=(Below.refl _ _).drew
  generalize w1.drew=v1 at *
  have kpy3:qan w1 v1:=fun p hp=>Below.block j2 p hp
  refine zD 0 (.agg (No.cells33 v).toArray) rfl ?y3 ?z4
  case y3 =>
   intro w' h_
   exact Ma.run_load_op 63 (.tmp 1) rfl w.heap.size 0 rfl (cells33 v) _ (qak.range (t:=63) ((h_ _ S1).trans bN)) Tryz.underlying63 rfl (by kernel_rfl)
  try simp only [Act.put,zp]
  refine zM 1 [1] ?_ ?_
  have kpy5:qan w1 v1:=fun p hp=>Below.block j2 p hp
  refine zD 2 (.int .i64 v.id) rfl ?y5 ?z6
  case y5 =>
   intro w' h_
   have k_:w'.cell? ⟨w.heap.size,0,none⟩=some (.int .i64 v.id):=qak.at_ (t:=63) ((h_ _ S1).trans bN) 0 _ rfl
   go_simp
  try simp only [Act.put,zp]
  refine zK 3 rfl fun K hK=>?_
  go_simp
  go_at_call 97
  refine (qya v1 v.id).mono ?_
  rintro e' v7 ⟨rfl,j8⟩
  refine hK _ _ ⟨fun _ _=>fun p hp=>Below.block (lz j2 j8) p hp,?_⟩
  clear hK K
  try simp only [Act.put,zp]
  refine zK 4 rfl fun K hK=>?_
  go_simp
  go_at_call 29
  refine (qh1 v7 v (ZNv v.id) (NRows.on hR (lz ja (lz j2 j8))) (qy8 _ _ _ _) k HS.out).mono ?_
  rintro e' v9 ⟨rfl,j10⟩
  refine hK _ _ ⟨fun _ _=>fun p hp=>Below.block (lz j2 (lz j8 j10)) p hp,?_⟩
  clear hK K
  try simp only [Act.put,zp]
  refine zM 1 [5] ?_ ?_
  refine qa2 (by kernel_rfl) ?_ _
  go_wp2
  go_ret
  exact⟨rfl,(lz ja (lz j2 (lz j8 j10)))⟩
 obtain⟨x0,e0⟩:∃ b,qzl v.val=b:=⟨_,rfl⟩
 obtain⟨x1,e1⟩:∃ b,qke v.kl v.kt v.ks v.ke v.kf=b:=⟨_,rfl⟩
 obtain⟨x2,e2⟩:∃ b,qd6 v.P=b:=⟨_,rfl⟩
 obtain⟨x3,e3⟩:∃ b,qft v=b:=⟨_,rfl⟩
 obtain⟨x4,e4⟩:∃ b,qbf v.P ZPv=b:=⟨_,rfl⟩
 obtain⟨x5,e5⟩:∃ b,qix v=b:=⟨_,rfl⟩
 obtain⟨x6,e6⟩:∃ b,decide (qc3 v.hs=0)=b:=⟨_,rfl⟩
 obtain⟨x7,e7⟩:∃ b,De.mayC v.own v.cap v.ds=b:=⟨_,rfl⟩
 obtain⟨x8,e8⟩:∃ b,decide (v.own=v.id)=b:=⟨_,rfl⟩
 obtain⟨x9,e9⟩:∃ b,decide (NoT.timersC v.ts=0)=b:=⟨_,rfl⟩
 obtain⟨x10,e10⟩:∃ b,decide (qbo v.fn v.fs=0)=b:=⟨_,rfl⟩
 obtain⟨x11,e11⟩:∃ b,decide (v.fn=0)=b:=⟨_,rfl⟩
 obtain⟨x12,e12⟩:∃ b,decide (qe1 v < v.ke)=b:=⟨_,rfl⟩
 have HE:=Lib.hid (HK.out.symm.trans (q0b H1.out H2.out H3.out e0 e1 e2 e3 e4 e5 e6 e7 e8 e9 e10 e11 e12))
 have E0:=Lib.hid e0
 have E1:=Lib.hid e1
 have E2:=Lib.hid e2
 have E3:=Lib.hid e3
 have E4:=Lib.hid e4
 have E5:=Lib.hid e5
 have E6:=Lib.hid e6
 have E7:=Lib.hid e7
 have E8:=Lib.hid e8
 have E9:=Lib.hid e9
 have E10:=Lib.hid e10
 have E11:=Lib.hid e11
 have E12:=Lib.hid e12
 clear e0 e1 e2 e3 e4 e5 e6 e7 e8 e9 e10 e11 e12 HK
 skip
 have c1:w1.cell? ⟨w.heap.size,1,none⟩=some (.int .i64 v.val):=qak.at_ bN 1 _ rfl
 go_wp2_with fail
 refine (Ma.rValue_any w1 v.val x0 E0.out).mono ?_
 rintro e' v11 ⟨rfl,j12⟩
 try clear hw
 clear h1 h2 c1 c0 cu
 cases x0
 case false =>
  obtain rfl:k=false:=by rw [HE.out]; simp
  go_wp2
  go_ret
  exact⟨rfl,(lz ja j12)⟩
 have c3:v11.cell? ⟨w.heap.size,3,none⟩=some (.int .i64 v.kl):=qak.at_ (qaa bN j12 S1) 3 _ rfl
 have c4:v11.cell? ⟨w.heap.size,4,none⟩=some (.int .i64 v.kt):=qak.at_ (qaa bN j12 S1) 4 _ rfl
 have c5:v11.cell? ⟨w.heap.size,5,none⟩=some (.int .i64 v.ks):=qak.at_ (qaa bN j12 S1) 5 _ rfl
 have c6:v11.cell? ⟨w.heap.size,6,none⟩=some (.int .i64 v.ke):=qak.at_ (qaa bN j12 S1) 6 _ rfl
 have c7:v11.cell? ⟨w.heap.size,7,none⟩=some (.int .i64 v.kf):=qak.at_ (qaa bN j12 S1) 7 _ rfl
 go_wp2_with fail
 refine (Ma.rMayCl_any v11 v.kl v.kt v.ks v.ke v.kf x1 E1.out).mono ?_
 rintro e' v13 ⟨rfl,j14⟩
 try clear hw
 clear c3 c4 c5 c6 c7
 cases x1
 case false =>
  obtain rfl:k=false:=by rw [HE.out]; simp
  go_wp2
  go_ret
  exact⟨rfl,(lz ja (lz j12 j14))⟩
 have ra:=qak.part (qaa bN (lz j12 j14) S1)
 go_wp2_with (first
  | (refine Ma.wpList_load_midG (by rfl) 30 (.tmp 30) rfl (w.heap.size) 8 rfl [.bool v.P.M.S.s,.slice v.P.M.S.A v.P.M.S.n v.P.M.S.c,.int .i64 v.P.M.S.e,.bool v.P.M.W.s,.slice v.P.M.W.A v.P.M.W.n v.P.M.W.c,.int .i64 v.P.M.W.e,.bool v.P.M.C.s,.slice v.P.M.C.A v.P.M.C.n v.P.M.C.c,.int .i64 v.P.M.C.e,.bool v.P.M.A.s,.slice v.P.M.A.A v.P.M.A.n v.P.M.A.c,.int .i64 v.P.M.A.e,.bool v.P.h,.int .i64 v.P.mn,.int .i64 v.P.mx,.slice v.P.A v.P.n v.P.c] _ ra Tryz.underlying30 rfl (by kernel_rfl) ?_))
 refine (Ma.MayPart_any v13 v.P (NRows.on hR (lz ja (lz j12 j14))).P x2 E2.out).mono ?_
 rintro e' v15 ⟨rfl,j16⟩
 try clear hw
 clear ra
 cases x2
 case false =>
  obtain rfl:k=false:=by rw [HE.out]; simp
  go_wp2
  go_ret
  exact⟨rfl,(lz ja (lz j12 (lz j14 j16)))⟩
 have c3:v15.cell? ⟨w.heap.size,3,none⟩=some (.int .i64 v.kl):=qak.at_ (qaa bN (lz j12 (lz j14 j16)) S1) 3 _ rfl
 have c4:v15.cell? ⟨w.heap.size,4,none⟩=some (.int .i64 v.kt):=qak.at_ (qaa bN (lz j12 (lz j14 j16)) S1) 4 _ rfl
 have c5:v15.cell? ⟨w.heap.size,5,none⟩=some (.int .i64 v.ks):=qak.at_ (qaa bN (lz j12 (lz j14 j16)) S1) 5 _ rfl
 have c6:v15.cell? ⟨w.heap.size,6,none⟩=some (.int .i64 v.ke):=qak.at_ (qaa bN (lz j12 (lz j14 j16)) S1) 6 _ rfl
 have c7:v15.cell? ⟨w.heap.size,7,none⟩=some (.int .i64 v.kf):=qak.at_ (qaa bN (lz j12 (lz j14 j16)) S1) 7 _ rfl
 go_wp2_with fail
 refine (qhg v15 v.kl v.kt v.ks v.ke v.kf x3 E3.out).mono ?_
 rintro e' v17 ⟨rfl,j18⟩
 try clear hw
 clear c3 c4 c5 c6 c7
 cases x3
 case true =>
  have rN:=qak.range (qaa bN (lz j12 (lz j14 (lz j16 j18))) S1)
  go_wp2_with (first | (refine Ma.wpList_load_midG (by rfl) 63 (.tmp 1) rfl w.heap.size 0 rfl (cells33 v) _ rN Tryz.underlying63 rfl (by kernel_rfl) ?_; simp only [cells33]))
  refine (qh2 v17 v x5 E5.out).mono ?_
  rintro e' v19 ⟨rfl,j20⟩
  try clear hw
  clear rN
  cases x5
  case false =>
   obtain rfl:k=false:=by rw [HE.out]; simp
   go_wp2
   go_ret
   exact⟨rfl,(lz ja (lz j12 (lz j14 (lz j16 (lz j18 j20)))))⟩
  obtain⟨a,ha⟩:∃ a,qc3 v.hs=a:=⟨_,rfl⟩
  have HA:=Lib.hid ha
  have A6:Hid ((a != 0)=!x6):=Lib.hid (by rw [<-E6.out,ha]; simp [qda])
  clear ha
  have c27:v19.cell? ⟨w.heap.size,27,none⟩=some (.slice v.hA v.hn v.hc):=qak.at_ (qaa bN (lz j12 (lz j14 (lz j16 (lz j18 j20)))) S1) 27 _ rfl
  go_wp2_with fail
  refine (qcl (qk4 v19 0 v19.heap.size v.hA v.hn v.hc v.hs (NRows.on hR (lz ja (lz j12 (lz j14 (lz j16 (lz j18 j20)))))).H a HA.out)).mono ?_
  rintro e' v21 ⟨rfl,j22⟩
  try clear hw
  clear c27
  have a6:=A6.out
  cases x6
  case false =>
   obtain rfl:k=false:=by rw [HE.out]; simp
   go_wp2
   go_ret
   exact⟨rfl,(lz ja (lz j12 (lz j14 (lz j16 (lz j18 (lz j20 j22))))))⟩
  have c28:v21.cell? ⟨w.heap.size,28,none⟩=some (.int .i64 v.own):=qak.at_ (qaa bN (lz j12 (lz j14 (lz j16 (lz j18 (lz j20 j22))))) S1) 28 _ rfl
  have c29:v21.cell? ⟨w.heap.size,29,none⟩=some (.int .i64 v.cap):=qak.at_ (qaa bN (lz j12 (lz j14 (lz j16 (lz j18 (lz j20 j22))))) S1) 29 _ rfl
  have c30:v21.cell? ⟨w.heap.size,30,none⟩=some (.slice v.dA v.dn v.dc):=qak.at_ (qaa bN (lz j12 (lz j14 (lz j16 (lz j18 (lz j20 j22))))) S1) 30 _ rfl
  go_wp2_with fail
  refine (De.MayR_any v21 v.own v.cap v.dA v.dn v.dc v.ds (NRows.on hR (lz ja (lz j12 (lz j14 (lz j16 (lz j18 (lz j20 j22))))))).D hd x7 E7.out).mono ?_
  rintro e' v23 ⟨rfl,j24,_⟩
  try clear hw
  clear a6 c28 c29 c30
  cases x7
  case false =>
   obtain rfl:k=false:=by rw [HE.out]; simp
   go_wp2
   go_ret
   exact⟨rfl,(lz ja (lz j12 (lz j14 (lz j16 (lz j18 (lz j20 (lz j22 j24)))))))⟩
  have a8:(v.own != v.id)=!x8:=by rw [<-E8.out]; simp [qda]
  have c28:v23.cell? ⟨w.heap.size,28,none⟩=some (.int .i64 v.own):=qak.at_ (qaa bN (lz j12 (lz j14 (lz j16 (lz j18 (lz j20 (lz j22 j24)))))) S1) 28 _ rfl
  have c0:v23.cell? ⟨w.heap.size,0,none⟩=some (.int .i64 v.id):=qak.at_ (qaa bN (lz j12 (lz j14 (lz j16 (lz j18 (lz j20 (lz j22 j24)))))) S1) 0 _ rfl
  cases x8
  case false =>
   obtain rfl:k=false:=by rw [HE.out]; simp
   go_wp2
   go_ret
   exact⟨rfl,(lz ja (lz j12 (lz j14 (lz j16 (lz j18 (lz j20 (lz j22 j24)))))))⟩
  obtain⟨a,ha⟩:∃ a,NoT.timersC v.ts=a:=⟨_,rfl⟩
  have HA:=Lib.hid ha
  have A9:Hid ((a != 0)=!x9):=Lib.hid (by rw [<-E9.out,ha]; simp [qda])
  clear ha
  have c32:v23.cell? ⟨w.heap.size,32,none⟩=some (.slice v.tA v.tn v.tc):=qak.at_ (qaa bN (lz j12 (lz j14 (lz j16 (lz j18 (lz j20 (lz j22 j24)))))) S1) 32 _ rfl
  go_wp2_with fail
  refine (NoT.RTimer_any v23 0 v23.heap.size v.tA v.tn v.tc v.ts (NRows.on hR (lz ja (lz j12 (lz j14 (lz j16 (lz j18 (lz j20 (lz j22 j24)))))))).T (Nat.le_refl _) a HA.out).mono ?_
  rintro e' v25 ⟨rfl,j26⟩
  try clear hw
  clear a8 c28 c0 c32
  have a9:=A9.out
  cases x9
  case false =>
   obtain rfl:k=false:=by rw [HE.out]; simp
   go_wp2
   go_ret
   exact⟨rfl,(lz ja (lz j12 (lz j14 (lz j16 (lz j18 (lz j20 (lz j22 (lz j24 j26))))))))⟩
  obtain⟨a,ha⟩:∃ a,qbo v.fn v.fs=a:=⟨_,rfl⟩
  have HA:=Lib.hid ha
  have A10:Hid ((a != 0)=!x10):=Lib.hid (by rw [<-E10.out,ha]; simp [qda])
  clear ha
  have c31:v25.cell? ⟨w.heap.size,31,none⟩=some (.slice v.fA v.fn v.fc):=qak.at_ (qaa bN (lz j12 (lz j14 (lz j16 (lz j18 (lz j20 (lz j22 (lz j24 j26))))))) S1) 31 _ rfl
  go_wp2_with fail
  refine (Ma.RCheckF_any v25 v.fA v.fn v.fc v.fs (NRows.on hR (lz ja (lz j12 (lz j14 (lz j16 (lz j18 (lz j20 (lz j22 (lz j24 j26))))))))).F a HA.out).mono ?_
  rintro e' v27 ⟨rfl,j28⟩
  try clear hw
  clear a9 c31
  have a10:=A10.out
  cases x10
  case false =>
   obtain rfl:k=false:=by rw [HE.out]; simp
   go_wp2
   go_ret
   exact⟨rfl,(lz ja (lz j12 (lz j14 (lz j16 (lz j18 (lz j20 (lz j22 (lz j24 (lz j26 j28)))))))))⟩
  have HE2:Hid (k=(x11 || x12)):=Lib.hid (by rw [HE.out]; simp)
  go_upto_region 9 with fail
  clear a10
  have c6:v27.cell? ⟨w.heap.size,6,none⟩=some (.int .i64 v.ke):=qak.at_ (qaa bN (lz j12 (lz j14 (lz j16 (lz j18 (lz j20 (lz j22 (lz j24 (lz j26 j28)))))))) S1) 6 _ rfl
  have c31:v27.cell? ⟨w.heap.size,31,none⟩=some (.slice v.fA v.fn v.fc):=qak.at_ (qaa bN (lz j12 (lz j14 (lz j16 (lz j18 (lz j20 (lz j22 (lz j24 (lz j26 j28)))))))) S1) 31 _ rfl
  have HL:=Lib.hid (NRows.on hR (lz ja (lz j12 (lz j14 (lz j16 (lz j18 (lz j20 (lz j22 (lz j24 (lz j26 j28)))))))))).F.len
  have hbig:=(NRows.on hR (lz ja (lz j12 (lz j14 (lz j16 (lz j18 (lz j20 (lz j22 (lz j24 (lz j26 j28)))))))))).F.big
  by_cases h0:0 < v.fn
  . obtain⟨b,o_,hA,_,_,hc⟩:=(NRows.on hR (lz ja (lz j12 (lz j14 (lz j16 (lz j18 (lz j20 (lz j22 (lz j24 (lz j26 j28)))))))))).F.row h0
    have hlt:v.fn-1 < v.fs.length:=by rw [HL.out]; omega
    have ce:=(hc (v.fn-1) hlt).1
    have hle:Hid (qe1 v=(v.fs[v.fn-1]'hlt).e):=Lib.hid (by unfold qe1; rw [List.getElem?_eq_getElem hlt]; rfl)
    have hks:IntKind.i64.wrap ((v.fn:Int)-1)=((v.fn-1:Nat):Int):=by rw [IntKind.wrap_i64]; omega
    have hkq:(((v.fn-1:Nat):Int)) < v.fn:=by omega
    have hkr:(0:Int)<=((v.fn-1:Nat):Int):=by omega
    have hn0:((v.fn:Int)==0)=false:=by simp; omega
    have hx11:Hid (x11=false):=Lib.hid (by rw [<-E11.out]; exact decide_eq_false (by omega))
    generalize (v.fs[v.fn-1]'hlt).e=E at ce hle
    clear hc hlt
    rw [hA] at c31
    have hdk:Hid (k=decide (E < v.ke)):=Lib.hid (by rw [HE2.out,hx11.out,<-E12.out,hle.out]; rfl)
    generalize hkk:v.fn-1=q at *
    go_wp2
    go_quiet (fail)
    go_wp2
    go_ret
    exact⟨by rw [hdk.out]; rfl,lz (lz ja (lz j12 (lz j14 (lz j16 (lz j18 (lz j20 (lz j22 (lz j24 (lz j26 j28))))))))) (qa0 _ _ _)⟩
  have hn0:((v.fn:Int)==0)=true:=by simp; omega
  obtain rfl:k=true:=by rw [HE2.out,<-E11.out,decide_eq_true (by omega:v.fn=0)]; rfl
  go_wp2
  go_quiet (fail)
  go_wp2
  go_ret
  exact⟨rfl,lz (lz ja (lz j12 (lz j14 (lz j16 (lz j18 (lz j20 (lz j22 (lz j24 (lz j26 j28))))))))) (qa0 _ _ _)⟩
 have ra:=qak.part (qaa bN (lz j12 (lz j14 (lz j16 j18))) S1)
 go_wp2_with (first
  | (refine Ma.wpList_load_midG (by rfl) 30 (.tmp 41) rfl (w.heap.size) 8 rfl [.bool v.P.M.S.s,.slice v.P.M.S.A v.P.M.S.n v.P.M.S.c,.int .i64 v.P.M.S.e,.bool v.P.M.W.s,.slice v.P.M.W.A v.P.M.W.n v.P.M.W.c,.int .i64 v.P.M.W.e,.bool v.P.M.C.s,.slice v.P.M.C.A v.P.M.C.n v.P.M.C.c,.int .i64 v.P.M.C.e,.bool v.P.M.A.s,.slice v.P.M.A.A v.P.M.A.n v.P.M.A.c,.int .i64 v.P.M.A.e,.bool v.P.h,.int .i64 v.P.mn,.int .i64 v.P.mx,.slice v.P.A v.P.n v.P.c] _ ra Tryz.underlying30 rfl (by kernel_rfl) ?_))
 refine (qle v17 v.P (NRows.on hR (lz ja (lz j12 (lz j14 (lz j16 j18))))).P x4 E4.out).mono ?_
 rintro e' v29 ⟨rfl,j30⟩
 try clear hw
 clear ra
 cases x4
 case false =>
  obtain rfl:k=false:=by rw [HE.out]; simp
  go_wp2
  go_ret
  exact⟨rfl,(lz ja (lz j12 (lz j14 (lz j16 (lz j18 j30)))))⟩
 have rN:=qak.range (qaa bN (lz j12 (lz j14 (lz j16 (lz j18 j30)))) S1)
 go_wp2_with (first | (refine Ma.wpList_load_midG (by rfl) 63 (.tmp 1) rfl w.heap.size 0 rfl (cells33 v) _ rN Tryz.underlying63 rfl (by kernel_rfl) ?_; simp only [cells33]))
 refine (qh2 v29 v x5 E5.out).mono ?_
 rintro e' v31 ⟨rfl,j32⟩
 try clear hw
 clear rN
 cases x5
 case false =>
  obtain rfl:k=false:=by rw [HE.out]; simp
  go_wp2
  go_ret
  exact⟨rfl,(lz ja (lz j12 (lz j14 (lz j16 (lz j18 (lz j30 j32))))))⟩
 obtain⟨a,ha⟩:∃ a,qc3 v.hs=a:=⟨_,rfl⟩
 have HA:=Lib.hid ha
 have A6:Hid ((a != 0)=!x6):=Lib.hid (by rw [<-E6.out,ha]; simp [qda])
 clear ha
 have c27:v31.cell? ⟨w.heap.size,27,none⟩=some (.slice v.hA v.hn v.hc):=qak.at_ (qaa bN (lz j12 (lz j14 (lz j16 (lz j18 (lz j30 j32))))) S1) 27 _ rfl
 go_wp2_with fail
 refine (qcl (qk4 v31 0 v31.heap.size v.hA v.hn v.hc v.hs (NRows.on hR (lz ja (lz j12 (lz j14 (lz j16 (lz j18 (lz j30 j32))))))).H a HA.out)).mono ?_
 rintro e' v33 ⟨rfl,j34⟩
 try clear hw
 clear c27
 have a6:=A6.out
 cases x6
 case false =>
  obtain rfl:k=false:=by rw [HE.out]; simp
  go_wp2
  go_ret
  exact⟨rfl,(lz ja (lz j12 (lz j14 (lz j16 (lz j18 (lz j30 (lz j32 j34)))))))⟩
 have c28:v33.cell? ⟨w.heap.size,28,none⟩=some (.int .i64 v.own):=qak.at_ (qaa bN (lz j12 (lz j14 (lz j16 (lz j18 (lz j30 (lz j32 j34)))))) S1) 28 _ rfl
 have c29:v33.cell? ⟨w.heap.size,29,none⟩=some (.int .i64 v.cap):=qak.at_ (qaa bN (lz j12 (lz j14 (lz j16 (lz j18 (lz j30 (lz j32 j34)))))) S1) 29 _ rfl
 have c30:v33.cell? ⟨w.heap.size,30,none⟩=some (.slice v.dA v.dn v.dc):=qak.at_ (qaa bN (lz j12 (lz j14 (lz j16 (lz j18 (lz j30 (lz j32 j34)))))) S1) 30 _ rfl
 go_wp2_with fail
 refine (De.MayR_any v33 v.own v.cap v.dA v.dn v.dc v.ds (NRows.on hR (lz ja (lz j12 (lz j14 (lz j16 (lz j18 (lz j30 (lz j32 j34)))))))).D hd x7 E7.out).mono ?_
 rintro e' v35 ⟨rfl,j36,_⟩
 try clear hw
 clear a6 c28 c29 c30
 cases x7
 case false =>
  obtain rfl:k=false:=by rw [HE.out]; simp
  go_wp2
  go_ret
  exact⟨rfl,(lz ja (lz j12 (lz j14 (lz j16 (lz j18 (lz j30 (lz j32 (lz j34 j36))))))))⟩
 have a8:(v.own != v.id)=!x8:=by rw [<-E8.out]; simp [qda]
 have c28:v35.cell? ⟨w.heap.size,28,none⟩=some (.int .i64 v.own):=qak.at_ (qaa bN (lz j12 (lz j14 (lz j16 (lz j18 (lz j30 (lz j32 (lz j34 j36))))))) S1) 28 _ rfl
 have c0:v35.cell? ⟨w.heap.size,0,none⟩=some (.int .i64 v.id):=qak.at_ (qaa bN (lz j12 (lz j14 (lz j16 (lz j18 (lz j30 (lz j32 (lz j34 j36))))))) S1) 0 _ rfl
 cases x8
 case false =>
  obtain rfl:k=false:=by rw [HE.out]; simp
  go_wp2
  go_ret
  exact⟨rfl,(lz ja (lz j12 (lz j14 (lz j16 (lz j18 (lz j30 (lz j32 (lz j34 j36))))))))⟩
 obtain⟨a,ha⟩:∃ a,NoT.timersC v.ts=a:=⟨_,rfl⟩
 have HA:=Lib.hid ha
 have A9:Hid ((a != 0)=!x9):=Lib.hid (by rw [<-E9.out,ha]; simp [qda])
 clear ha
 have c32:v35.cell? ⟨w.heap.size,32,none⟩=some (.slice v.tA v.tn v.tc):=qak.at_ (qaa bN (lz j12 (lz j14 (lz j16 (lz j18 (lz j30 (lz j32 (lz j34 j36))))))) S1) 32 _ rfl
 go_wp2_with fail
 refine (NoT.RTimer_any v35 0 v35.heap.size v.tA v.tn v.tc v.ts (NRows.on hR (lz ja (lz j12 (lz j14 (lz j16 (lz j18 (lz j30 (lz j32 (lz j34 j36))))))))).T (Nat.le_refl _) a HA.out).mono ?_
 rintro e' v37 ⟨rfl,j38⟩
 try clear hw
 clear a8 c28 c0 c32
 have a9:=A9.out
 cases x9
 case false =>
  obtain rfl:k=false:=by rw [HE.out]; simp
  go_wp2
  go_ret
  exact⟨rfl,(lz ja (lz j12 (lz j14 (lz j16 (lz j18 (lz j30 (lz j32 (lz j34 (lz j36 j38)))))))))⟩
 obtain⟨a,ha⟩:∃ a,qbo v.fn v.fs=a:=⟨_,rfl⟩
 have HA:=Lib.hid ha
 have A10:Hid ((a != 0)=!x10):=Lib.hid (by rw [<-E10.out,ha]; simp [qda])
 clear ha
 have c31:v37.cell? ⟨w.heap.size,31,none⟩=some (.slice v.fA v.fn v.fc):=qak.at_ (qaa bN (lz j12 (lz j14 (lz j16 (lz j18 (lz j30 (lz j32 (lz j34 (lz j36 j38)))))))) S1) 31 _ rfl
 go_wp2_with fail
 refine (Ma.RCheckF_any v37 v.fA v.fn v.fc v.fs (NRows.on hR (lz ja (lz j12 (lz j14 (lz j16 (lz j18 (lz j30 (lz j32 (lz j34 (lz j36 j38)))))))))).F a HA.out).mono ?_
 rintro e' v39 ⟨rfl,j40⟩
 try clear hw
 clear a9 c31
 have a10:=A10.out
 cases x10
 case false =>
  obtain rfl:k=false:=by rw [HE.out]; simp
  go_wp2
  go_ret
  exact⟨rfl,(lz ja (lz j12 (lz j14 (lz j16 (lz j18 (lz j30 (lz j32 (lz j34 (lz j36 (lz j38 j40))))))))))⟩
 have HE2:Hid (k=(x11 || x12)):=Lib.hid (by rw [HE.out]; simp)
 go_upto_region 9 with fail
 clear a10
 have c6:v39.cell? ⟨w.heap.size,6,none⟩=some (.int .i64 v.ke):=qak.at_ (qaa bN (lz j12 (lz j14 (lz j16 (lz j18 (lz j30 (lz j32 (lz j34 (lz j36 (lz j38 j40))))))))) S1) 6 _ rfl
 have c31:v39.cell? ⟨w.heap.size,31,none⟩=some (.slice v.fA v.fn v.fc):=qak.at_ (qaa bN (lz j12 (lz j14 (lz j16 (lz j18 (lz j30 (lz j32 (lz j34 (lz j36 (lz j38 j40))))))))) S1) 31 _ rfl
 have HL:=Lib.hid (NRows.on hR (lz ja (lz j12 (lz j14 (lz j16 (lz j18 (lz j30 (lz j32 (lz j34 (lz j36 (lz j38 j40))))))))))).F.len
 have hbig:=(NRows.on hR (lz ja (lz j12 (lz j14 (lz j16 (lz j18 (lz j30 (lz j32 (lz j34 (lz j36 (lz j38 j40))))))))))).F.big
 by_cases h0:0 < v.fn
 . obtain⟨b,o_,hA,_,_,hc⟩:=(NRows.on hR (lz ja (lz j12 (lz j14 (lz j16 (lz j18 (lz j30 (lz j32 (lz j34 (lz j36 (lz j38 j40))))))))))).F.row h0
   have hlt:v.fn-1 < v.fs.length:=by rw [HL.out]; omega
   have ce:=(hc (v.fn-1) hlt).1
   have hle:Hid (qe1 v=(v.fs[v.fn-1]'hlt).e):=Lib.hid (by unfold qe1; rw [List.getElem?_eq_getElem hlt]; rfl)
   have hks:IntKind.i64.wrap ((v.fn:Int)-1)=((v.fn-1:Nat):Int):=by rw [IntKind.wrap_i64]; omega
   have hkq:(((v.fn-1:Nat):Int)) < v.fn:=by omega
   have hkr:(0:Int)<=((v.fn-1:Nat):Int):=by omega
   have hn0:((v.fn:Int)==0)=false:=by simp; omega
   have hx11:Hid (x11=false):=Lib.hid (by rw [<-E11.out]; exact decide_eq_false (by omega))
   generalize (v.fs[v.fn-1]'hlt).e=E at ce hle
   clear hc hlt
   rw [hA] at c31
   have hdk:Hid (k=decide (E < v.ke)):=Lib.hid (by rw [HE2.out,hx11.out,<-E12.out,hle.out]; rfl)
   generalize hkk:v.fn-1=q at *
   go_wp2
   go_quiet (fail)
   go_wp2
   go_ret
   exact⟨by rw [hdk.out]; rfl,lz (lz ja (lz j12 (lz j14 (lz j16 (lz j18 (lz j30 (lz j32 (lz j34 (lz j36 (lz j38 j40)))))))))) (qa0 _ _ _)⟩
 have hn0:((v.fn:Int)==0)=true:=by simp; omega
 obtain rfl:k=true:=by rw [HE2.out,<-E11.out,decide_eq_true (by omega:v.fn=0)]; rfl
 go_wp2
 go_quiet (fail)
 go_wp2
 go_ret
 exact⟨rfl,lz (lz ja (lz j12 (lz j14 (lz j16 (lz j18 (lz j30 (lz j32 (lz j34 (lz j36 (lz j38 j40)))))))))) (qa0 _ _ _)⟩
def ofB(v:Nv)(e:Int):Bool:=if (e==v.ke)=true then decide (v.kf<=v.ke) else (ofF v.fs e).isSome
def ofV(v:Nv)(e:Int):Pv:=if (e==v.ke)=true then (if decide (v.kf<=v.ke)=true then v.P else ZPv) else (ofF v.fs e).getD ZPv
theorem qqp{v:Nv}{e:Int}(hl:v.fs.length=v.fn)(hc:qbo v.fn v.fs=0)(h:v.fn=0∨qe1 v < e)(h0:0<=e)(h1:e<=65535):qn4 v.fn v.fs e=6:=by
 have hm:qey (-1) v.fs=true:=by
  unfold qbo at hc
  split at hc
  . exact absurd hc (by decide)
  split at hc
  . assumption
  exact absurd hc (by decide)
 unfold qn4 qmh
 rw [if_neg (by rw [if_neg (by rw [hc]; simp),if_neg (by omega)]; simp)]
 cases hx:v.fs[qa9 v.fs e]? with
 | none=>rfl
 | some f =>
  exfalso
  have hlt:qa9 v.fs e < v.fs.length:=(List.getElem?_eq_some_iff.1 hx).1
  have hn:v.fn-1 < v.fs.length:=by omega
  have hge:=qj0 hm (z:=e) (v.fn-1) hn (by omega)
  have:qe1 v=(v.fs[v.fn-1]'hn).e:=by unfold qe1; rw [List.getElem?_eq_getElem hn]; rfl
  omega
theorem qqo{v:Nv}(hm:qir v=true)(hu:v.up=true):v.fn=0∨qe1 v < v.ke:=by
 unfold qir at hm
 rw [if_pos hu] at hm
 simp only [Bool.and_eq_true,Bool.not_eq_true'] at hm
 have h:=hm.2.2
 unfold qbl at h
 simp only [Bool.or_eq_false_iff] at h
 have h7:=h.2.2.2.2.2.2
 unfold qd1 at h7
 simp only [Bool.and_eq_false_iff,decide_eq_false_iff_not] at h7
 omega
theorem qug{v:Nv}{e:Int}(hl:v.fs.length=v.fn):qdk v e=if qir v=false then 8 else if v.up=false then 14 else if e < 0∨65535 < e then 2 else if ofB v e=true then 0 else 6:=by
 cases hm:qir v
 . unfold qdk; rw [hm,if_pos rfl,if_pos rfl]
 cases hu:v.up
 . unfold qdk; rw [hm,hu,if_neg (by decide),if_pos rfl,if_neg (by decide),if_pos rfl]
 rw [if_neg (by decide),if_neg (by decide)]
 obtain⟨hc,hf⟩:=qur hm hu
 have h7:=qqo hm hu
 unfold qke at hc
 simp only [decide_eq_true_eq] at hc
 unfold qdk
 rw [if_neg (by rw [hm]; decide),if_neg (by rw [hu]; decide)]
 by_cases he:e=v.ke
 . subst he
   rw [if_neg (by omega:¬ (v.ke < 0∨65535 < v.ke))]
   have hB:ofB v v.ke=decide (v.kf<=v.ke):=by unfold ofB; rw [if_pos (by simp)]
   rw [hB]
   by_cases hk:v.kf<=v.ke
   . rw [if_pos (by simp [hk]),if_pos (by simp [hk])]
   rw [if_neg (by simp [hk]),if_neg (by simp [hk])]
   exact qqp hl hf h7 (by omega) (by omega)
 have hne:(e==v.ke)=false:=by simpa using he
 rw [hne,if_neg (by simp)]
 unfold ofB
 rw [hne,if_neg (by decide:¬ false=true)]
 by_cases hr:e < 0∨65535 < e
 . rw [if_pos hr]
   unfold qn4 qmh
   have h2:(if qbo v.fn v.fs≠0 then qbo v.fn v.fs else if e < 0∨65535 < e then 2 else 0)=(2:Int):=by rw [if_neg (by rw [hf]; simp),if_pos hr]
   rw [if_pos (by rw [h2]; decide),h2]
 rw [if_neg hr]
 exact (qvd (by unfold qmh; rw [if_neg (by rw [hf]; simp),if_neg hr])).1
theorem quf{v:Nv}{e:Int}(hl:v.fs.length=v.fn)(h:qdk v e=0)(hm:qir v=true)(hu:v.up=true):qc7 v e=ofV v e:=by
 obtain⟨hc,hf⟩:=qur hm hu
 have h0:=h
 unfold qc7 ofV
 rw [if_pos h]
 unfold qdk at h
 rw [if_neg (by rw [hm]; decide),if_neg (by rw [hu]; decide)] at h
 by_cases he:e=v.ke
 . subst he
   rw [if_pos (by simp:(v.ke==v.ke)=true)]
   by_cases hk:v.kf<=v.ke
   . rw [if_pos (by simp [hk]),if_pos (by simp [hk])]
   rw [if_neg (by simp [hk]),if_neg (by simp [hk])]
   rw [if_neg (by simp [hk])] at h
   exfalso
   unfold qke at hc
   simp only [decide_eq_true_eq] at hc
   rw [qqp hl hf (qqo hm hu) (by omega) (by omega)] at h
   exact absurd h (by decide)
 have hne:(e==v.ke)=false:=by simpa using he
 rw [hne,if_neg (by simp),if_neg (by decide:¬ false=true)]
 rw [hne,if_neg (by simp)] at h
 have ha:qmh v.fn v.fs e=0:=by
  unfold qn4 at h
  by_cases hx:qmh v.fn v.fs e=0
  . exact hx
  rw [if_pos hx] at h
  exact h
 have:=(qvd ha).2
 rw [h] at this
 exact this
end No
end Go.Proofs.YtmbppgjhdcmckaaGreatDoor