/- Shares: what is kept, sent and taken, in numbers. No program in sight. -/
import Derived.Test.YtmbppgjhdcmckaaGreatDoorBj14
set_option maxHeartbeats 102400000
set_option maxRecDepth 100000
namespace Go.Proofs.YtmbppgjhdcmckaaGreatDoor
open Go.RowKit
namespace Ma
open Dp Dy
theorem qdf{m:Mv}:qkg [m]=false↔m.share:=by
 constructor
 . intro h
   exact Classical.byContradiction fun hn=>by rw [qg3 (List.mem_singleton.2 rfl) hn] at h; cases h
 intro h
 exact qv5 fun x hx=>by rw [List.mem_singleton.1 hx]; exact h
theorem qkj{a u:Mv}(h:∀ x,x < 4->qet (a.get x) (u.get x)):u.share↔a.share:=by
 obtain⟨_,h2,_,_,_⟩:=h 0 (by decide)
 obtain⟨k1,k2,_,_,_⟩:=h 1 (by decide)
 have s2:u.S.n=a.S.n:=h2
 have w1:u.W.s=a.W.s:=k1
 have w2:u.W.n=a.W.n:=k2
 unfold Mv.share
 rw [qwx h,s2,w1,w2]
theorem qwy{a u:Mv}(h:∀ x,x < 4->qet (a.get x) (u.get x)):qkg [u]=qkg [a]:=by
 cases hb:qkg [a]
 . exact qdf.2 ((qkj h).2 (qdf.1 hb))
 cases hu:qkg [u]
 . rw [qdf.2 ((qkj h).1 (qdf.1 hu))] at hb
   cases hb
 rfl
end Ma
end Go.Proofs.YtmbppgjhdcmckaaGreatDoor
namespace Go.Proofs.YtmbppgjhdcmckaaGreatDoor
open Go.RowKit
section
variable {P:Program} {os:List Oper} {Q:Exit->Act->World->Prop} {md:Region.Mode} {S:World->Prop} {E:List Nat} {B:Act->World->Prop} {Lf:Array Bool} {m:Nat}
def wpAnyC(B:Act->World->Prop)(Lf:Array Bool)(m:Nat)(P:Program)(md:Region.Mode)(ops:Array Oper)(Q:Exit->Act->World->Prop)(S:World->Prop)(E:List Nat)(n:Nat)(L:Array Bool)(a:Act)(w:World):Prop :=
 (∀ a' w',B a' w'->qa5 P md ops Q S E m Lf a' w')->qa5 P md ops Q S E n L a w
theorem qzi{ops:Array Oper}(B:Act->Act->World->Prop)(Lf:Array Bool)(m:Nat){k:Nat}{L:Array Bool}{a:Act}{w:World}(h:∀ a' w',B a a' w'->qa5 P md ops Q S E m Lf a' w')
  (hg:wpAnyC (B a) Lf m P md ops Q S E k L a w):qa5 P md ops Q S E k L a w:=hg h
theorem qsb{ops:Array Oper}{a:Act}{w:World}(h:B a w):wpAnyC B Lf m P md ops Q S E m Lf a w:=fun hl=>hl a w h
theorem pureC{i n:Nat}{oi:Oper}{v:Value}{listed L:Array Bool}{a:Act}{w:World}(hi:os[i]? = some oi)(hL:listed.setIfInBounds i true=L)
  (hs:Region.noSelect os.toArray=true) (hf:Region.free md os.toArray listed i=true) (hr:(Region.ready md os.toArray listed).contains i=true)
  (hQ:∀ c a w,Q (.panic c) (a.put oi.dst v) w->Q (.panic c) a w) (hw:Region.wanted oi (yielded os.toArray a.tmps)=true) (hy:∀ w,(execOp a.eval oi).run P w=.ok (.value v) w)
  (h:wpAnyC B Lf m P md os.toArray Q S E n L (a.put oi.dst v) w):wpAnyC B Lf m P md os.toArray Q S E (n+1) listed a w:=fun hl=>qzz hi hL hs hf hr hQ hw hy (h hl)
theorem zC(i:Nat)(L:Array Bool)(v:Value){n:Nat}{oi:Oper}{listed:Array Bool}{a:Act}{w:World}(hi:os[i]? = some oi)(hy:∀ w,(execOp a.eval oi).run P w=.ok (.value v) w)
  (h:wpAnyC B Lf m P md os.toArray Q S E n L (a.put oi.dst v) w) (hL:listed.setIfInBounds i true=L:=by rfl)
  (hs:Region.noSelect os.toArray=true:=by kernel_rfl) (hf:Region.free md os.toArray listed i=true:=by kernel_rfl) (hr:(Region.ready md os.toArray listed).contains i=true:=by kernel_rfl)
  (hQ:∀ c a w,Q (.panic c) (a.put oi.dst v) w->Q (.panic c) a w:=by exact fun _ _ _ h=>h) (hw:Region.wanted oi (yielded os.toArray a.tmps)=true:=by rfl):wpAnyC B Lf m P md os.toArray Q S E (n+1) listed a w:=pureC hi hL hs hf hr hQ hw hy h
theorem qmo{i n:Nat}{oi:Oper}{listed L:Array Bool}{a:Act}{w:World}(hi:os[i]? = some oi)(hL:listed.setIfInBounds i true=L)
  (hr:Region.ready md os.toArray listed=[i]) (hw:Region.wanted oi (yielded os.toArray a.tmps)=true)
  (h:∀ K':Act->World->Prop,Shut (∀ a w',((E.contains i=false->S w->S w')/\wpAnyC B Lf m P md os.toArray Q S E n L a w')->K' a w')->Oper.wp P oi a w K' Q) :
  wpAnyC B Lf m P md os.toArray Q S E (n+1) listed a w:=fun hl=>q1e hi hL hr hw fun K' hK=>h K' fun a w' hh=>hK a w' ⟨hh.1,hh.2 hl⟩
theorem qp1{i j n:Nat}{oi oj:Oper}{listed Li Lj:Array Bool}{a:Act}{w:World}(hi:os[i]? = some oi)(hj:os[j]? = some oj)(hLi:listed.setIfInBounds i true=Li)(hLj:listed.setIfInBounds j true=Lj)
  (hr:Region.ready md os.toArray listed=[i,j]) (hwi:Region.wanted oi (yielded os.toArray a.tmps)=true) (hwj:Region.wanted oj (yielded os.toArray a.tmps)=true)
  (h:∀ K':Act->World->Prop,Shut (∀ a w',((E.contains i=false->S w->S w')/\wpAnyC B Lf m P md os.toArray Q S E n Li a w')->K' a w')->Oper.wp P oi a w K' Q)
  (h':∀ K':Act->World->Prop,Shut (∀ a w',((E.contains j=false->S w->S w')/\wpAnyC B Lf m P md os.toArray Q S E n Lj a w')->K' a w')->Oper.wp P oj a w K' Q) :
  wpAnyC B Lf m P md os.toArray Q S E (n+1) listed a w:=fun hl=>qi0 hi hj hLi hLj hr hwi hwj (fun K' hK=>h K' fun a w' hh=>hK a w' ⟨hh.1,hh.2 hl⟩) (fun K' hK=>h' K' fun a w' hh=>hK a w' ⟨hh.1,hh.2 hl⟩)
end
end Go.Proofs.YtmbppgjhdcmckaaGreatDoor
namespace Go.Proofs.YtmbppgjhdcmckaaGreatDoor
open Go.RowKit
namespace Ma
open Dp Dy
theorem qzp{s1:Bool}{xs1:List Int}{e1:Int}{s2:Bool}{xs2:List Int}{e2 k:Int}{away:Bool}{x:Dn}{c:Int}(h:toX s1 xs1 e1 s2 xs2 e2 k away=(x,c)):x.May:=by
 unfold toX at h
 split at h
 . have:=qfn (dn s1 xs1 e1).neg ((qew (dn s1 xs1 e1) (dn s2 xs2 e2) k.toNat).1+if (qew (dn s1 xs1 e1) (dn s2 xs2 e2) k.toNat).2≠0/\away=true then 1 else 0) k.toNat
   unfold toD at h
   rw [h] at this
   exact this
 injection h with h1 h2
 subst h1
 exact qb8
end Ma
end Go.Proofs.YtmbppgjhdcmckaaGreatDoor
namespace Go.Proofs.YtmbppgjhdcmckaaGreatDoor
open Go.RowKit
namespace Dy
open Dp
def WrS(w:World)(b off n:Nat):Prop:=∀ j,j < n->(∃ u,w.cell? ⟨b,off+j,none⟩=some u)/\w.frozen? ⟨b,off+j,none⟩=false
theorem WrS.set_{w:World}{b off n:Nat}(h:WrS w b off n)(p:Addr)(v:Value):WrS (w.setCell p v) b off n:=fun j hj=>by
 obtain⟨⟨u,h1⟩,h2⟩:=h j hj
 refine⟨?_,by rw [World.frozen?_setCell]; exact h2⟩
 by_cases e:p=⟨b,off+j,none⟩
 . subst e
   exact⟨v,World.cell?_setCell_same' _ _ _ (by rw [h1]; rfl)⟩
 exact⟨u,(World.cell?_setCell_other _ _ _ _ e).trans h1⟩
theorem WrS.blk{w w':World}{b off n:Nat}(h:WrS w b off n)(hk:w'.heap[b]? = w.heap[b]?):WrS w' b off n:=fun j hj=>by
 obtain⟨⟨u,h1⟩,h2⟩:=h j hj
 exact⟨⟨u,by rw [World.cell?_of_block hk]; exact h1⟩,by rw [World.frozen?_of_block hk]; exact h2⟩
def WrR(w:World)(lo hi:Nat)(A:Option Addr)(n:Nat):Prop:=0 < n->∃ b off,A=some ⟨b,off,none⟩/\lo<=b/\b < hi/\WrS w b off n
theorem WrR.of{w:World}{lo hi n:Nat}{A:Option Addr}{xs:List Int}(h:qae w lo hi .u32 A n xs):WrR w lo hi A n:=fun h0=>by
 obtain⟨b,off,e,h1,h2,hc⟩:=h.row h0
 exact⟨b,off,e,h1,h2,fun j hj=>⟨⟨_,(hc j hj).1⟩,(hc j hj).2⟩⟩
theorem WrR.keep{w w':World}{lo hi n:Nat}{A:Option Addr}(h:WrR w lo hi A n)(hk:∀ b off k,WrS w b off k->WrS w' b off k):WrR w' lo hi A n:=fun h0=>by
 obtain⟨b,off,e,h1,h2,hW⟩:=h h0
 exact⟨b,off,e,h1,h2,hk _ _ _ hW⟩
end Dy
end Go.Proofs.YtmbppgjhdcmckaaGreatDoor
namespace Go.Proofs.YtmbppgjhdcmckaaGreatDoor
open Go.RowKit
namespace Ma
open Dp Dy
theorem qgf(w:World)(s:Bool)(A:Option Addr)(n c:Nat)(e:Int)(b:Bool)(hb:decide (n=0)=b) :
  Calls Tryz.prog 141 #[.agg #[.bool s,.slice A n c,.int .i64 e]] w fun e w'=>e=.returned (.bool b)/\Below w.heap.size w w':=by
 have fin:=(Below.refl w.heap.size w).alloc (Nat.le_refl _) (.cells #[.bool s,.slice A n c,.int .i64 e] 24)
 have B1:=heap_alloc_last w (.cells #[.bool s,.slice A n c,.int .i64 e] 24)
 generalize hw:w.alloc (.cells #[.bool s,.slice A n c,.int .i64 e] 24)=w1 at *
 obtain⟨⟨p1,p2,p3⟩,p4,p5,p6⟩:=qam B1
 by_cases h:n=0
 . have hb':b=true:=by rw [<-hb]; exact decide_eq_true h
   subst hb'
   subst h
   go_enter Tryz.func141,Tryz.ntmps141
   go_wp2
   go_ret
   exact⟨rfl,fin⟩
 have hb':b=false:=by rw [<-hb]; exact decide_eq_false h
 subst hb'
 have hxb:((n:Int)==0)=false:=by
  have:(n:Int)≠0:=by omega
  simpa using this
 go_enter Tryz.func141,Tryz.ntmps141
 go_wp2
 go_ret
 exact⟨rfl,fin⟩
theorem qwl(w:World)(m:Mv)(hR:MRows w 0 w.heap.size m)(b:Bool)(hb:qkg [m]=b) :
  Calls Tryz.prog 83 #[.agg #[.bool m.S.s,.slice m.S.A m.S.n m.S.c,.int .i64 m.S.e,.bool m.W.s,.slice m.W.A m.W.n m.W.c,.int .i64 m.W.e,.bool m.C.s,.slice m.C.A m.C.n m.C.c,.int .i64 m.C.e,.bool m.A.s,.slice m.A.A m.A.n m.A.c,.int .i64 m.A.e]] w fun e w'=>e=.returned (.bool (!b))/\Below w.heap.size w w':=by
 have HB:=Lib.hid hb
 clear hb
 have hM:=heap_alloc_last w (.cells #[.bool m.S.s,.slice m.S.A m.S.n m.S.c,.int .i64 m.S.e,.bool m.W.s,.slice m.W.A m.W.n m.W.c,.int .i64 m.W.e,.bool m.C.s,.slice m.C.A m.C.n m.C.c,.int .i64 m.C.e,.bool m.A.s,.slice m.A.A m.A.n m.A.c,.int .i64 m.A.e] 26)
 have j1:=(Below.refl w.heap.size w).alloc (Nat.le_refl _) (.cells #[.bool m.S.s,.slice m.S.A m.S.n m.S.c,.int .i64 m.S.e,.bool m.W.s,.slice m.W.A m.W.n m.W.c,.int .i64 m.W.e,.bool m.C.s,.slice m.C.A m.C.n m.C.c,.int .i64 m.C.e,.bool m.A.s,.slice m.A.A m.A.n m.A.c,.int .i64 m.A.e] 26)
 have S1:w.heap.size < (w.alloc (.cells #[.bool m.S.s,.slice m.S.A m.S.n m.S.c,.int .i64 m.S.e,.bool m.W.s,.slice m.W.A m.W.n m.W.c,.int .i64 m.W.e,.bool m.C.s,.slice m.C.A m.C.n m.C.c,.int .i64 m.C.e,.bool m.A.s,.slice m.A.A m.A.n m.A.c,.int .i64 m.A.e] 26)).heap.size:=by simp
 generalize hw:w.alloc (.cells #[.bool m.S.s,.slice m.S.A m.S.n m.S.c,.int .i64 m.S.e,.bool m.W.s,.slice m.W.A m.W.n m.W.c,.int .i64 m.W.e,.bool m.C.s,.slice m.C.A m.C.n m.C.c,.int .i64 m.C.e,.bool m.A.s,.slice m.A.A m.A.n m.A.c,.int .i64 m.A.e] 26)=w1 at *
 replace hM:qaz w1 w.heap.size m:=hM
 have Rm:MRows w1 0 w1.heap.size m:=hR.on j1
 have no:¬ m.share->b=true:=fun h=>by rw [<-HB.out]; exact qg3 (List.mem_singleton.2 rfl) h
 have yes:m.share->b=false:=fun h=>by rw [<-HB.out]; exact qdf.2 h
 go_enter Tryz.func83,Tryz.ntmps83
 obtain⟨⟨q10,q11,q12,q13,q14,q15,q16,q17,q18,q19,q110,q111⟩,q1f⟩:=qaz.cells hM
 by_cases hm:m.may
 rotate_left
 . have hb':b=true:=no (fun h=>hm h.1)
   subst hb'
   have HM:Hid (qr6 m=false):=Lib.hid (by cases h:qr6 m; rfl; exact absurd ((qm7 m).1 h) hm)
   clear hm no yes
   go_wp2_with fail
   refine (qq6 w1 m Rm false HM.out).mono ?_
   rintro e' v2 ⟨rfl,j3⟩
   clear q10 q11 q12 q13 q14 q15 q16 q17 q18 q19 q110 q111 q1f
   try clear hw
   go_wp2
   go_ret
   exact⟨rfl,(lz j1 j3)⟩
 skip
 have HM:=Lib.hid ((qm7 m).2 hm)
 go_wp2_with fail
 refine (qq6 w1 m Rm true HM.out).mono ?_
 rintro e' v4 ⟨rfl,j5⟩
 clear q10 q11 q12 q13 q14 q15 q16 q17 q18 q19 q110 q111 q1f
 try clear hw
 cases hs:m.W.s
 rotate_left
 . obtain⟨⟨q60,q61,q62,q63,q64,q65,q66,q67,q68,q69,q610,q611⟩,q6f⟩:=qaz.cells (qaa hM j5 S1)
   rw [hs] at q63
   have hb':b=true:=no (fun h=>by have:=h.2.1; rw [hs] at this; cases this)
   subst hb'
   clear hs no yes hm
   go_wp2
   go_ret
   exact⟨rfl,(lz j1 j5)⟩
 skip
 have HS:=Lib.hid hs
 obtain⟨⟨q70,q71,q72,q73,q74,q75,q76,q77,q78,q79,q710,q711⟩,q7f⟩:=qaz.cells (qaa hM j5 S1)
 rw [hs] at q73
 clear hs
 by_cases hn:m.W.n=0
 rotate_left
 . have hb':b=false:=yes ⟨hm,HS.out,fun h=>absurd h hn⟩
   subst hb'
   have HN:=Lib.hid hn
   clear hn no yes hm
   go_wp2_with fail
   refine (qgf v4 false m.W.A m.W.n m.W.c m.W.e false (decide_eq_false HN.out)).mono ?_
   rintro e' v8 ⟨rfl,j9⟩
   clear q70 q71 q72 q73 q74 q75 q76 q77 q78 q79 q710 q711 q7f
   try clear hw
   go_wp2
   go_ret
   exact⟨rfl,(lz j1 (lz j5 j9))⟩
 skip
 have HN:=Lib.hid hn
 clear hn
 go_wp2_with fail
 refine (qgf v4 false m.W.A m.W.n m.W.c m.W.e true (decide_eq_true HN.out)).mono ?_
 rintro e' v10 ⟨rfl,j11⟩
 clear q70 q71 q72 q73 q74 q75 q76 q77 q78 q79 q710 q711 q7f
 try clear hw
 obtain⟨⟨q120,q121,q122,q123,q124,q125,q126,q127,q128,q129,q1210,q1211⟩,q12f⟩:=qaz.cells (qaa hM (lz j5 j11) S1)
 by_cases hn:m.S.n=0
 rotate_left
 . have hb':b=true:=no (fun h=>hn (h.2.2 HN.out))
   subst hb'
   have HN1:=Lib.hid hn
   clear hn no yes hm
   go_wp2_with fail
   refine (qgf v10 m.S.s m.S.A m.S.n m.S.c m.S.e false (decide_eq_false HN1.out)).mono ?_
   rintro e' v13 ⟨rfl,j14⟩
   clear q120 q121 q122 q123 q124 q125 q126 q127 q128 q129 q1210 q1211 q12f
   try clear hw
   go_wp2
   go_ret
   exact⟨rfl,(lz j1 (lz j5 (lz j11 j14)))⟩
 skip
 have hb':b=false:=yes ⟨hm,HS.out,fun _=>hn⟩
 subst hb'
 have HN1:=Lib.hid hn
 clear hn no yes hm
 go_wp2_with fail
 refine (qgf v10 m.S.s m.S.A m.S.n m.S.c m.S.e true (decide_eq_true HN1.out)).mono ?_
 rintro e' v15 ⟨rfl,j16⟩
 clear q120 q121 q122 q123 q124 q125 q126 q127 q128 q129 q1210 q1211 q12f
 try clear hw
 go_wp2
 go_ret
 exact⟨rfl,(lz j1 (lz j5 (lz j11 j16)))⟩
end Ma
end Go.Proofs.YtmbppgjhdcmckaaGreatDoor
namespace Go.Proofs.YtmbppgjhdcmckaaGreatDoor
open Go.RowKit
namespace Dy
open Dp
def qrn(ws:List Int):Array Value:=(ws.map (Value.int .u8)).toArray
theorem qw9(ws:List Int){j:Nat}(h:j < ws.length):(qrn ws)[j]? = some (.int .u8 (ws[j]?.getD 0)):=by
 simp [qrn,h]
theorem qw8(ws:List Int)(j:Nat)(v:Int):(qrn ws).setIfInBounds j (.int .u8 v)=qrn (ws.set j v):=by
 simp [qrn,List.map_set]
structure Qb(w:World)(g n t:Nat)(qh:List Int):Prop where
 blk:w.heap[g]? = some (.cells (qrn (List.replicate t 0++qh)) 5 (0,0))
 len:t+qh.length=n
 dig:Dig 2 qh
theorem qzw(t:Nat)(qh:List Int)(d:Int):(List.replicate (t+1) 0++qh).set t d=List.replicate t 0++(d::qh):=by
 rw [List.replicate_succ',List.append_assoc,List.set_append]
 simp
theorem qxb(t:Nat)(qh:List Int):(List.replicate (t+1) (0:Int)++qh)=List.replicate t 0++(0::qh):=by
 rw [List.replicate_succ',List.append_assoc]
 rfl
theorem Qb.next{w:World}{g n t:Nat}{qh:List Int}(h:Qb w g n (t+1) qh):Qb w g n t (0::qh) :=
 ⟨by rw [<-qxb]; exact h.blk,by have:=h.len; simp; omega,fun x hx=>by
  rcases List.mem_cons.1 hx with rfl|hx
  . decide
  exact h.dig x hx⟩
theorem Qb.set{w:World}{g n t:Nat}{qh:List Int}(h:Qb w g n (t+1) qh):Qb (w.setCell ⟨g,t,none⟩ (.int .u8 1)) g n t (1::qh) :=
 ⟨by rw [heap_setCell_same w g t _ _ _ h.blk,qw8,qzw],by have:=h.len; simp; omega,fun x hx=>by
  rcases List.mem_cons.1 hx with rfl|hx
  . decide
  exact h.dig x hx⟩
theorem Qb.on{w w':World}{g n t B:Nat}{qh:List Int}(h:Qb w g n t qh)(hb:Below B w w')(hB:g < B):Qb w' g n t qh:=⟨(hb.block g hB).trans h.blk,h.len,h.dig⟩
theorem Qb.cell{w:World}{g n t:Nat}{qh:List Int}(h:Qb w g n t qh){j:Nat}(hj:j < n):w.cell? ⟨g,j,none⟩=some (.int .u8 ((List.replicate t 0++qh)[j]?.getD 0)):=by
 rw [cell_of_row w g j _ _ _ h.blk]
 exact qw9 _ (by have:=h.len; simp; omega)
theorem Qb.free{w:World}{g n t:Nat}{qh:List Int}(h:Qb w g n t qh)(j:Nat):w.frozen? ⟨g,j,none⟩=false:=frozen_of_row w g j _ _ h.blk
theorem Qb.ints{w:World}{g n:Nat}{qh:List Int}(h:Qb w g n 0 qh)(hn:n<=1000000):qae w g (g+1) .u8 (some ⟨g,0,none⟩) n qh :=
 ⟨by have:=h.len; omega,fun x hx=>by
  have:=h.dig x hx
  simp only [IntKind.min,IntKind.max,IntKind.signed,IntKind.bits]
  omega,by omega,fun _=>⟨g,0,rfl,Nat.le_refl _,Nat.lt_succ_self _,fun j hj=>⟨by
   rw [Nat.zero_add,h.cell hj]
   rfl,h.free _⟩⟩⟩
theorem q0c(n:Nat)(hn:n<=1000000)(W:World):(Instr.makeSlice 171 (.int .i64 n) (.int .i64 n)).run Tryz.prog W=.ok (.slice (some ⟨W.heap.size,0,none⟩) n n) (W.alloc (.cells (qrn (List.replicate n 0)) 5)):=by
 obtain⟨i0,hi0,hz0,hz1,hz2⟩:=info_parts Tryz.info5
 have:=run_make (P:=Tryz.prog) W 171 5 i0 (.int .u8 0) Tryz.underlying171 hi0 hz0 .i64 .i64 n n (by omega) (Int.le_refl _) (by rw [hz2]; omega) (by omega)
 rw [hz1,Int.toNat_natCast,Nat.mul_one] at this
 have e:madeCells (Value.int .u8 0).cells n=qrn (List.replicate n 0):=by
  unfold madeCells qrn
  apply Array.ext'
  simp [Value.cells,Nat.mod_one]
  rw [List.map_const',List.length_range]
 rw [e] at this
 exact this
theorem qye{B p v:Nat}{l:List Int}(h:num B l=v):num B ((p:Int)::l)=p+B*v:=by
 rw [<-h]
 simp [num]
theorem qju{x y:Nat}(h:x<=y):(qaf 2 x).length<=(qaf 2 y).length:=by
 obtain⟨d1,c1,n1⟩:=qah 2 x (by decide)
 obtain⟨d2,c2,n2⟩:=qah 2 y (by decide)
 by_cases h0:qaf 2 x=[]
 . rw [h0]
   exact Nat.zero_le _
 have g1:=qui d1 c1 h0
 rw [n1] at g1
 have g2:=qc0 2 (by decide) _ d2
 rw [n2] at g2
 by_cases hle:(qaf 2 x).length<=(qaf 2 y).length
 . exact hle
 have:=Nat.pow_le_pow_right (show 0 < 2 by decide) (show (qaf 2 y).length<=(qaf 2 x).length-1 by omega)
 omega
theorem q0m{a b:Nat}:(ql5 a b≥0)↔b<=a:=by
 unfold ql5
 split
 . omega
 split<;>omega
theorem qu3{xs:List Int}{k x Y:Nat}(hk:k < xs.length)(hx:xs[k]?.getD 0=(x:Int))(hx1:x<=1)(hY:0 < Y){H R Q:Nat}(hH:num 2 (xs.drop (k+1))=H)(hR:H%Y=R)(hQ:H/Y=Q) :
  num 2 (xs.drop k)=2*H+x/\(Y<=2*R+x->(2*H+x)%Y=2*R+x-Y/\(2*H+x)/Y=2*Q+1)/\(2*R+x < Y->(2*H+x)%Y=2*R+x/\(2*H+x)/Y=2*Q):=by
 subst hR hQ
 refine⟨?_,(ql3 hY hx1).1,(ql3 hY hx1).2⟩
 rw [ql2 2 hk,hx,hH,Int.toNat_natCast]
 omega
theorem qyw(w:World)(lo hi lo' hi':Nat)(A:Option Addr)(n c X:Nat)(hX:qae w lo hi .u8 A n (qaf 2 X))(B:Option Addr)(m d Y:Nat)(hY:qae w lo' hi' .u8 B m (qaf 2 Y))
  (hhi:hi<=w.heap.size) (hhi':hi'<=w.heap.size) (hn:n<=100000) (hm:m<=100000) (hY0:0 < Y) (q r:Nat) (hq:X/Y=q) (hr:X%Y=r) :
  Calls Tryz.prog 184 #[.slice A n c,.slice B m d] w fun e w'=>∃ A1 n1 c1 A2 n2 c2,e=.returned (.tuple #[.slice A1 n1 c1,.slice A2 n2 c2])/\n1<=c1/\n1<=n/\n2<=c2/\Below w.heap.size w w'/\qae w' w.heap.size w'.heap.size .u8 A1 n1 (qaf 2 q)/\qae w' w.heap.size w'.heap.size .u8 A2 n2 (qaf 2 r):=by
 obtain⟨hdx,_,hx⟩:=qah 2 X (by decide)
 obtain⟨hdy,hcy,hy⟩:=qah 2 Y (by decide)
 obtain⟨xs,hxs⟩:∃ xs,qaf 2 X=xs:=⟨_,rfl⟩
 rw [hxs] at hX hdx hx
 clear hxs
 have HL:=Lib.hid hX.len
 have HX:=Lib.hid hx
 have HY:=Lib.hid hy
 have HQ:=Lib.hid hq
 have HR:=Lib.hid hr
 have HDX:=Lib.hid hdx
 have HDY:=Lib.hid hdy
 clear hx hy hq hr hdx hdy hcy
 obtain⟨i0,hi0,hz0,hz1,hz2⟩:=info_parts Tryz.info5
 have hmk:=q0c n (by omega) w
 have hB0:=(Below.refl w.heap.size w).alloc (Nat.le_refl _) (.cells (qrn (List.replicate n 0)) 5)
 have hG0:=heap_alloc_last w (.cells (qrn (List.replicate n 0)) 5)
 have hS0:w.heap.size < (w.alloc (.cells (qrn (List.replicate n 0)) 5)).heap.size:=by simp
 go_enter Tryz.func184,Tryz.ntmps184
 go_wp2
 generalize hw:w.alloc (.cells (qrn (List.replicate n 0)) 5)=w0 at *
 clear hw hmk
 go_loopw [7,8] (fun rv iv wr=>∃ t:Nat,∃ i:Int,∃ qh:List Int,∃ Ar nr cr,iv=.int .i64 i/\i=(t:Int)-1/\rv=.slice Ar nr cr/\t<=n/\nr<=cr/\Qb wr w.heap.size n t qh/\qae wr (w.heap.size+1) wr.heap.size .u8 Ar nr (qaf 2 (num 2 (xs.drop t)%Y))/\Hid (num 2 qh=num 2 (xs.drop t)/Y)/\Below w.heap.size w wr/\w.heap.size < wr.heap.size) (fun _ iv _=>(intOf iv+1).toNat)
 case atStart =>
  have hdr:xs.drop n=[]:=List.drop_eq_nil_of_le (by have:=HL.out; omega)
  refine⟨n,_,[],none,0,0,rfl,rfl,rfl,Nat.le_refl _,Nat.le_refl _,⟨by rw [List.append_nil]; exact hG0,by simp,fun x hx=>absurd hx (by simp)⟩,?_,Lib.hid ?_,hB0,hS0⟩
  . rw [hdr]
    show qae _ _ _ _ _ _ (qaf 2 (0%Y))
    rw [Nat.zero_mod]
    exact qae.nil_ ..
  rw [hdr]
  show 0=0/Y
  rw [Nat.zero_div]
 clear hB0 hG0 hS0
 obtain⟨t,i,qh,Ar,nr,cr,rfl,hi,rfl,htn,hrc,hQb,hRr,hHid,hB,hS⟩:=hrel
 rcases t with _|k
 . have hi1:i=-1:=by omega
   subst hi1
   have hq2:num 2 qh=q:=by rw [hHid.out,List.drop_zero,HX.out,HQ.out]
   have hr2:num 2 (xs.drop 0)%Y=r:=by rw [List.drop_zero,HX.out,HR.out]
   rw [hr2] at hRr
   have hI:=hQb.ints (by omega)
   have hdg:=hQb.dig
   have H2:=Lib.hid hq2
   clear hHid hq2 hr2 hQb hi
   go_wp2_with fail
   refine (qev wr _ _ _ n n qh hI hdg (Nat.le_refl _)).mono ?_
   rintro e w' ⟨⟨m',rfl,hm',hC⟩,rfl⟩
   rw [H2.out] at hC
   go_wp2
   go_ret2
   exact⟨_,m',n,Ar,nr,cr,rfl,by omega,hm',hrc,hB,hC.more (Nat.le_refl _) (by omega),hRr.more (by omega) (Nat.le_refl _)⟩
 have hi1:i=(k:Int):=by omega
 subst hi1
 have hkl:k < xs.length:=by have:=HL.out; omega
 have hYm:=hY.below hB hhi'
 obtain⟨b,off,hA,hb1,hb2,hc⟩:=(hX.below hB hhi).row (by omega)
 subst hA
 obtain⟨ck1,ck2⟩:=hc k (by omega)
 obtain⟨x,hx,hx1⟩:=qa3 (by decide) HDX.out k
 rw [hx] at ck1
 obtain⟨H,hH⟩:∃ H,num 2 (xs.drop (k+1))=H:=⟨_,rfl⟩
 rw [hH] at hRr hHid
 obtain⟨R,hR⟩:∃ R,H%Y=R:=⟨_,rfl⟩
 rw [hR] at hRr
 have hRY:R < Y:=by rw [<-hR]; exact Nat.mod_lt _ hY0
 obtain⟨st1,st2,st3⟩:=qu3 hkl hx (by omega) hY0 hH hR hHid.out.symm
 have HS:=Lib.hid st1
 have ST2:=Lib.hid st2
 have ST3:=Lib.hid st3
 clear st1 st2 st3 hx hc hH hR hi
 have hnr:=hRr.len
 have hnr2:nr<=m:=by
  have h1:=qju (Nat.le_of_lt hRY)
  have h2:=hY.len
  omega
 have hX6:(wr.alloc (.cells #[.int .u8 (x:Int)] 5)).heap[wr.heap.size]? = some (.cells #[.int .u8 (x:Int)] 5 (0,0)):=heap_alloc_last wr _
 have hB6:Below wr.heap.size wr (wr.alloc (.cells #[.int .u8 (x:Int)] 5)):=(Below.refl _ _).alloc (Nat.le_refl _) _
 have hR6:=hRr.alloc (Nat.le_refl _) (.cells #[.int .u8 (x:Int)] 5)
 have hS6:wr.heap.size<=(wr.alloc (.cells #[.int .u8 (x:Int)] 5)).heap.size:=hB6.size
 clear hnr
 go_wp2_with (first
  | (at_builtin; refine qag _ rfl (.tmp 23) (.tmp 24) 171 rfl wr.heap.size 5 i0 (.int .u8 0) 1 1 Tryz.underlying171 hi0 hz0 hz1 hz2 rfl (by decide) (.slice (some ⟨wr.heap.size,0,none⟩) 1 1) 1 [.int .u8 (x:Int)] rfl (qlj hX6) _ _ Ar nr cr _ rfl hR6.raw ?c1 ?c2 ?c3 ?c4 ?_))
 case c1=>exact ints_oneCell _ _
 case c2=>unfold maxLen; omega
 case c3=>omega
 case c4=>exact hS6
 intro A2 c2 w2 hown2 hgrow2 _
 have hb2:Below wr.heap.size wr w2:=hB6.grown hgrow2 hS6 (fun q hq=>by cases hq; exact Nat.le_refl _)
 replace hown2:w2.ownsRow wr.heap.size 5 1 (.slice A2 (1+nr) c2) (1+nr) (((x:Int)::qaf 2 R).map (Value.int .u8)):=hown2
 have hdg:Dig 2 ((x:Int)::qaf 2 R):=fun y hy=>by
  rcases List.mem_cons.1 hy with rfl|hy
  . exact⟨by omega,by omega⟩
  exact (qah 2 R (by decide)).1 y hy
 have hnv:num 2 ((x:Int)::qaf 2 R)=2*R+x:=by rw [qye (qah 2 R (by decide)).2.2]; omega
 have hc2:=qd0 hown2
 have hI2:=qae.of_own hown2 (fun y hy=>by
  have:=hdg y hy
  simp only [IntKind.min,IntKind.max,IntKind.signed,IntKind.bits]
  omega) (by omega)
 have HNV:=Lib.hid hnv
 have hQ2:=hQb.on hb2 hS
 have hY2:=hYm.below hb2 (by omega)
 have hB2:=hB.trans (hb2.mono (by omega))
 have l2:=hb2.size
 clear hown2 hgrow2 hb2 hB6 hX6 hR6 hS6 hnv hQb hYm hRr ck1 ck2
 go_wp2_with fail
 refine (qev w2 _ _ A2 (1+nr) c2 _ hI2 hdg hc2).mono ?_
 rintro e w' ⟨⟨m2,rfl,hm2,hC⟩,rfl⟩
 rw [HNV.out] at hC
 obtain⟨V,hV⟩:∃ V,2*R+x=V:=⟨_,rfl⟩
 rw [hV] at hC
 have hcl:=hC.len
 have hyl:=hY2.len
 have HV:=Lib.hid hV
 obtain⟨ρ,hρ⟩:∃ ρ,ql5 V Y=ρ:=⟨_,rfl⟩
 have hge:=q0m (a:=V) (b:=Y)
 rw [hρ] at hge
 have Hρ:Hid (ql5 (num 2 (qaf 2 V)) (num 2 (qaf 2 Y))=ρ):=Lib.hid (by rw [(qah 2 V (by decide)).2.2,(qah 2 Y (by decide)).2.2]; exact hρ)
 have HGE:=Lib.hid hge
 have hm3:Hid (Y<=V->m<=m2):=Lib.hid fun h=>by
  have:=qju h
  omega
 clear hV hρ hge hcl hyl hI2 hdg HNV
 go_wp2_with fail
 refine (qe9 w' _ _ _ _ A2 m2 c2 _ hC B m d _ hY2 (qah 2 V (by decide)).1 (qah 2 Y (by decide)).1 (by omega) (by omega) ρ Hρ.out).mono ?_
 rintro e w3 ⟨rfl,rfl⟩
 by_cases hYV:Y<=V
 . have hρ0:0<=ρ:=HGE.out.2 hYV
   have hρb:decide (0<=ρ)=true:=decide_eq_true hρ0
   have hmm:=hm3.out hYV
   obtain⟨e1,e2⟩:=ST2.out (by rw [HV.out]; exact hYV)
   have E1:=Lib.hid e1
   have E2:=Lib.hid e2
   clear e1 e2
   go_wp2_with fail
   refine (qhb w3 _ _ _ _ A2 m2 c2 _ hC B m d _ hY2 (qah 2 V (by decide)).1 (qah 2 Y (by decide)).1 (Nat.le_refl _) (by omega) (by omega) hmm (by rw [(qah 2 V (by decide)).2.2,(qah 2 Y (by decide)).2.2]; exact hYV) (V-Y) (by rw [(qah 2 V (by decide)).2.2,(qah 2 Y (by decide)).2.2])).mono ?_
   rintro e w4 ⟨A3,n3,c3,rfl,hn3,hb4,hI4⟩
   have hQ4:=hQ2.on hb4 (by omega)
   have hB4:=hB2.trans (hb4.mono (by omega))
   have l4:=hb4.size
   have hcell:=hQ4.cell (j:=k) (by omega)
   have hfree:=hQ4.free k
   have hQ5:=hQ4.set
   have hB5:=hB4.setCell (p:=⟨w.heap.size,k,none⟩) (Nat.le_refl _) (.int .u8 1)
   have hI5:=qaq (w':=w4.setCell ⟨w.heap.size,k,none⟩ (.int .u8 1)) hI4 (fun b h1 h2=>Below.heap_setCell _ _ _ _ (show b≠w.heap.size by omega))
   have hS5:(w4.setCell ⟨w.heap.size,k,none⟩ (.int .u8 1)).heap.size=w4.heap.size:=by simp [World.setCell]
   have hS5':w4.heap.size<=(w4.setCell ⟨w.heap.size,k,none⟩ (.int .u8 1)).heap.size:=Nat.le_of_eq hS5.symm
   clear hS5 hb4 hQ4 hB4
   go_wp2
   generalize w4.setCell ⟨w.heap.size,k,none⟩ (.int .u8 1)=w5 at *
   go_roundw
   case rel=>exact⟨k,_,1::qh,A3,n3,c3,rfl,rfl,rfl,by omega,hn3,hQ5,by
    rw [HS.out,E1.out,HV.out]
    exact hI5.more (by omega) (by omega),Lib.hid (by
    rw [HS.out,E2.out]
    show 1+2*num 2 qh=_
    omega),hB5,by omega⟩
   case measure=>first | (simp [intOf]; done) | (simp [intOf]; omega)
 have hρ0:¬ 0<=ρ:=fun h=>hYV (HGE.out.1 h)
 have hρb:decide (0<=ρ)=false:=decide_eq_false hρ0
 obtain⟨e1,e2⟩:=ST3.out (by rw [HV.out]; omega)
 have E1:=Lib.hid e1
 have E2:=Lib.hid e2
 have hQ5:=hQ2.next
 clear e1 e2 hQ2
 go_wp2
 go_roundw
 case rel=>exact⟨k,_,0::qh,A2,m2,c2,rfl,rfl,rfl,by omega,by omega,hQ5,by
  rw [HS.out,E1.out,HV.out]
  exact hC.more (by omega) (Nat.le_refl _),Lib.hid (by
  rw [HS.out,E2.out]
  show 0+2*num 2 qh=_
  omega),hB2,by omega⟩
 case measure=>first | (simp [intOf]; done) | (simp [intOf]; omega)
end Dy
end Go.Proofs.YtmbppgjhdcmckaaGreatDoor
namespace Go.Proofs.YtmbppgjhdcmckaaGreatDoor
open Go.RowKit
namespace Dy
open Dp
open Ma (Dv Dv.may qn3)
open Classical in
theorem qlq{d:Dv}(h:d.may):qn3 d=true:=by
 unfold qn3
 exact decide_eq_true h
open Classical in
theorem quu{d:Dv}(h:¬ d.may):qn3 d=false:=by
 unfold qn3
 exact decide_eq_false h
theorem qfi(w:World)(s1 s2:Bool)(A1 A2:Option Addr)(n1 c1 n2 c2:Nat)(xs1 xs2:List Int)(e1 e2:Int)(h1:qae w 0 w.heap.size .u32 A1 n1 xs1)(h2:qae w 0 w.heap.size .u32 A2 n2 xs2)(k:Int)(q:Int)(h:qez s1 xs1 e1 s2 xs2 e2 k=q) :
  Calls Tryz.prog 142 #[.agg #[.bool s1,.slice A1 n1 c1,.int .i64 e1],.agg #[.bool s2,.slice A2 n2 c2,.int .i64 e2],.int .i64 k] w fun e w'=>e=.returned (.int .i64 q)/\Below w.heap.size w w':=by
 have H:=Lib.hid h
 have HL2:=Lib.hid h2.len
 clear h
 generalize hw:(w.alloc (.cells #[.bool s1,.slice A1 n1 c1,.int .i64 e1] 24)).alloc (.cells #[.bool s2,.slice A2 n2 c2,.int .i64 e2] 24)=w1
 obtain⟨D1,D2,b1,l1,l2⟩:=qpd w _ _ hw
 replace h1:=h1.below b1 (Nat.le_refl _)
 replace h2:=h2.below b1 (Nat.le_refl _)
 obtain⟨⟨p0,p1,p2⟩,p3,p4,p5⟩:=qam D1
 by_cases m1:qik s1 xs1 e1
 . by_cases m2:qik s2 xs2 e2
   . have hq:(if s2=true∨xs2=[]∨k < 0∨64 < k then (2:Int) else 0)=q:=by
       have:=H.out
       unfold qez at this
       rwa [if_pos ⟨m1,m2⟩] at this
     have HQ:=Lib.hid hq
     have k1:=Lib.hid (qlq (d:=⟨s1,A1,n1,c1,e1,xs1⟩) m1)
     have k2:=Lib.hid (qlq (d:=⟨s2,A2,n2,c2,e2,xs2⟩) m2)
     clear hq m1 m2
     go_enter Tryz.func142,Tryz.ntmps142
     go_wp2_with fail
     try clear hw
     refine (Ma.rMay_all w1 ⟨s1,A1,n1,c1,e1,xs1⟩ (h1.more (Nat.le_refl _) (by omega)) true k1.out).mono ?_
     rintro e w2 ⟨rfl,hB⟩
     have ls2:=hB.size
     replace h2:=h2.below hB (by omega)
     replace D2:=(hB.block _ (by omega)).trans D2
     replace b1:=b1.trans (hB.mono (by omega))
     clear hB p0 p1 p2 p3 p4 p5 D1 h1
     obtain⟨⟨p0,p1,p2⟩,p3,p4,p5⟩:=qam D2
     go_wp2_with fail
     refine (Ma.rMay_all w2 ⟨s2,A2,n2,c2,e2,xs2⟩ (h2.more (Nat.le_refl _) (by omega)) true k2.out).mono ?_
     rintro e w3 ⟨rfl,hB⟩
     replace D2:=(hB.block _ (by omega)).trans D2
     replace b1:=b1.trans (hB.mono (by omega))
     clear hB p0 p1 p2 p3 p4 p5 h2
     obtain⟨⟨p0,p1,p2⟩,p3,p4,p5⟩:=qam D2
     cases s2
     . by_cases hx:n2=0
       . have hq2:q=2:=by
           rw [<-HQ.out,if_pos (.inr (.inl (List.eq_nil_of_length_eq_zero (by rw [HL2.out]; exact hx))))]
         subst hq2
         have hxb:((n2:Int)==0)=true:=by simpa using hx
         go_wp2
         go_ret
         exact⟨rfl,b1⟩
       have hxb:((n2:Int)==0)=false:=by simpa using hx
       have hxs:xs2≠[]:=fun e=>hx (by rw [<-HL2.out,e]; rfl)
       by_cases hk0:k < 0
       . have hq2:q=2:=by rw [<-HQ.out,if_pos (.inr (.inr (.inl hk0)))]
         subst hq2
         go_wp2
         go_ret
         exact⟨rfl,b1⟩
       by_cases hk1:64 < k
       . have hq2:q=2:=by rw [<-HQ.out,if_pos (.inr (.inr (.inr hk1)))]
         subst hq2
         go_wp2
         go_ret
         exact⟨rfl,b1⟩
       have hq2:q=0:=by rw [<-HQ.out,if_neg (by rintro (h | h | h | h); cases h; exact hxs h; exact hk0 h; exact hk1 h)]
       subst hq2
       go_wp2
       go_ret
       exact⟨rfl,b1⟩
     have hq2:q=2:=by rw [<-HQ.out,if_pos (.inl rfl)]
     subst hq2
     go_wp2
     go_ret
     exact⟨rfl,b1⟩
   have hq:8=q:=by
    have:=H.out
    unfold qez at this
    rwa [if_neg (fun h=>m2 h.2)] at this
   subst hq
   have k1:=Lib.hid (qlq (d:=⟨s1,A1,n1,c1,e1,xs1⟩) m1)
   have k2:=Lib.hid (quu (d:=⟨s2,A2,n2,c2,e2,xs2⟩) m2)
   clear m1 m2
   go_enter Tryz.func142,Tryz.ntmps142
   go_wp2_with fail
   try clear hw
   refine (Ma.rMay_all w1 ⟨s1,A1,n1,c1,e1,xs1⟩ (h1.more (Nat.le_refl _) (by omega)) true k1.out).mono ?_
   rintro e w2 ⟨rfl,hB⟩
   have ls2:=hB.size
   replace h2:=h2.below hB (by omega)
   replace D2:=(hB.block _ (by omega)).trans D2
   replace b1:=b1.trans (hB.mono (by omega))
   clear hB p0 p1 p2 p3 p4 p5 D1 h1
   obtain⟨⟨p0,p1,p2⟩,p3,p4,p5⟩:=qam D2
   go_wp2_with fail
   refine (Ma.rMay_all w2 ⟨s2,A2,n2,c2,e2,xs2⟩ (h2.more (Nat.le_refl _) (by omega)) false k2.out).mono ?_
   rintro e w3 ⟨rfl,hB⟩
   replace b1:=b1.trans (hB.mono (by omega))
   clear hB p0 p1 p2 p3 p4 p5 h2
   go_wp2
   go_ret
   exact⟨rfl,b1⟩
 have hq:8=q:=by
  have:=H.out
  unfold qez at this
  rwa [if_neg (fun h=>m1 h.1)] at this
 subst hq
 have k1:=Lib.hid (quu (d:=⟨s1,A1,n1,c1,e1,xs1⟩) m1)
 clear m1
 go_enter Tryz.func142,Tryz.ntmps142
 go_wp2_with fail
 try clear hw
 refine (Ma.rMay_all w1 ⟨s1,A1,n1,c1,e1,xs1⟩ (h1.more (Nat.le_refl _) (by omega)) false k1.out).mono ?_
 rintro e w2 ⟨rfl,hB⟩
 replace b1:=b1.trans (hB.mono (by omega))
 clear hB p0 p1 p2 p3 p4 p5
 go_wp2
 go_ret
 exact⟨rfl,b1⟩
theorem qlm{w:World}{g:Nat}(h:w.heap[g]? = some (.cells #[.int .u8 1] 5 (0,0))):qae w g (g+1) .u8 (some ⟨g,0,none⟩) 1 [1] :=
 ⟨rfl,fun x hx=>by rw [List.mem_singleton.1 hx]; decide,by decide,fun _=>⟨g,0,rfl,Nat.le_refl _,Nat.lt_succ_self _,fun j hj=>by
  obtain rfl:j=0:=by omega
  exact⟨cell_of_row w g 0 _ _ _ h,frozen_of_row w g 0 _ _ h⟩⟩⟩
theorem qjt{w:World}{lo hi:Nat}{A:Option Addr}{n m:Nat}(h:qae w lo hi .u8 A n (qaf 2 m)):(m=0->n=0)/\(m≠0->0 < n):=by
 have hl:=h.len
 constructor
 . rintro rfl
   rw [<-hl]
   rfl
 intro h0
 rcases Nat.eq_zero_or_pos n with h1|h1
 . rw [h1] at hl
   exact absurd (qc5 (by decide) (List.eq_nil_of_length_eq_zero hl)) h0
 exact h1
theorem qf6{w:World}{lo hi:Nat}{A:Option Addr}{n m:Nat}(h:qae w lo hi .u8 A n (qaf 2 m)):(qaf 2 (m+1)).length<=n+1:=by
 have h1:=qah 2 m (by decide)
 have h2:=qc0 2 (by decide) _ h1.1
 rw [h1.2.2,h.len] at h2
 refine qjr (by decide) ?_
 have:0 < 2^n:=Nat.pow_pos (by decide)
 rw [Nat.pow_succ]
 omega
theorem qi2(w:World)(a b:Dn)(ha:a.May)(hb_:b.May)(hb0:b.m≠0)(A1 A2:Option Addr)(n1 c1 n2 c2:Nat)(h1:qae w 0 w.heap.size .u32 A1 n1 (qaf 4294967296 a.m))(h2:qae w 0 w.heap.size .u32 A2 n2 (qaf 4294967296 b.m))(k:Nat)(hk:k<=64)(kk:Int)(hkk:kk=k)(up:Bool)(v:Nat)(hv:(qew a b k).1+(if (qew a b k).2≠0/\up≠a.neg then 1 else 0)=v) :
  Calls Tryz.prog 143 #[.agg #[.bool a.neg,.slice A1 n1 c1,.int .i64 a.e],.agg #[.bool b.neg,.slice A2 n2 c2,.int .i64 b.e],.int .i64 kk,.bool up] w fun e w'=>∃ A n c,e=.returned (.agg #[.bool a.neg,.slice A n c])/\n<=c/\n<=3000/\Below w.heap.size w w'/\qae w' w.heap.size w'.heap.size .u8 A n (qaf 2 v):=by
 have hn1:=qek h1 ha
 have hn2:=qek h2 hb_
 have ea:a.e<=1024:=ha.2.1
 have eb:b.e<=1024:=hb_.2.1
 have hsum:IntKind.i64.wrap ((b.e:Int)+kk)=((b.e+k:Nat):Int):=by rw [hkk,IntKind.wrap_i64]; omega
 have HS:=Lib.hid hsum
 have HV:=Lib.hid hv
 have CA:=qah 4294967296 a.m (by decide)
 have CB:=qah 4294967296 b.m (by decide)
 have hda:=Lib.hid CA.1
 have hdb:=Lib.hid CB.1
 have hna:=Lib.hid CA.2.2
 have hnb:=Lib.hid CB.2.2
 have hY0:0 < 2^a.e*b.m:=Nat.mul_pos (Nat.pow_pos (by decide)) (Nat.pos_of_ne_zero hb0)
 obtain⟨q,hq⟩:∃ q,(qew a b k).1=q:=⟨_,rfl⟩
 obtain⟨r,hr⟩:∃ r,(qew a b k).2=r:=⟨_,rfl⟩
 have hq2:2^(b.e+k)*a.m/(2^a.e*b.m)=q:=by
  rw [<-hq,Nat.mul_comm _ a.m,Nat.mul_comm _ b.m]
  rfl
 have hr2:2^(b.e+k)*a.m%(2^a.e*b.m)=r:=by
  rw [<-hr,Nat.mul_comm _ a.m,Nat.mul_comm _ b.m]
  rfl
 rw [hq,hr] at hv
 have HQ:=Lib.hid hq2
 have HR:=Lib.hid hr2
 replace HV:=Lib.hid hv
 clear hkk hsum hv CA CB ha hb_ hb0 hq hr hq2 hr2
 generalize hw:((w.alloc (.cells #[.bool a.neg,.slice A1 n1 c1,.int .i64 a.e] 24)).alloc (.cells #[.bool b.neg,.slice A2 n2 c2,.int .i64 b.e] 24)).alloc (.cells #[.bool false,.slice none 0 0] 173)=w1
 obtain⟨D1,D2,D3,b1,l1,l2⟩:=qcn w _ _ _ hw
 have S1:w.heap.size < w1.heap.size:=by omega
 have S2:w.heap.size+1 < w1.heap.size:=by omega
 have S3:w.heap.size+1+1 < w1.heap.size:=by omega
 go_enter Tryz.func143,Tryz.ntmps143
 go_wp2_with fail
 try clear hw
 try clear hw
 refine zB (qan w1) [] 9 ?_
 have j2:Below w1.heap.size w1 w1.drew:=(Below.refl _ _).drew
 generalize w1.drew=v1 at *
 refine zM 3 [0,3,5] ?_ ?_
 have kpy3:qan w1 v1:=fun p hp=>Below.block j2 p hp
 refine zD 1 (.slice A1 n1 c1) rfl ?y3 ?z4
 case y3 =>
  intro w' h1
  obtain⟨⟨p1,p2,p3⟩,p4,p5,p6⟩:=qam ((h1 _ S1).trans D1)
  go_simp
 try simp only [Act.put,zp]
 have kpy5:qan w1 v1:=fun p hp=>Below.block j2 p hp
 refine zD 4 (.int .i64 b.e) rfl ?y5 ?z6
 case y5 =>
  intro w' h1
  obtain⟨⟨p1,p2,p3⟩,p4,p5,p6⟩:=qam ((h1 _ S2).trans D2)
  go_simp
 try simp only [Act.put,zp]
 have hsum:=HS.out
 refine zM 1 [6] ?_ ?_
 clear hsum HS
 refine zK 2 rfl fun K hK=>?_
 go_simp
 go_at_call 183
 refine (qhz v1 0 _ A1 n1 c1 _ (qao h1 (lz b1 j2)) hda.out (Nat.le_refl _) (by omega) a.m hna.out).mono ?_
 rintro e' v7 ⟨P3,m3,o3,rfl,hc3,hn23,j8,J3⟩
 refine hK _ _ ⟨fun _ _=>fun p hp=>Below.block (lz j2 j8) p hp,?_⟩
 clear hK K
 try simp only [Act.put,zp]
 refine zK 7 rfl fun K hK=>?_
 go_simp
 go_at_call 182
 refine (qhx v7 _ _ P3 m3 o3 a.m J3 (Nat.le_refl _) (by omega) (b.e+k) _ rfl (by omega)).mono ?_
 rintro e' v9 ⟨P4,m4,o4,rfl,hc4,hn24,j10,J4⟩
 refine hK _ _ ⟨fun _ _=>fun p hp=>Below.block (lz j2 (lz j8 j10)) p hp,?_⟩
 clear hK K
 try simp only [Act.put,zp]
 refine zM 1 [8] ?_ ?_
 refine qa2 (by kernel_rfl) ?_ _
 go_wp2_with fail
 try clear hw
 refine zB (qan v9) [] 7 ?_
 have j12:Below v9.heap.size v9 v9.drew:=(Below.refl _ _).drew
 generalize v9.drew=v11 at *
 refine zM 2 [0,3] ?_ ?_
 have kpy13:qan v9 v11:=fun p hp=>Below.block j12 p hp
 refine zD 1 (.slice A2 n2 c2) rfl ?y13 ?z14
 case y13 =>
  intro w' h1
  obtain⟨⟨p1,p2,p3⟩,p4,p5,p6⟩:=qam ((h1 _ (Nat.lt_of_lt_of_le S2 (Below.size (lz j2 (lz j8 j10))))).trans (qaa D2 (lz j2 (lz j8 j10)) S2))
  go_simp
 try simp only [Act.put,zp]
 have kpy15:qan v9 v11:=fun p hp=>Below.block j12 p hp
 refine zD 4 (.int .i64 a.e) rfl ?y15 ?z16
 case y15 =>
  intro w' h1
  obtain⟨⟨p1,p2,p3⟩,p4,p5,p6⟩:=qam ((h1 _ (Nat.lt_of_lt_of_le S1 (Below.size (lz j2 (lz j8 j10))))).trans (qaa D1 (lz j2 (lz j8 j10)) S1))
  go_simp
 try simp only [Act.put,zp]
 refine zK 2 rfl fun K hK=>?_
 go_simp
 go_at_call 183
 refine (qhz v11 0 _ A2 n2 c2 _ (qao h2 (lz b1 (lz j2 (lz j8 (lz j10 j12))))) hdb.out (Nat.le_refl _) (by omega) b.m hnb.out).mono ?_
 rintro e' v17 ⟨P5,m5,o5,rfl,hc5,hn25,j18,J5⟩
 refine hK _ _ ⟨fun _ _=>fun p hp=>Below.block (lz j12 j18) p hp,?_⟩
 clear hK K
 try simp only [Act.put,zp]
 refine zK 5 rfl fun K hK=>?_
 go_simp
 go_at_call 182
 refine (qhx v17 _ _ P5 m5 o5 b.m J5 (Nat.le_refl _) (by omega) a.e _ rfl (by omega)).mono ?_
 rintro e' v19 ⟨P6,m6,o6,rfl,hc6,hn26,j20,J6⟩
 refine hK _ _ ⟨fun _ _=>fun p hp=>Below.block (lz j12 (lz j18 j20)) p hp,?_⟩
 clear hK K
 try simp only [Act.put,zp]
 refine zM 1 [6] ?_ ?_
 refine qa2 (by kernel_rfl) ?_ _
 go_wp2_with fail
 refine (qyw v19 _ _ _ _ P4 m4 o4 _ (qae.below J4 (lz j12 (lz j18 j20)) (Nat.le_refl _)) P6 m6 o6 _ J6 (Below.size (lz j12 (lz j18 j20))) (Nat.le_refl _) (by omega) (by omega) hY0 q r HQ.out HR.out).mono ?_
 rintro e' v21 ⟨P7,m7,o7,P8,m8,o8,rfl,hc7,hn7,hc8,j22,J7,J8⟩
 try clear hw
 obtain⟨r0,r1⟩:=qjt J8
 have hx7:=qf6 J7
 have HN7:=Lib.hid hx7
 clear hx7 HQ HR
 by_cases hr0:r=0
 . have hm8:m8=0:=r0 hr0
   have hv2:q=v:=by have:=HV.out; rw [if_neg (fun h=>h.1 hr0)] at this; omega
   subst hv2
   subst hm8
   clear r0 r1
   obtain⟨⟨q230,q231,q232⟩,q233,q234,q235⟩:=qam (qaa D1 (lz j2 (lz j8 (lz j10 (lz j12 (lz j18 (lz j20 j22)))))) S1)
   obtain⟨⟨g0,g1⟩,g2,g3⟩:=qfq (qaa D3 (lz j2 (lz j8 (lz j10 (lz j12 (lz j18 (lz j20 j22)))))) S3)
   go_wp2
   refine bodyPost_ret (v:=.agg #[.bool a.neg,.slice P7 m7 o7]) (by simp [results,Tryz.results143,go_sem,g0,g1]) rfl ⟨P7,m7,o7,rfl,hc7,by omega,?_,?_⟩
   . exact (((lz b1 (lz j2 (lz j8 (lz j10 (lz j12 (lz j18 (lz j20 j22)))))))).setCell (show w.heap.size<=w.heap.size+1+1 by omega) _).setCell (show w.heap.size<=w.heap.size+1+1 by omega) _
   have hlo:w1.heap.size<=v19.heap.size:=Below.size (lz j2 (lz j8 (lz j10 (lz j12 (lz j18 j20)))))
   exact ((qbx (qbx (J7) (show w.heap.size+1+1 < v19.heap.size by omega) 0 _) (show w.heap.size+1+1 < v19.heap.size by omega) 1 _).more (by omega) (by simp [World.setCell]))
 have hm8:0 < m8:=r1 hr0
 have hmb:decide ((m8:Int) > 0)=true:=decide_eq_true (by omega)
 clear r0 r1
 by_cases hup:up=a.neg
 . have hv2:q=v:=by have:=HV.out; rw [if_neg (fun h=>h.2 hup)] at this; omega
   have hub2:(!up==a.neg)=false:=by rw [hup]; cases a.neg<;>rfl
   subst hv2
   clear hup
   obtain⟨⟨q240,q241,q242⟩,q243,q244,q245⟩:=qam (qaa D1 (lz j2 (lz j8 (lz j10 (lz j12 (lz j18 (lz j20 j22)))))) S1)
   obtain⟨⟨g0,g1⟩,g2,g3⟩:=qfq (qaa D3 (lz j2 (lz j8 (lz j10 (lz j12 (lz j18 (lz j20 j22)))))) S3)
   go_wp2
   refine bodyPost_ret (v:=.agg #[.bool a.neg,.slice P7 m7 o7]) (by simp [results,Tryz.results143,go_sem,g0,g1]) rfl ⟨P7,m7,o7,rfl,hc7,by omega,?_,?_⟩
   . exact (((lz b1 (lz j2 (lz j8 (lz j10 (lz j12 (lz j18 (lz j20 j22)))))))).setCell (show w.heap.size<=w.heap.size+1+1 by omega) _).setCell (show w.heap.size<=w.heap.size+1+1 by omega) _
   have hlo:w1.heap.size<=v19.heap.size:=Below.size (lz j2 (lz j8 (lz j10 (lz j12 (lz j18 j20)))))
   exact ((qbx (qbx (J7) (show w.heap.size+1+1 < v19.heap.size by omega) 0 _) (show w.heap.size+1+1 < v19.heap.size by omega) 1 _).more (by omega) (by simp [World.setCell]))
 have hv2:q+1=v:=by have:=HV.out; rw [if_pos ⟨hr0,hup⟩] at this; exact this
 have hub2:(!up==a.neg)=true:=by
  revert hup
  cases up<;>cases a.neg<;>decide
 clear hup
 have HV2:=Lib.hid hv2
 clear hv2
 obtain⟨⟨q250,q251,q252⟩,q253,q254,q255⟩:=qam (qaa D1 (lz j2 (lz j8 (lz j10 (lz j12 (lz j18 (lz j20 j22)))))) S1)
 have hX6:(v21.alloc (.cells #[.int .u8 1] 5)).heap[v21.heap.size]? = some (.cells #[.int .u8 1] 5 (0,0)):=heap_alloc_last v21 _
 have hB6:Below v21.heap.size v21 (v21.alloc (.cells #[.int .u8 1] 5)):=(Below.refl _ _).alloc (Nat.le_refl _) _
 have hI6:qae (v21.alloc (.cells #[.int .u8 1] 5)) v21.heap.size (v21.heap.size+1) .u8 (some ⟨v21.heap.size,0,none⟩) 1 [1]:=qlm hX6
 have hS6:v21.heap.size+1<=(v21.alloc (.cells #[.int .u8 1] 5)).heap.size:=by simp
 go_wp2_with fail
 generalize hw:v21.alloc (.cells #[.int .u8 1] 5)=u6 at *
 clear hw
 clear q250 q251 q252 q253 q254 q255
 refine (qmd u6 _ _ _ _ P7 m7 o7 _ (qae.below J7 hB6 (Nat.le_refl _)) (some ⟨_,0,none⟩) 1 1 [1] hI6 (qah 2 q (by decide)).1 (by intro x hx; rw [List.mem_singleton.1 hx]; decide) (Below.size hB6) hS6 (by omega) (by omega) v (by rw [(qah 2 q (by decide)).2.2]; exact HV2.out)).mono ?_
 rintro e' u7 ⟨P9,m9,o9,rfl,hc9,k7,J9⟩
 have hn9:m9<=m7+1:=by
  have h1:=J9.len
  have h2:=HN7.out
  rw [HV2.out] at h2
  omega
 obtain⟨⟨q260,q261,q262⟩,q263,q264,q265⟩:=qam (qaa D1 (lz j2 (lz j8 (lz j10 (lz j12 (lz j18 (lz j20 (lz j22 (lz hB6 k7)))))))) S1)
 obtain⟨⟨g0,g1⟩,g2,g3⟩:=qfq (qaa D3 (lz j2 (lz j8 (lz j10 (lz j12 (lz j18 (lz j20 (lz j22 (lz hB6 k7)))))))) S3)
 go_wp2
 refine bodyPost_ret (v:=.agg #[.bool a.neg,.slice P9 m9 o9]) (by simp [results,Tryz.results143,go_sem,g0,g1]) rfl ⟨P9,m9,o9,rfl,hc9,by omega,?_,?_⟩
 . exact (((lz b1 (lz j2 (lz j8 (lz j10 (lz j12 (lz j18 (lz j20 (lz j22 (lz hB6 k7)))))))))).setCell (show w.heap.size<=w.heap.size+1+1 by omega) _).setCell (show w.heap.size<=w.heap.size+1+1 by omega) _
 have hlo:w1.heap.size<=u6.heap.size:=Below.size (lz j2 (lz j8 (lz j10 (lz j12 (lz j18 (lz j20 (lz j22 hB6)))))))
 exact ((qbx (qbx (J9) (show w.heap.size+1+1 < u6.heap.size by omega) 0 _) (show w.heap.size+1+1 < u6.heap.size by omega) 1 _).more (by omega) (by simp [World.setCell]))
end Dy
end Go.Proofs.YtmbppgjhdcmckaaGreatDoor
namespace Go.Proofs.YtmbppgjhdcmckaaGreatDoor
open Go.RowKit
namespace Dy
open Dp
theorem qpg{a b:Dn}(ha:a.May)(hb:b.May)(hn:b.neg=false)(h0:b.m≠0){k:Nat}(hk:k<=64):qez a.neg (qaf 4294967296 a.m) a.e b.neg (qaf 4294967296 b.m) b.e k=0:=by
 unfold qez
 rw [if_pos ⟨qgy ha,qgy hb⟩,if_neg]
 rintro (h|h|h|h)
 . rw [hn] at h
   cases h
 . exact h0 (qc5 (by decide) h)
 . omega
 omega
theorem qrq(w:World)(s1 s2:Bool)(A1 A2:Option Addr)(n1 c1 n2 c2:Nat)(xs1 xs2:List Int)(e1 e2:Int)(h1:qae w 0 w.heap.size .u32 A1 n1 xs1)(h2:qae w 0 w.heap.size .u32 A2 n2 xs2)(k q:Int)(hq:qez s1 xs1 e1 s2 xs2 e2 k=q)(hq0:q=2∨q=8) :
  Calls Tryz.prog 150 #[.agg #[.bool s1,.slice A1 n1 c1,.int .i64 e1],.agg #[.bool s2,.slice A2 n2 c2,.int .i64 e2],.int .i64 k] w (qb0 w Dn.zero q):=by
 have HQ:=Lib.hid hq
 clear hq
 generalize hw:((w.alloc (.cells #[.bool s1,.slice A1 n1 c1,.int .i64 e1] 24)).alloc (.cells #[.bool s2,.slice A2 n2 c2,.int .i64 e2] 24)).alloc (.cells #[.bool false,.slice none 0 0,.int .i64 0] 24)=w1
 obtain⟨D1,D2,D3,b1,l1,l2⟩:=qcn w _ _ _ hw
 replace D3:w1.heap[w.heap.size+1+1]? = some (.cells #[.bool false,.slice none 0 0,.int .i64 0] 24 (0,0)):=D3
 have S1:w.heap.size < w1.heap.size:=by omega
 have S2:w.heap.size+1 < w1.heap.size:=by omega
 have S3:w.heap.size+1+1 < w1.heap.size:=by omega
 go_enter Tryz.func150,Tryz.ntmps150
 obtain⟨⟨q10,q11,q12⟩,q13,q14,q15⟩:=qam D1
 obtain⟨⟨q20,q21,q22⟩,q23,q24,q25⟩:=qam D2
 go_wp2_with fail
 refine (qfi w1 s1 s2 A1 A2 n1 c1 n2 c2 xs1 xs2 e1 e2 (qao h1 b1) (qao h2 b1) k q HQ.out).mono ?_
 rintro e' v3 ⟨rfl,j4⟩
 clear q10 q11 q12 q13 q14 q15 q20 q21 q22 q23 q24 q25
 try clear hw
 rcases hq0 with rfl|rfl
 all_goals
  obtain⟨⟨z0,z1,z2⟩,z3,z4,z5⟩:=qam (qaa D3 j4 S3)
  obtain⟨U,hU,hX,hbU,hfU,s1',s2'⟩:=qco (qaa D3 j4 S3) (.bool false) (.slice none 0 0) (.int .i64 0)
  go_wp2
  try rw [hU]
  clear hU z0 z1 z2 z3 z4 z5
  obtain⟨⟨z0,z1,z2⟩,_⟩:=qam hX
  exact bodyPost_ret (v:=.tuple #[.agg #[.bool false,.slice none 0 0,.int .i64 0],.int .i64 _]) (by simp [results,Tryz.results150,go_sem,z0,z1,z2]) rfl ⟨none,0,0,rfl,Nat.le_refl _,hbU _ _ (lz b1 j4) (show w.heap.size<=w.heap.size+1+1 by omega),qae.nil_ ..⟩
theorem qt4(w:World)(a b:Dn)(ha:a.May)(hb_:b.May)(hbn:b.neg=false)(hb0:b.m≠0)(A1 A2:Option Addr)(n1 c1 n2 c2:Nat)(h1:qae w 0 w.heap.size .u32 A1 n1 (qaf 4294967296 a.m))(h2:qae w 0 w.heap.size .u32 A2 n2 (qaf 4294967296 b.m))(k:Nat)(hk:k<=64)(r:Dn)(code:Int)(h:toD a b k a.neg=(r,code)) :
  Calls Tryz.prog 150 #[.agg #[.bool a.neg,.slice A1 n1 c1,.int .i64 a.e],.agg #[.bool b.neg,.slice A2 n2 c2,.int .i64 b.e],.int .i64 k] w (qb0 w r code):=by
 obtain⟨v,hv⟩:∃ v,(qew a b k).1+(if (qew a b k).2≠0/\false≠a.neg then 1 else 0)=v:=⟨_,rfl⟩
 have hf:qa4 a.neg v k=(r,code):=by
  rw [<-h,<-hv]
  unfold toD
  congr 2
  cases a.neg<;>simp
 have HV:=Lib.hid hv
 have HF:=Lib.hid hf
 have HQ:Hid (qez a.neg (qaf 4294967296 a.m) a.e b.neg (qaf 4294967296 b.m) b.e k=0):=Lib.hid (qpg ha hb_ hbn hb0 hk)
 have hd:=Lib.hid (fun u=>(qah 2 u (by decide)))
 clear hv hf h hbn
 generalize hw:((w.alloc (.cells #[.bool a.neg,.slice A1 n1 c1,.int .i64 a.e] 24)).alloc (.cells #[.bool b.neg,.slice A2 n2 c2,.int .i64 b.e] 24)).alloc (.cells #[.bool false,.slice none 0 0,.int .i64 0] 24)=w1
 obtain⟨D1,D2,D3,b1,l1,l2⟩:=qcn w _ _ _ hw
 replace D3:w1.heap[w.heap.size+1+1]? = some (.cells #[.bool false,.slice none 0 0,.int .i64 0] 24 (0,0)):=D3
 have S1:w.heap.size < w1.heap.size:=by omega
 have S2:w.heap.size+1 < w1.heap.size:=by omega
 have S3:w.heap.size+1+1 < w1.heap.size:=by omega
 go_enter Tryz.func150,Tryz.ntmps150
 obtain⟨⟨q60,q61,q62⟩,q63,q64,q65⟩:=qam D1
 obtain⟨⟨q70,q71,q72⟩,q73,q74,q75⟩:=qam D2
 go_wp2_with fail
 refine (qfi w1 a.neg b.neg A1 A2 n1 c1 n2 c2 _ _ a.e b.e (qao h1 b1) (qao h2 b1) k 0 HQ.out).mono ?_
 rintro e' v8 ⟨rfl,j9⟩
 clear q60 q61 q62 q63 q64 q65 q70 q71 q72 q73 q74 q75
 try clear hw
 obtain⟨⟨q100,q101,q102⟩,q103,q104,q105⟩:=qam (qaa D1 j9 S1)
 obtain⟨⟨q110,q111,q112⟩,q113,q114,q115⟩:=qam (qaa D2 j9 S2)
 go_wp2_with fail
 refine (qi2 v8 a b ha hb_ hb0 A1 A2 n1 c1 n2 c2 (qao h1 (lz b1 j9)) (qao h2 (lz b1 j9)) k hk k rfl false v HV.out).mono ?_
 rintro e' v12 ⟨P,m,o,rfl,hmo,hm4,j13,J⟩
 clear q100 q101 q102 q103 q104 q105 q110 q111 q112 q113 q114 q115
 try clear hw
 go_wp2_with fail
 refine (qcc v12 a.neg P m o (qaf 2 v) (J.more (Nat.zero_le _) (Nat.le_refl _)) (hd.out v).1 hmo (by omega) k (by omega) k rfl v (hd.out v).2.2 r code HF.out).mono ?_
 rintro e' v14 ⟨A9,n9,c9,rfl,hnc,j15,I9⟩
 try clear hw
 have j17:=(Below.refl v14.heap.size v14).alloc (Nat.le_refl _) (.cells #[.bool r.neg,.slice A9 n9 c9,.int .i64 r.e] 24)
 have D9:=heap_alloc_last v14 (.cells #[.bool r.neg,.slice A9 n9 c9,.int .i64 r.e] 24)
 have s18:v14.heap.size < (v14.alloc (.cells #[.bool r.neg,.slice A9 n9 c9,.int .i64 r.e] 24)).heap.size:=by simp
 generalize hw:v14.alloc (.cells #[.bool r.neg,.slice A9 n9 c9,.int .i64 r.e] 24)=v16 at *
 obtain⟨⟨q190,q191,q192⟩,q193,q194,q195⟩:=qam D9
 have hlo:w1.heap.size<=v12.heap.size:=Below.size (lz j9 j13)
 obtain⟨⟨z0,z1,z2⟩,z3,z4,z5⟩:=qam (qaa D3 (lz j9 (lz j13 (lz j15 j17))) S3)
 obtain⟨U,hU,hX,hbU,hfU,s1',s2'⟩:=qco (qaa D3 (lz j9 (lz j13 (lz j15 j17))) S3) (.bool r.neg) (.slice A9 n9 c9) (.int .i64 r.e)
 go_wp2
 try rw [hU]
 clear hU z0 z1 z2 z3 z4 z5
 obtain⟨⟨z0,z1,z2⟩,_⟩:=qam hX
 exact bodyPost_ret (v:=.tuple #[.agg #[.bool r.neg,.slice A9 n9 c9,.int .i64 r.e],.int .i64 code]) (by simp [results,Tryz.results150,go_sem,z0,z1,z2]) rfl ⟨A9,n9,c9,rfl,hnc,hbU _ _ (lz b1 (lz j9 (lz j13 (lz j15 j17)))) (show w.heap.size<=w.heap.size+1+1 by omega),(qaq (I9.below j17 (Nat.le_refl _)) (fun b h1 h2=>hfU b (by omega))).more (by omega) (Nat.le_trans (Below.size j17) (by omega))⟩
theorem qrr(w:World)(s1 s2:Bool)(A1 A2:Option Addr)(n1 c1 n2 c2:Nat)(xs1 xs2:List Int)(e1 e2:Int)(h1:qae w 0 w.heap.size .u32 A1 n1 xs1)(h2:qae w 0 w.heap.size .u32 A2 n2 xs2)(k:Int)(r:Dn)(code:Int)(h:toX s1 xs1 e1 s2 xs2 e2 k s1=(r,code)) :
  Calls Tryz.prog 150 #[.agg #[.bool s1,.slice A1 n1 c1,.int .i64 e1],.agg #[.bool s2,.slice A2 n2 c2,.int .i64 e2],.int .i64 k] w (qb0 w r code):=by
 unfold toX at h
 split at h
 . rename_i hm
   obtain⟨m1,m2,hs,hx,k0,k1⟩:=qg5 hm
   obtain⟨y1,c1',t1⟩:=qii (qck h1) m1
   obtain⟨y2,c2',t2⟩:=qii (qck h2) m2
   have hb0:(dn s2 xs2 e2).m≠0:=fun e=>hx (by rw [<-c2',e]; rfl)
   have:=qt4 w (dn s1 xs1 e1) (dn s2 xs2 e2) y1 y2 hs hb0 A1 A2 n1 c1 n2 c2 (by rw [c1']; exact h1) (by rw [c2']; exact h2) k.toNat (by omega) r code h
   rw [t1,t2,show ((k.toNat:Nat):Int)=k by omega] at this
   exact this
 rename_i hm
 injection h with h3 h4
 subst h3 h4
 exact qrq w s1 s2 A1 A2 n1 c1 n2 c2 xs1 xs2 e1 e2 h1 h2 k _ rfl ((qjx ..).resolve_left hm)
theorem qt5(w:World)(s1 s2:Bool)(A1 A2:Option Addr)(n1 c1 n2 c2:Nat)(xs1 xs2:List Int)(e1 e2:Int)(h1:qae w 0 w.heap.size .u32 A1 n1 xs1)(h2:qae w 0 w.heap.size .u32 A2 n2 xs2)(k q:Int)(hq:qez s1 xs1 e1 s2 xs2 e2 k=q)(hq0:q=2∨q=8) :
  Calls Tryz.prog 151 #[.agg #[.bool s1,.slice A1 n1 c1,.int .i64 e1],.agg #[.bool s2,.slice A2 n2 c2,.int .i64 e2],.int .i64 k] w (qb0 w Dn.zero q):=by
 have HQ:=Lib.hid hq
 clear hq
 generalize hw:((w.alloc (.cells #[.bool s1,.slice A1 n1 c1,.int .i64 e1] 24)).alloc (.cells #[.bool s2,.slice A2 n2 c2,.int .i64 e2] 24)).alloc (.cells #[.bool false,.slice none 0 0,.int .i64 0] 24)=w1
 obtain⟨D1,D2,D3,b1,l1,l2⟩:=qcn w _ _ _ hw
 replace D3:w1.heap[w.heap.size+1+1]? = some (.cells #[.bool false,.slice none 0 0,.int .i64 0] 24 (0,0)):=D3
 have S1:w.heap.size < w1.heap.size:=by omega
 have S2:w.heap.size+1 < w1.heap.size:=by omega
 have S3:w.heap.size+1+1 < w1.heap.size:=by omega
 go_enter Tryz.func151,Tryz.ntmps151
 obtain⟨⟨q210,q211,q212⟩,q213,q214,q215⟩:=qam D1
 obtain⟨⟨q220,q221,q222⟩,q223,q224,q225⟩:=qam D2
 go_wp2_with fail
 refine (qfi w1 s1 s2 A1 A2 n1 c1 n2 c2 xs1 xs2 e1 e2 (qao h1 b1) (qao h2 b1) k q HQ.out).mono ?_
 rintro e' v23 ⟨rfl,j24⟩
 clear q210 q211 q212 q213 q214 q215 q220 q221 q222 q223 q224 q225
 try clear hw
 rcases hq0 with rfl|rfl
 all_goals
  obtain⟨⟨z0,z1,z2⟩,z3,z4,z5⟩:=qam (qaa D3 j24 S3)
  obtain⟨U,hU,hX,hbU,hfU,s1',s2'⟩:=qco (qaa D3 j24 S3) (.bool false) (.slice none 0 0) (.int .i64 0)
  go_wp2
  try rw [hU]
  clear hU z0 z1 z2 z3 z4 z5
  obtain⟨⟨z0,z1,z2⟩,_⟩:=qam hX
  exact bodyPost_ret (v:=.tuple #[.agg #[.bool false,.slice none 0 0,.int .i64 0],.int .i64 _]) (by simp [results,Tryz.results151,go_sem,z0,z1,z2]) rfl ⟨none,0,0,rfl,Nat.le_refl _,hbU _ _ (lz b1 j24) (show w.heap.size<=w.heap.size+1+1 by omega),qae.nil_ ..⟩
theorem qxj(w:World)(a b:Dn)(ha:a.May)(hb_:b.May)(hbn:b.neg=false)(hb0:b.m≠0)(A1 A2:Option Addr)(n1 c1 n2 c2:Nat)(h1:qae w 0 w.heap.size .u32 A1 n1 (qaf 4294967296 a.m))(h2:qae w 0 w.heap.size .u32 A2 n2 (qaf 4294967296 b.m))(k:Nat)(hk:k<=64)(r:Dn)(code:Int)(h:toD a b k (!a.neg)=(r,code)) :
  Calls Tryz.prog 151 #[.agg #[.bool a.neg,.slice A1 n1 c1,.int .i64 a.e],.agg #[.bool b.neg,.slice A2 n2 c2,.int .i64 b.e],.int .i64 k] w (qb0 w r code):=by
 obtain⟨v,hv⟩:∃ v,(qew a b k).1+(if (qew a b k).2≠0/\true≠a.neg then 1 else 0)=v:=⟨_,rfl⟩
 have hf:qa4 a.neg v k=(r,code):=by
  rw [<-h,<-hv]
  unfold toD
  congr 2
  cases a.neg<;>simp
 have HV:=Lib.hid hv
 have HF:=Lib.hid hf
 have HQ:Hid (qez a.neg (qaf 4294967296 a.m) a.e b.neg (qaf 4294967296 b.m) b.e k=0):=Lib.hid (qpg ha hb_ hbn hb0 hk)
 have hd:=Lib.hid (fun u=>(qah 2 u (by decide)))
 clear hv hf h hbn
 generalize hw:((w.alloc (.cells #[.bool a.neg,.slice A1 n1 c1,.int .i64 a.e] 24)).alloc (.cells #[.bool b.neg,.slice A2 n2 c2,.int .i64 b.e] 24)).alloc (.cells #[.bool false,.slice none 0 0,.int .i64 0] 24)=w1
 obtain⟨D1,D2,D3,b1,l1,l2⟩:=qcn w _ _ _ hw
 replace D3:w1.heap[w.heap.size+1+1]? = some (.cells #[.bool false,.slice none 0 0,.int .i64 0] 24 (0,0)):=D3
 have S1:w.heap.size < w1.heap.size:=by omega
 have S2:w.heap.size+1 < w1.heap.size:=by omega
 have S3:w.heap.size+1+1 < w1.heap.size:=by omega
 go_enter Tryz.func151,Tryz.ntmps151
 obtain⟨⟨q260,q261,q262⟩,q263,q264,q265⟩:=qam D1
 obtain⟨⟨q270,q271,q272⟩,q273,q274,q275⟩:=qam D2
 go_wp2_with fail
 refine (qfi w1 a.neg b.neg A1 A2 n1 c1 n2 c2 _ _ a.e b.e (qao h1 b1) (qao h2 b1) k 0 HQ.out).mono ?_
 rintro e' v28 ⟨rfl,j29⟩
 clear q260 q261 q262 q263 q264 q265 q270 q271 q272 q273 q274 q275
 try clear hw
 obtain⟨⟨q300,q301,q302⟩,q303,q304,q305⟩:=qam (qaa D1 j29 S1)
 obtain⟨⟨q310,q311,q312⟩,q313,q314,q315⟩:=qam (qaa D2 j29 S2)
 go_wp2_with fail
 refine (qi2 v28 a b ha hb_ hb0 A1 A2 n1 c1 n2 c2 (qao h1 (lz b1 j29)) (qao h2 (lz b1 j29)) k hk k rfl true v HV.out).mono ?_
 rintro e' v32 ⟨P,m,o,rfl,hmo,hm4,j33,J⟩
 clear q300 q301 q302 q303 q304 q305 q310 q311 q312 q313 q314 q315
 try clear hw
 go_wp2_with fail
 refine (qcc v32 a.neg P m o (qaf 2 v) (J.more (Nat.zero_le _) (Nat.le_refl _)) (hd.out v).1 hmo (by omega) k (by omega) k rfl v (hd.out v).2.2 r code HF.out).mono ?_
 rintro e' v34 ⟨A9,n9,c9,rfl,hnc,j35,I9⟩
 try clear hw
 have j37:=(Below.refl v34.heap.size v34).alloc (Nat.le_refl _) (.cells #[.bool r.neg,.slice A9 n9 c9,.int .i64 r.e] 24)
 have D9:=heap_alloc_last v34 (.cells #[.bool r.neg,.slice A9 n9 c9,.int .i64 r.e] 24)
 have s38:v34.heap.size < (v34.alloc (.cells #[.bool r.neg,.slice A9 n9 c9,.int .i64 r.e] 24)).heap.size:=by simp
 generalize hw:v34.alloc (.cells #[.bool r.neg,.slice A9 n9 c9,.int .i64 r.e] 24)=v36 at *
 obtain⟨⟨q390,q391,q392⟩,q393,q394,q395⟩:=qam D9
 have hlo:w1.heap.size<=v32.heap.size:=Below.size (lz j29 j33)
 obtain⟨⟨z0,z1,z2⟩,z3,z4,z5⟩:=qam (qaa D3 (lz j29 (lz j33 (lz j35 j37))) S3)
 obtain⟨U,hU,hX,hbU,hfU,s1',s2'⟩:=qco (qaa D3 (lz j29 (lz j33 (lz j35 j37))) S3) (.bool r.neg) (.slice A9 n9 c9) (.int .i64 r.e)
 go_wp2
 try rw [hU]
 clear hU z0 z1 z2 z3 z4 z5
 obtain⟨⟨z0,z1,z2⟩,_⟩:=qam hX
 exact bodyPost_ret (v:=.tuple #[.agg #[.bool r.neg,.slice A9 n9 c9,.int .i64 r.e],.int .i64 code]) (by simp [results,Tryz.results151,go_sem,z0,z1,z2]) rfl ⟨A9,n9,c9,rfl,hnc,hbU _ _ (lz b1 (lz j29 (lz j33 (lz j35 j37)))) (show w.heap.size<=w.heap.size+1+1 by omega),(qaq (I9.below j37 (Nat.le_refl _)) (fun b h1 h2=>hfU b (by omega))).more (by omega) (Nat.le_trans (Below.size j37) (by omega))⟩
theorem qt6(w:World)(s1 s2:Bool)(A1 A2:Option Addr)(n1 c1 n2 c2:Nat)(xs1 xs2:List Int)(e1 e2:Int)(h1:qae w 0 w.heap.size .u32 A1 n1 xs1)(h2:qae w 0 w.heap.size .u32 A2 n2 xs2)(k:Int)(r:Dn)(code:Int)(h:toX s1 xs1 e1 s2 xs2 e2 k (!s1)=(r,code)) :
  Calls Tryz.prog 151 #[.agg #[.bool s1,.slice A1 n1 c1,.int .i64 e1],.agg #[.bool s2,.slice A2 n2 c2,.int .i64 e2],.int .i64 k] w (qb0 w r code):=by
 unfold toX at h
 split at h
 . rename_i hm
   obtain⟨m1,m2,hs,hx,k0,k1⟩:=qg5 hm
   obtain⟨y1,c1',t1⟩:=qii (qck h1) m1
   obtain⟨y2,c2',t2⟩:=qii (qck h2) m2
   have hb0:(dn s2 xs2 e2).m≠0:=fun e=>hx (by rw [<-c2',e]; rfl)
   have:=qxj w (dn s1 xs1 e1) (dn s2 xs2 e2) y1 y2 hs hb0 A1 A2 n1 c1 n2 c2 (by rw [c1']; exact h1) (by rw [c2']; exact h2) k.toNat (by omega) r code h
   rw [t1,t2,show ((k.toNat:Nat):Int)=k by omega] at this
   exact this
 rename_i hm
 injection h with h3 h4
 subst h3 h4
 exact qt5 w s1 s2 A1 A2 n1 c1 n2 c2 xs1 xs2 e1 e2 h1 h2 k _ rfl ((qjx ..).resolve_left hm)
end Dy
end Go.Proofs.YtmbppgjhdcmckaaGreatDoor