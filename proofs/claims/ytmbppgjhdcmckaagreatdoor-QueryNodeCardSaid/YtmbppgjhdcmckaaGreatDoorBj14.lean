/- Lists of masses that a call owns: appended to, stored in; no function in sight (printed by a program of mine). -/
import Derived.Test.YtmbppgjhdcmckaaGreatDoorBj13
import Derived.ProofKit
import Derived.Deep.SlicePairs
import Derived.Test.YtmbppgjhdcmckaaGreatDoorRows
import Derived.LaidMore
import Derived.OpenShut
import Derived.Stop.Joined
set_option maxHeartbeats 102400000
set_option maxRecDepth 100000
namespace Go.Proofs.YtmbppgjhdcmckaaGreatDoor
open Go.RowKit
namespace Ma
open Dp Dy
def Dv.off(d:Dv)(g:Option Nat):Prop:=∀ a,d.A=some a->0 < d.n->g≠some a.block
def Mv.off(m:Mv)(g:Option Nat):Prop:=∀ x,x < 4->(m.get x).off g
theorem qd7{w w':World}{row:Option Nat}{k:IntKind}{A:Option Addr}{n:Nat}{xs:List Int}(h:qae w 0 w.heap.size k A n xs)(hg:w.grownBy w' row)(hr:∀ a,A=some a->0 < n->row≠some a.block):qae w' 0 w'.heap.size k A n xs:=by
 refine⟨h.len,h.wf,h.big,fun h0=>?_⟩
 obtain⟨b,off,e,h1,h2,hc⟩:=h.row h0
 have hb:=hg.block b h2 (fun k=>hr _ e h0 k.symm)
 exact⟨b,off,e,h1,Nat.lt_of_lt_of_le h2 hg.size,fun j hj=>⟨(World.cell?_of_block hb).trans (hc j hj).1,(World.frozen?_of_block hb).trans (hc j hj).2⟩⟩
theorem qrl{w w':World}{row:Option Nat}{m:Mv}(h:MRows w 0 w.heap.size m)(hg:w.grownBy w' row)(hr:m.off row):MRows w' 0 w'.heap.size m :=
 ⟨qd7 h.S hg (hr 0 (by decide)),qd7 h.W hg (hr 1 (by decide)),qd7 h.C hg (hr 2 (by decide)),qd7 h.A hg (hr 3 (by decide))⟩
theorem qw7{w:World}{lo hi:Nat}{m:Mv}(h:MRows w lo hi m){g:Option Nat}(hg:∀ k,g=some k->k < lo∨hi<=k):m.off g:=fun x _ a e h0 hk=>by
 obtain⟨b,off,e',h1,h2,_⟩:=(h.get x).row h0
 rw [e'] at e
 injection e with e
 subst e
 have:=hg _ hk
 simp only at this
 omega
theorem qcy{w w':World}(hb:Below w.heap.size w w')(row:Option Nat):w.grownBy w' row:=⟨hb.os,hb.tape,hb.output,hb.size,fun k hk _=>hb.block k hk⟩
def Twins:List Mv->List Mv->Prop
 | [],[]=>True
 | a::l,u::k=>(∀ x,x < 4->qet (a.get x) (u.get x))/\Twins l k
 | _,_=>False
end Ma
end Go.Proofs.YtmbppgjhdcmckaaGreatDoor
namespace Go.Proofs.YtmbppgjhdcmckaaGreatDoor
open Go.ChangeShapes Go.WideShapes Go.ChangeAt Go.RowKit
section
variable {H:Type} {enc:TypeId×Value->H} {P:Program} {W W':World}
theorem qgc(hl:laidOutB P=true)(hb:Below W.heap.size W W'):∀ (ts:List TypeId) (vs:List Value) (ds:List (DataW H)) (ps:List MemPlace),
  DataW.TrodAll enc P W 0 (fun _=>true) true ts vs ds ps->(∀ t∈ts,P.readableRec t=true/\t < P.types.size)->(∀ x∈ps,x.block < W.heap.size) ->
  DataW.TrodAll enc P W' 0 (fun b=>decide (b < W.heap.size)) true ts vs ds ps
 | [],vs,ds,ps,h,_,_=>by
  obtain⟨rfl,rfl,rfl⟩:=trodAll_nil h
  exact rfl
 | t::ts,vs,ds,ps,h,hr,hlt=>by
  obtain⟨v,vs',d,ds',p,q,rfl,rfl,rfl,h1,h2⟩:=trodAll_cons h
  obtain⟨r1,r2⟩:=hr t (List.mem_cons_self ..)
  exact⟨p,q,Below.trod hl r1 r2 h1 hb fun x hx=>hlt x (List.mem_append_left _ hx),qgc hl hb ts vs' ds' q h2 (fun t ht=>hr t (List.mem_cons_of_mem _ ht)) fun x hx=>hlt x (List.mem_append_right _ hx),rfl⟩
theorem qxy{f:Func}{s:ChangeSpec}{args:Array Value}{ds gs:List (DataW H)}{before:List MemPlace}(hW:DataW.Whole enc P f.params.toList s.vars false W args.toList ds gs before)
  (hv:s.vars=[]) (hl:laidOutB P=true) (hr:f.params.toList.all (fun t=>P.readableRec t && decide (t < P.types.size))=true) {tb:TypeId} (hres:f.resultTypes=#[tb]) (htb:P.underlying tb=some .bool)
  (h1:(s.fn H (ds++gs)).results=[.lit (.bool true)]) (h2:(s.fn H (ds++gs)).args=ds) (h3:(s.fn H (ds++gs)).vars=[]) (hb:Below W.heap.size W W'):s.post enc P f false true false false W args (.bool true) W':=by
 have hW':=hW
 obtain⟨p,q,hA,hV,rfl,hfz,hnd⟩:=hW
 have hr':∀ t∈f.params.toList,P.readableRec t=true/\t < P.types.size:=fun t ht=>by
  have:=List.all_eq_true.1 hr t ht
  simpa using this
 refine⟨ds,gs,_,[],p,[],hW',?_,?_,?_,hb.frame _,fun h=>by cases h⟩
 . rw [h1,hres]
   exact trodAll_mk1 (shut_bool htb true)
 . rw [h2]
   exact qgc hl hb _ _ _ _ hA hr' fun x hx=>hW'.lt x (List.mem_append_left _ hx)
 rw [h3,hv]
 rfl
end
end Go.Proofs.YtmbppgjhdcmckaaGreatDoor
namespace Go.Proofs.YtmbppgjhdcmckaaGreatDoor
open Go.ChangeShapes Go.WideShapes Go.ChangeAt Go.RowKit Go.Joins Go.Deep
section
variable {H:Type} {enc:TypeId×Value->H} {P:Program} {W W':World}
theorem qjb{t e:TypeId}{k:IntKind}{fuel:Nat}{v:Value}{x:DataW H×List MemPlace}(ht:P.underlying t=some (.slice e))(he:P.underlying e=some (.int k))(hc:P.cellsOf e=1)
  (h:DataW.trod enc P W 0 (fun _=>true) true fuel t [v]=some x) (hfz:∀ b off,MemPlace.cell b off∈x.2->W.frozen? ⟨b,off,none⟩=false) (hlt:∀ q∈x.2,q.block < W.heap.size) :
  ∃ A n c xs,v=.slice A n c/\n<=c/\qae W 0 W.heap.size k A n xs:=by
 rcases open_ints ht he hc h with ⟨hcs,hx⟩|⟨a,len,cap,zs,hcs,_,hl,hm,hz,hx,hcell,hwz⟩
 . injection hcs with hcs
   exact⟨none,0,0,[],hcs,Nat.le_refl _,qae.nil_ ..⟩
 injection hcs with hcs
 simp only [if_true] at hz
 refine⟨some a,len,cap,zs.take len,hcs,hl,by simp; omega,fun y hy=>?_,by unfold maxLen at hm; omega,fun h0=>?_⟩
 . have:=hwz y (List.mem_of_mem_take hy)
   simpa [Lit.wf] using this
 obtain⟨b,off,spot⟩:=a
 have hspot:spot=none:=by simpa [Addr.add] using World.cell?_spot (hcell 0 (by omega))
 subst hspot
 have hmem:∀ j,j < len->MemPlace.cell b (off+j)∈x.2:=fun j hj=>by
  rw [hx]
  exact MemPlace.mem_row.2 ⟨j,by omega,rfl⟩
 refine⟨b,off,rfl,Nat.zero_le _,hlt _ (hmem 0 h0),fun j hj=>⟨?_,hfz _ _ (hmem j hj)⟩⟩
 have:=hcell j (by omega)
 rw [add_plain] at this
 rw [this,List.getElem?_take,if_pos hj]
 simp [List.getD]
end
end Go.Proofs.YtmbppgjhdcmckaaGreatDoor
namespace Go.Proofs.YtmbppgjhdcmckaaGreatDoor
open Go.ChangeShapes Go.WideShapes Go.ChangeAt Go.RowKit Go.Joins Go.Deep
section
variable {H:Type} {enc:TypeId×Value->H} {P:Program} {W W':World}
theorem ql0{td e:TypeId}{k0 k1 k2:Field}{fuel:Nat}{c0 c1 c2:Value}{x:DataW H×List MemPlace}(hs:P.underlying td=some (.struct #[k0,k1,k2]))(hone:oneCellFields P #[k0,k1,k2]=true)
  (v0:P.underlying k0.type=some .bool) (ht:P.underlying k1.type=some (.slice e)) (he:P.underlying e=some (.int .u32)) (hc:P.cellsOf e=1) (v2:P.underlying k2.type=some (.int .i64))
  (h:DataW.trod enc P W 0 (fun _=>true) true fuel td [c0,c1,c2]=some x) (hfz:∀ b off,MemPlace.cell b off∈x.2->W.frozen? ⟨b,off,none⟩=false) (hlt:∀ q∈x.2,q.block < W.heap.size) :
  ∃ d:Ma.Dv,c0=.bool d.s/\c1=.slice d.A d.n d.c/\c2=.int .i64 d.e/\d.n<=d.c/\d.Row W 0 W.heap.size:=by
 obtain⟨y0,y1,y2,n,hx,_,h0,h1,h2⟩:=trod_struct3 hs h
 obtain⟨o0,q0⟩:=hone_of hone 0 k0 rfl
 obtain⟨o1,q1⟩:=hone_of hone 1 k1 rfl
 obtain⟨o2,q2⟩:=hone_of hone 2 k2 rfl
 simp only [o0,q0,o1,q1,o2,q2,List.drop_zero,List.take_succ_cons,List.take_zero,List.drop_succ_cons] at h0 h1 h2
 obtain⟨s,e0,_⟩:=DataW.trod_bool v0 h0
 obtain⟨z,e2,_,z2⟩:=DataW.trod_int v2 h2
 injection e0 with e0
 injection e2 with e2
 have hx2:x.2=y0.2++(y1.2++y2.2):=by rw [hx]
 obtain⟨A,n',c,xs,e1,hc',hI⟩:=qjb ht he hc h1 (fun b off hm=>hfz b off (by simp [hx2,hm])) (fun q hq=>hlt q (by simp [hx2,hq]))
 exact⟨⟨s,A,n',c,z,xs⟩,e0,e1,e2,hc',hI⟩
end
end Go.Proofs.YtmbppgjhdcmckaaGreatDoor
namespace Go.Proofs.YtmbppgjhdcmckaaGreatDoor
namespace Ma
open Dp Dy
def qwz:Option (Dn×Dn)->Dn->Option (Dn×Dn)
 | none,x=>some (x,x)
 | some (lo,hi),x=>some (if cmpD x lo < 0 then x else lo,if 0 < cmpD x hi then x else hi)
end Ma
end Go.Proofs.YtmbppgjhdcmckaaGreatDoor
namespace Go.Proofs.YtmbppgjhdcmckaaGreatDoor
open Go.ChangeShapes Go.WideShapes Go.ChangeAt Go.RowKit Go.Joins
theorem Tryz.laidOut:laidOutB Tryz.prog=true:=by kernel_rfl
namespace Dy
theorem ownKnob_:ownKnob Tryz.prog.godebug=none:=by kernel_rfl
theorem gTab : Tryz.prog.globalNamed "math/bits.deBruijn32tab" = some 0 := by kernel_rfl
theorem tTab:(Tryz.prog.globals[0]?).map (·.type)=some 232:=by kernel_rfl
abbrev laidT : List (String × DataW Unit) := [("math/bits.deBruijn32tab", Rows.laid_math_bits_deBruijn32tab)]
theorem quy:(Rows.laid_math_bits_deBruijn32tab:DataW Unit)=.agg (Lib.deBruijn32tab.map fun n=>.lit (.int .u8 (n:Nat))):=rfl
theorem door_met(os:Os)(args:Array Value):laidMetH Tryz.prog laidT ((World.doorLaid Tryz.prog 400 os).forCall (fun _ _=>0) ⟨#[],args,[]⟩).memory :=
 laidMetH_of_parts3 (fuel:=8) (laidMet_of_run' 8 (by kernel_rfl) (by kernel_rfl)) (by kernel_rfl) (by kernel_rfl)
theorem door_shaped(os:Os)(args:Array Value):((World.doorLaid Tryz.prog 400 os).forCall (fun _ _=>0) ⟨#[],args,[]⟩).Shaped Tryz.prog:=World.shaped_of_RefB (by kernel_rfl) (by kernel_rfl)
theorem qtn{H:Type}{enc:TypeId×Value->H}{W:World}{fuel:Nat}{cs:List Value}{d:DataW H}{p:List MemPlace}{held:Bool}{spare:Nat->Bool}(l:List Nat)(hd:d=.agg (l.map fun n=>.lit (.int .u8 (n:Nat))))
  (h:DataW.trod enc Tryz.prog W 0 spare held fuel 232 cs=some (d,p)):∀ j,j < 32->cs[j]? = some (.int .u8 (l.getD j 0)):=by
 intro j hj
 obtain⟨xs,m1,rfl,hx1,hlen,hn3,hel⟩:=DataW.trod_array Tryz.underlying232 h
 have c3:Tryz.prog.cellsOf 5=1:=by kernel_rfl
 have h0:=hel j hj
 rw [c3] at h0
 have hxj:j < xs.length:=by omega
 rw [List.getElem?_eq_getElem hxj] at h0
 obtain⟨k,e1,e2,_⟩:=DataW.trod_int Tryz.underlying5 h0
 simp only [Prod.mk.injEq] at hx1
 rw [hd] at hx1
 simp only [DataW.agg.injEq] at hx1
 have hmap:=congrArg (fun t=>t[j]?) hx1.1
 simp only [List.getElem?_map] at hmap
 rw [List.getElem?_eq_getElem hxj] at hmap
 simp only [Option.map_some,e2] at hmap
 cases hlj:l[j]? with
 | none=>rw [hlj] at hmap; cases hmap
 | some v =>
  rw [hlj] at hmap
  simp only [Option.map_some,Option.some.injEq,DataW.lit.injEq,Lit.int.injEq,true_and] at hmap
  have hg:l.getD j 0=v:=by simp [List.getD,hlj]
  rw [hg,hmap]
  have:=congrArg (fun t=>t[0]?) e1
  simpa using this
theorem tab_of_laid{W:World}(h:laidMetH Tryz.prog laidT W):Tab W:=by
 rw [MakeChecks.laidMetH_plain _ _ _ (by kernel_rfl)] at h
 obtain⟨ps,⟨g0,t0,cs0,f0,p0,q0,hg0,ht0,hv0,hd0,_,_⟩,_,_⟩:=h
 obtain rfl:=Option.some.inj (gTab.symm.trans hg0)
 obtain rfl:=Option.some.inj (tTab.symm.trans ht0)
 refine⟨fun j hj=>?_⟩
 have h1:=qtn Lib.deBruijn32tab quy hd0 j hj
 have h2:=World.var?_cell hg0 hv0 j
 rw [h2]
 simpa using h1
end Dy
end Go.Proofs.YtmbppgjhdcmckaaGreatDoor
namespace Go.Proofs.YtmbppgjhdcmckaaGreatDoor
open Go.RowKit
namespace Ma
open Dp Dy
def Mv.share(m:Mv):Prop:=m.may/\m.W.s=false/\(m.W.n=0->m.S.n=0)
open Classical in
noncomputable def qkg(ms:List Mv):Bool:=decide (∃ m∈ms,¬ m.share)
open Classical in
theorem qg3{ms:List Mv}{m:Mv}(hm:m∈ms)(h:¬ m.share):qkg ms=true:=by
 unfold qkg
 exact decide_eq_true ⟨m,hm,h⟩
open Classical in
theorem qv5{ms:List Mv}(h:∀ m∈ms,m.share):qkg ms=false:=by
 unfold qkg
 exact decide_eq_false fun ⟨m,hm,hn⟩=>hn (h m hm)
theorem qiq(w:World)(s:Bool)(A:Option Addr)(n c:Nat)(e:Int)(b:Bool)(hb:decide (n=0)=b) :
  Calls Tryz.prog 171 #[.agg #[.bool s,.slice A n c,.int .i64 e]] w fun e w'=>e=.returned (.bool b)/\Below w.heap.size w w':=by
 have fin:=(Below.refl w.heap.size w).alloc (Nat.le_refl _) (.cells #[.bool s,.slice A n c,.int .i64 e] 24)
 have B1:=heap_alloc_last w (.cells #[.bool s,.slice A n c,.int .i64 e] 24)
 generalize hw:w.alloc (.cells #[.bool s,.slice A n c,.int .i64 e] 24)=w1 at *
 obtain⟨⟨p1,p2,p3⟩,p4,p5,p6⟩:=qam B1
 by_cases h:n=0
 . have hb':b=true:=by rw [<-hb]; exact decide_eq_true h
   subst hb'
   subst h
   go_enter Tryz.func171,Tryz.ntmps171
   go_wp2
   go_ret
   exact⟨rfl,fin⟩
 have hb':b=false:=by rw [<-hb]; exact decide_eq_false h
 subst hb'
 have hxb:((n:Int)==0)=false:=by
  have:(n:Int)≠0:=by omega
  simpa using this
 go_enter Tryz.func171,Tryz.ntmps171
 go_wp2
 go_ret
 exact⟨rfl,fin⟩
theorem qsi(w:World)(A:Option Addr)(n c:Nat)(ms:List Mv)(hL:LMs w 0 w.heap.size A n ms)(hn:n<=4096)(r:Bool)(hr:qkg ms=r) :
  Calls Tryz.prog 130 #[.slice A n c] w fun e w'=>e=.returned (.bool r)/\Below w.heap.size w w':=by
 have HL:=Lib.hid hL.len
 have HRS:=Lib.hid hr
 clear hr
 obtain⟨i0,hi0,hz0,hz1,hz2⟩:=info_parts infoM
 go_enter Tryz.func130,Tryz.ntmps130
 go_wp2
 go_loopw [4,7] (fun _ iv wr=>∃ i:Nat,iv=.int .i64 i/\i<=n/\Below w.heap.size w wr/\Hid (∀ j (h:j < ms.length),j < i->ms[j].share)) (fun _ iv _=>n-(intOf iv).toNat)
 case atStart=>exact⟨0,rfl,Nat.zero_le _,Below.refl _ _,Lib.hid fun j h hj=>absurd hj (Nat.not_lt_zero _)⟩
 obtain⟨i,rfl,hi1,hb,hall⟩:=hrel
 have hLr:=hL.below hb (Nat.le_refl _)
 by_cases hlt:i < n
 . have hi2:i < ms.length:=by rw [HL.out]; exact hlt
   obtain⟨b,off,hA,h1,h2,hc⟩:=hLr.row (by omega)
   have hci:=hc i hi2
   have hri:=hLr.rows i hi2
   obtain⟨d,hd⟩:∃ d,ms[i]=d:=⟨_,rfl⟩
   rw [hd] at hci hri
   have HD:=Lib.hid hd
   subst hA
   clear hd hc hLr
   have lb:=hb.size
   obtain⟨k0,k1,k2,k3,k4,k5,k6,k7,k8,k9,k10,k11⟩:=hci
   have hwr:IntKind.i64.wrap ((i:Int)+1)=((i+1:Nat):Int):=by rw [IntKind.wrap_i64]; omega
   have hBL:=(Below.refl wr.heap.size wr).alloc (Nat.le_refl _) (.cells #[.bool d.S.s,.slice d.S.A d.S.n d.S.c,.int .i64 d.S.e,.bool d.W.s,.slice d.W.A d.W.n d.W.c,.int .i64 d.W.e,.bool d.C.s,.slice d.C.A d.C.n d.C.c,.int .i64 d.C.e,.bool d.A.s,.slice d.A.A d.A.n d.A.c,.int .i64 d.A.e] 26)
   have hM2:qaz (wr.alloc (.cells #[.bool d.S.s,.slice d.S.A d.S.n d.S.c,.int .i64 d.S.e,.bool d.W.s,.slice d.W.A d.W.n d.W.c,.int .i64 d.W.e,.bool d.C.s,.slice d.C.A d.C.n d.C.c,.int .i64 d.C.e,.bool d.A.s,.slice d.A.A d.A.n d.A.c,.int .i64 d.A.e] 26)) wr.heap.size d:=heap_alloc_last _ _
   have hr2:MRows (wr.alloc (.cells #[.bool d.S.s,.slice d.S.A d.S.n d.S.c,.int .i64 d.S.e,.bool d.W.s,.slice d.W.A d.W.n d.W.c,.int .i64 d.W.e,.bool d.C.s,.slice d.C.A d.C.n d.C.c,.int .i64 d.C.e,.bool d.A.s,.slice d.A.A d.A.n d.A.c,.int .i64 d.A.e] 26)) 0 (wr.alloc (.cells #[.bool d.S.s,.slice d.S.A d.S.n d.S.c,.int .i64 d.S.e,.bool d.W.s,.slice d.W.A d.W.n d.W.c,.int .i64 d.W.e,.bool d.C.s,.slice d.C.A d.C.n d.C.c,.int .i64 d.C.e,.bool d.A.s,.slice d.A.A d.A.n d.A.c,.int .i64 d.A.e] 26)).heap.size d:=(hri.below hBL (by omega)).more (Nat.le_refl _) (by have:=hBL.size; omega)
   have l2:wr.heap.size < (wr.alloc (.cells #[.bool d.S.s,.slice d.S.A d.S.n d.S.c,.int .i64 d.S.e,.bool d.W.s,.slice d.W.A d.W.n d.W.c,.int .i64 d.W.e,.bool d.C.s,.slice d.C.A d.C.n d.C.c,.int .i64 d.C.e,.bool d.A.s,.slice d.A.A d.A.n d.A.c,.int .i64 d.A.e] 26)).heap.size:=by simp
   generalize hw2:wr.alloc (.cells #[.bool d.S.s,.slice d.S.A d.S.n d.S.c,.int .i64 d.S.e,.bool d.W.s,.slice d.W.A d.W.n d.W.c,.int .i64 d.W.e,.bool d.C.s,.slice d.C.A d.C.n d.C.c,.int .i64 d.C.e,.bool d.A.s,.slice d.A.A d.A.n d.A.c,.int .i64 d.A.e] 26)=w2 at *
   obtain⟨⟨y0,y1,y2,y3,y4,y5,y6,y7,y8,y9,y10,y11⟩,yf⟩:=qaz.cells hM2
   obtain⟨q,hq⟩:∃ q,q07 d=q:=⟨_,rfl⟩
   go_wp2_with fail
   refine (qth w2 d hr2 q hq).mono ?_
   rintro e w3 ⟨rfl,hB⟩
   clear k0 k1 k2 k3 k4 k5 k6 k7 k8 k9 k10 k11 y0 y1 y2 y3 y4 y5 y6 y7 y8 y9 y10 y11 yf hw2
   have hM3:qaz w3 wr.heap.size d:=qb2 hM2 hB l2
   have b3:Below w.heap.size w w3:=hb.trans ((lz hBL hB).mono lb)
   have l3:=hB.size
   clear hB hBL hM2 hr2
   by_cases hm:d.may
   . have hq0:q=0:=hq.symm.trans (q0p hm)
     subst hq0
     obtain⟨⟨y0,y1,y2,y3,y4,y5,y6,y7,y8,y9,y10,y11⟩,yf⟩:=qaz.cells hM3
     cases hs:d.W.s
     . rw [hs] at y3
       have HS:=Lib.hid hs
       clear hs
       by_cases hn0:d.W.n=0
       . have HN:=Lib.hid hn0
         clear hn0
         go_wp2_with fail
         refine (qiq w3 false d.W.A d.W.n d.W.c d.W.e true (decide_eq_true HN.out)).mono ?_
         rintro e w4 ⟨rfl,hB⟩
         have hM4:qaz w4 wr.heap.size d:=qb2 hM3 hB (by omega)
         have b4:=b3.trans (hB.mono b3.size)
         clear y0 y1 y2 y3 y4 y5 y6 y7 y8 y9 y10 y11 yf hB
         obtain⟨⟨y0,y1,y2,y3,y4,y5,y6,y7,y8,y9,y10,y11⟩,yf⟩:=qaz.cells hM4
         by_cases hn1:d.S.n=0
         . have HN1:=Lib.hid hn1
           clear hn1
           go_wp2_with fail
           refine (qiq w4 d.S.s d.S.A d.S.n d.S.c d.S.e true (decide_eq_true HN1.out)).mono ?_
           rintro e w5 ⟨rfl,hB⟩
           have b5:=b4.trans (hB.mono b4.size)
           clear y0 y1 y2 y3 y4 y5 y6 y7 y8 y9 y10 y11 yf hB
           go_wp2
           go_roundw
           case rel=>exact⟨i+1,by first | rfl | (congr 1; omega) | go_num,by omega,b5,Lib.hid fun j hj hji=>by
            by_cases e:j=i
            . subst e
              rw [HD.out]
              exact⟨hm,HS.out,fun _=>HN1.out⟩
            exact hall.out j hj (by omega)⟩
           case measure=>first | (simp [intOf]; done) | (simp [intOf]; omega)
         have HN1:=Lib.hid hn1
         clear hn1
         go_wp2_with fail
         refine (qiq w4 d.S.s d.S.A d.S.n d.S.c d.S.e false (decide_eq_false HN1.out)).mono ?_
         rintro e w5 ⟨rfl,hB⟩
         have b5:=b4.trans (hB.mono b4.size)
         have hr1:r=true:=by rw [<-HRS.out]; exact qg3 (List.getElem_mem hi2) (by rw [HD.out]; exact fun h=>HN1.out (h.2.2 HN.out))
         subst hr1
         clear y0 y1 y2 y3 y4 y5 y6 y7 y8 y9 y10 y11 yf hB
         go_wp2
         go_ret
         exact⟨rfl,b5⟩
       have HN:=Lib.hid hn0
       clear hn0
       go_wp2_with fail
       refine (qiq w3 false d.W.A d.W.n d.W.c d.W.e false (decide_eq_false HN.out)).mono ?_
       rintro e w4 ⟨rfl,hB⟩
       have b4:=b3.trans (hB.mono b3.size)
       clear y0 y1 y2 y3 y4 y5 y6 y7 y8 y9 y10 y11 yf hB
       go_wp2
       go_roundw
       case rel=>exact⟨i+1,by first | rfl | (congr 1; omega) | go_num,by omega,b4,Lib.hid fun j hj hji=>by
        by_cases e:j=i
        . subst e
          rw [HD.out]
          exact⟨hm,HS.out,fun h=>absurd h HN.out⟩
        exact hall.out j hj (by omega)⟩
       case measure=>first | (simp [intOf]; done) | (simp [intOf]; omega)
     have hr1:r=true:=by rw [<-HRS.out]; exact qg3 (List.getElem_mem hi2) (by rw [HD.out]; exact fun h=>by have:=h.2.1; rw [hs] at this; cases this)
     subst hr1
     rw [hs] at y3
     clear hs
     go_wp2
     go_ret
     exact⟨rfl,b3⟩
   have hq0:q=8:=hq.symm.trans (q0o hm)
   subst hq0
   have hr1:r=true:=by rw [<-HRS.out]; exact qg3 (List.getElem_mem hi2) (by rw [HD.out]; exact fun h=>hm h.1)
   subst hr1
   go_wp2
   go_ret
   exact⟨rfl,b3⟩
 have hr0:r=false:=by
  rw [<-HRS.out]
  refine qv5 fun m hm=>?_
  obtain⟨j,hj,rfl⟩:=List.getElem_of_mem hm
  exact hall.out j hj (by have:=HL.out; omega)
 subst hr0
 go_wp2
 go_ret
 exact⟨rfl,hb⟩
theorem q1r{w:World}{g:Nat}{m:Mv}(h:qaz w g m)(hr:MRows w 0 w.heap.size m):LMs w 0 w.heap.size (some ⟨g,0,none⟩) 1 [m]:=by
 refine⟨rfl,by decide,fun _=>⟨g,0,rfl,Nat.zero_le _,(Array.getElem?_eq_some_iff.1 h).1,fun j hj=>?_⟩,fun j hj=>?_⟩
 . obtain rfl:j=0:=by simp at hj; omega
   obtain⟨⟨y0,y1,y2,y3,y4,y5,y6,y7,y8,y9,y10,y11⟩,_⟩:=qaz.cells h
   exact⟨y0,y1,y2,y3,y4,y5,y6,y7,y8,y9,y10,y11⟩
 obtain rfl:j=0:=by simp at hj; omega
 exact hr
theorem qte(w:World)(m:Mv)(hR:MRows w 0 w.heap.size m)(b:Bool)(hb:qkg [m]=b) :
  Calls Tryz.prog 67 #[.agg #[.bool m.S.s,.slice m.S.A m.S.n m.S.c,.int .i64 m.S.e,.bool m.W.s,.slice m.W.A m.W.n m.W.c,.int .i64 m.W.e,.bool m.C.s,.slice m.C.A m.C.n m.C.c,.int .i64 m.C.e,.bool m.A.s,.slice m.A.A m.A.n m.A.c,.int .i64 m.A.e]] w fun e w'=>e=.returned (.int .i64 (if b then 8 else 0))/\Below w.heap.size w w':=by
 have HB:=Lib.hid hb
 clear hb
 have M0:qaz (w.alloc (.cells #[.bool m.S.s,.slice m.S.A m.S.n m.S.c,.int .i64 m.S.e,.bool m.W.s,.slice m.W.A m.W.n m.W.c,.int .i64 m.W.e,.bool m.C.s,.slice m.C.A m.C.n m.C.c,.int .i64 m.C.e,.bool m.A.s,.slice m.A.A m.A.n m.A.c,.int .i64 m.A.e] 26)) w.heap.size m:=heap_alloc_last _ _
 obtain⟨⟨y0,y1,y2,y3,y4,y5,y6,y7,y8,y9,y10,y11⟩,yf⟩:=qaz.cells M0
 generalize hw:(w.alloc (.cells #[.bool m.S.s,.slice m.S.A m.S.n m.S.c,.int .i64 m.S.e,.bool m.W.s,.slice m.W.A m.W.n m.W.c,.int .i64 m.W.e,.bool m.C.s,.slice m.C.A m.C.n m.C.c,.int .i64 m.C.e,.bool m.A.s,.slice m.A.A m.A.n m.A.c,.int .i64 m.A.e] 26)).alloc (.cells #[.bool m.S.s,.slice m.S.A m.S.n m.S.c,.int .i64 m.S.e,.bool m.W.s,.slice m.W.A m.W.n m.W.c,.int .i64 m.W.e,.bool m.C.s,.slice m.C.A m.C.n m.C.c,.int .i64 m.C.e,.bool m.A.s,.slice m.A.A m.A.n m.A.c,.int .i64 m.A.e] 26)=w1
 obtain⟨M1,M2,b1,l1,l2⟩:=qdy w _ _ hw
 replace M2:qaz w1 (w.heap.size+1) m:=M2
 have hR1:MRows w1 0 w1.heap.size m:=(hR.below b1 (Nat.le_refl _)).more (Nat.le_refl _) (by omega)
 clear M1 M0
 go_enter Tryz.func67,Tryz.ntmps67
 go_wp2_with fail
 try clear hw
 refine (qsi w1 (some ⟨w.heap.size+1,0,none⟩) 1 1 [m] (q1r M2 hR1) (by decide) b HB.out).mono ?_
 rintro e w2 ⟨rfl,hB⟩
 have b2:=b1.trans (hB.mono (by omega))
 clear y0 y1 y2 y3 y4 y5 y6 y7 y8 y9 y10 y11 yf hB
 cases b
 . go_wp2
   go_ret
   exact⟨rfl,b2⟩
 go_wp2
 go_ret
 exact⟨rfl,b2⟩
end Ma
end Go.Proofs.YtmbppgjhdcmckaaGreatDoor