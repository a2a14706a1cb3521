/- Nodes among the arguments (printed by a program of mine). -/
import Derived.Test.YtmbppgjhdcmckaaGreatDoorBj31
set_option maxHeartbeats 102400000
set_option maxRecDepth 100000
namespace Go.Proofs.YtmbppgjhdcmckaaGreatDoor
open Go.ChangeShapes Go.WideShapes Go.ChangeAt Go.RowKit Go.Joins Go.Deep
section
variable {H:Type} {enc:TypeId×Value->H} {P:Program} {W:World}
open De (Rng Descs Descs.nil_)
theorem qqr{z:Int}(h:(Lit.int .i64 z).wf=true):-9223372036854775808<=z/\z<=9223372036854775807:=by
 simpa [Lit.wf,IntKind.min,IntKind.max,IntKind.signed,IntKind.bits] using h
theorem qjm{t e:TypeId}{f0 f1:Field}{fuel:Nat}{v:Value}{x:DataW H×List MemPlace}(ht:P.underlying t=some (.slice e))(he:P.underlying e=some (.struct #[f0,f1]))(ce:P.cellsOf e=2)(o0:f0.offset=0)(o1:f1.offset=1)
  (c0:P.cellsOf f0.type=1) (c1:P.cellsOf f1.type=1) (u0:P.underlying f0.type=some (.int .i64)) (u1:P.underlying f1.type=some (.int .i64))
  (h:DataW.trod enc P W 0 (fun _=>true) true fuel t [v]=some x) (hfz:∀ b off,MemPlace.cell b off∈x.2->W.frozen? ⟨b,off,none⟩=false) (hlt:∀ q∈x.2,q.block < W.heap.size) :
  ∃ A n c xs,v=.slice A n c/\n<=c/\c<=maxLen/\Descs W 0 W.heap.size A n xs:=by
 rcases open_slice_pairs ht he ce o0 o1 c0 c1 h with ⟨hcs,_⟩|⟨a,len,cap,m,k,V0,V1,D0,D1,P0,P1,hcs,_,hl,hm,hmm,hx,hi⟩
 . injection hcs with hcs
   exact⟨none,0,0,[],hcs,Nat.le_refl _,by unfold maxLen; omega,Descs.nil_ ..⟩
 injection hcs with hcs
 simp only [if_true] at hmm
 subst hmm
 have hV:∀ i,i < m->∃ q:Int×Int,V0 i=.int .i64 q.1/\V1 i=.int .i64 q.2/\Rng q:=fun i hi'=>by
  obtain⟨_,_,h0,h1⟩:=hi i hi'
  obtain⟨x,e0,_,w0⟩:=DataW.trod_int u0 h0
  obtain⟨y,e1,_,w1⟩:=DataW.trod_int u1 h1
  injection e0 with e0
  injection e1 with e1
  exact⟨(x,y),e0,e1,qqr w0,qqr w1⟩
 obtain⟨q,hq⟩:=choose_lt hV
 have hmem2:∀ j,j < m*2->∀ b off,a=⟨b,off,none⟩->MemPlace.cell b (off+j)∈x.2:=fun j hj b off e=>by
  rw [hx,e]
  exact List.mem_append_left _ (MemPlace.mem_row.2 ⟨j,hj,rfl⟩)
 refine⟨some a,len,m,(List.range len).map q,hcs,hl,hm,by simp,fun y hy=>?_,by unfold maxLen at hm; omega,fun h0=>?_⟩
 . obtain⟨i,hi',rfl⟩:=List.mem_map.1 hy
   exact (hq i (by have:=List.mem_range.1 hi'; omega)).2.2
 obtain⟨b,off,spot⟩:=a
 have hspot:spot=none:=by simpa [Addr.add] using World.cell?_spot (hi 0 (by omega)).1
 subst hspot
 have hb:b < W.heap.size:=hlt _ (hmem2 0 (by omega) b off rfl)
 refine⟨b,off,rfl,Nat.zero_le _,hb,fun j hj=>?_⟩
 obtain⟨g0,g1,_,_⟩:=hi j (by omega)
 rw [add_plain] at g0 g1
 rw [show off+(j*2+1)=off+j*2+1 by omega] at g1
 have hxj:((List.range len).map q)[j]?.getD (0,0)=q j:=by simp [hj]
 rw [hxj,g0,g1,(hq j (by omega)).1,(hq j (by omega)).2.1]
 exact⟨⟨rfl,hfz _ _ (hmem2 (j*2) (by omega) b off rfl)⟩,rfl,by rw [Nat.add_assoc]; exact hfz _ _ (hmem2 (j*2+1) (by omega) b off rfl)⟩
instance:Inhabited Ma.Fv:=⟨⟨0,⟨⟨⟨false,none,0,0,0,[]⟩,⟨false,none,0,0,0,[]⟩,⟨false,none,0,0,0,[]⟩,⟨false,none,0,0,0,[]⟩⟩,false,0,0,none,0,0,[]⟩⟩⟩
theorem qox{fuel:Nat}{cs:List Value}{x:DataW H×List MemPlace}
  (h:DataW.trod enc Tryz.prog W 0 (fun _=>true) true fuel 115 cs=some x) (hfz:∀ b off,MemPlace.cell b off∈x.2->W.frozen? ⟨b,off,none⟩=false) (hlt:∀ q∈x.2,q.block < W.heap.size) :
  ∃ f:Ma.Fv,cs=Ma.cells17 f/\Ma.PRows W 0 W.heap.size f.P/\∀ x,x < 4->(f.P.M.get x).n<=(f.P.M.get x).c:=by
 obtain⟨y0,y1,n,hx,hl,h0,h1⟩:=trod_struct2 Tryz.underlying115 h
 match cs,hl.trans (show Tryz.prog.cellsOf 115=17 by kernel_rfl) with
 | [c0,c1,c2,c3,c4,c5,c6,c7,c8,c9,c10,c11,c12,c13,c14,c15,c16],_ =>
  have hx2:x.2=y0.2++y1.2:=by rw [hx]
  have C1:Tryz.prog.cellsOf 3=1:=by kernel_rfl
  have C2:Tryz.prog.cellsOf 30=16:=by kernel_rfl
  simp only [C1,C2,List.drop_zero,List.take_succ_cons,List.take_zero,List.drop_succ_cons] at h0 h1
  obtain⟨z,e1,_,z1⟩:=DataW.trod_int Tryz.underlying3 h0
  injection e1 with e1
  obtain⟨p,ep,hR,hcp⟩:=qmz h1 (fun b off hm=>hfz b off (by simp [hx2,hm])) (fun q hq=>hlt q (by simp [hx2,hq]))
  refine⟨⟨z,p⟩,?_,hR,hcp⟩
  rw [e1,ep]
  rfl
theorem qly{fuel:Nat}{v:Value}{x:DataW H×List MemPlace}
  (hf:DataW.trod enc Tryz.prog W 0 (fun _=>true) true fuel 60 [v]=some x) (hfz:∀ b off,MemPlace.cell b off∈x.2->W.frozen? ⟨b,off,none⟩=false) (hlt:∀ q∈x.2,q.block < W.heap.size) :
  ∃ A n c fs,v=.slice A n c/\n<=c/\c<=maxLen/\Ma.LFs W 0 W.heap.size A n fs/\∀ f∈fs,∀ x,x < 4->(f.P.M.get x).n<=(f.P.M.get x).c:=by
 rcases open_slice Tryz.underlying60 hf with ⟨hcs,_⟩|⟨a,len,cap,m,k,D,Pl,hcs,_,hl,hm,hmm,hx,hi⟩
 . injection hcs with hcs
   exact⟨none,0,0,[],hcs,Nat.le_refl _,by unfold maxLen; omega,⟨rfl,by decide,fun h0=>absurd h0 (Nat.lt_irrefl 0),fun j hj=>absurd hj (Nat.not_lt_zero _)⟩,fun _ h=>absurd h (by simp)⟩
 injection hcs with hcs
 simp only [if_true] at hmm
 subst hmm
 have hC:Tryz.prog.cellsOf 115=17:=by kernel_rfl
 have hx2:x.2=MemPlace.row a (m*17)++(List.range m).flatMap Pl:=by rw [hx,hC]
 have hmem:∀ i,i < m->∀ q∈Pl i,q∈x.2:=fun i hi' q hq=>by
  rw [hx2]
  exact List.mem_append_right _ (List.mem_flatMap.2 ⟨i,List.mem_range.2 hi',hq⟩)
 have hV:∀ i,i < m->∃ q:Ma.Fv,(∀ k,k < 17->W.cell? ((a.add (i*17)).add k)=(Ma.cells17 q)[k]?)/\Ma.PRows W 0 W.heap.size q.P/\∀ x,x < 4->(q.P.M.get x).n<=(q.P.M.get x).c:=fun i hi'=>by
  obtain⟨cs',h1,h2⟩:=hi i hi'
  rw [hC] at h1
  obtain⟨_,_,hcell⟩:=World.cells?_some h1
  obtain⟨q,e,hq,hcq⟩:=qox h2 (fun b off hm=>hfz b off (hmem i hi' _ hm)) (fun q hq=>hlt q (hmem i hi' q hq))
  subst e
  exact⟨q,hcell,hq,hcq⟩
 obtain⟨q,hq⟩:=choose_lt hV
 refine⟨some a,len,m,(List.range len).map q,hcs,hl,hm,⟨by simp,by unfold maxLen at hm; omega,fun h0=>?_,fun j hj=>?_⟩,fun f hf=>?_⟩
 . obtain⟨b,off,spot⟩:=a
   have hspot:spot=none:=by
    have k:=(hq 0 (by omega)).1 0 (by decide)
    have k2:=World.cell?_spot k
    simpa [Addr.add] using k2
   subst hspot
   have hb:b < W.heap.size:=hlt _ (by
    rw [hx2]
    exact List.mem_append_left _ (MemPlace.mem_row.2 ⟨0,by omega,rfl⟩):MemPlace.cell b (off+0)∈x.2)
   refine⟨b,off,rfl,Nat.zero_le _,hb,fun j hj=>?_⟩
   have hj':j < len:=by simpa using hj
   have e:((List.range len).map q)[j]=q j:=by simp
   rw [e]
   have g:=(hq j (by omega)).1
   simp only [add_plain] at g
   exact Ma.fcells_of g
 . have e:((List.range len).map q)[j]=q j:=by simp
   rw [e]
   have hj':j < len:=by simpa using hj
   exact (hq j (by omega)).2.1
 obtain⟨j,hj,rfl⟩:=List.mem_map.1 hf
 have hj':j < len:=List.mem_range.1 hj
 exact (hq j (by omega)).2.2
theorem qk7{spare:TypeId->Bool}{held:Bool}{base:Nat}{t:TypeId}{f0 f1 f2 f3 f4:Field}{fuel:Nat}{cs:List Value}{x:DataW H×List MemPlace}(ht:P.underlying t=some (.struct #[f0,f1,f2,f3,f4]))(h:DataW.trod enc P W base spare held fuel t cs=some x) :
  ∃ y0 y1 y2 y3 y4 n,x.2=y0.2++(y1.2++(y2.2++(y3.2++y4.2)))/\cs.length=P.cellsOf t/\DataW.trod enc P W base spare held n f0.type ((cs.drop f0.offset).take (P.cellsOf f0.type))=some y0/\DataW.trod enc P W base spare held n f1.type ((cs.drop f1.offset).take (P.cellsOf f1.type))=some y1/\DataW.trod enc P W base spare held n f2.type ((cs.drop f2.offset).take (P.cellsOf f2.type))=some y2/\DataW.trod enc P W base spare held n f3.type ((cs.drop f3.offset).take (P.cellsOf f3.type))=some y3/\DataW.trod enc P W base spare held n f4.type ((cs.drop f4.offset).take (P.cellsOf f4.type))=some y4:=by
 obtain⟨xs,n,_,rfl,hl,hlen,hf⟩:=DataW.trod_struct ht h
 match xs,hlen with
 | [y0,y1,y2,y3,y4],_=>exact⟨y0,y1,y2,y3,y4,n,by simp,hl,by simpa using hf 0 f0 rfl,by simpa using hf 1 f1 rfl,by simpa using hf 2 f2 rfl,by simpa using hf 3 f3 rfl,by simpa using hf 4 f4 rfl⟩
theorem qj9{spare:TypeId->Bool}{held:Bool}{base:Nat}{t:TypeId}{f0 f1 f2 f3 f4 f5 f6 f7 f8 f9:Field}{fuel:Nat}{cs:List Value}{x:DataW H×List MemPlace}(ht:P.underlying t=some (.struct #[f0,f1,f2,f3,f4,f5,f6,f7,f8,f9]))(h:DataW.trod enc P W base spare held fuel t cs=some x) :
  ∃ y0 y1 y2 y3 y4 y5 y6 y7 y8 y9 n,x.2=y0.2++(y1.2++(y2.2++(y3.2++(y4.2++(y5.2++(y6.2++(y7.2++(y8.2++(y9.2)))))))))/\cs.length=P.cellsOf t/\DataW.trod enc P W base spare held n f0.type ((cs.drop f0.offset).take (P.cellsOf f0.type))=some y0/\DataW.trod enc P W base spare held n f1.type ((cs.drop f1.offset).take (P.cellsOf f1.type))=some y1/\DataW.trod enc P W base spare held n f2.type ((cs.drop f2.offset).take (P.cellsOf f2.type))=some y2/\DataW.trod enc P W base spare held n f3.type ((cs.drop f3.offset).take (P.cellsOf f3.type))=some y3/\DataW.trod enc P W base spare held n f4.type ((cs.drop f4.offset).take (P.cellsOf f4.type))=some y4/\DataW.trod enc P W base spare held n f5.type ((cs.drop f5.offset).take (P.cellsOf f5.type))=some y5/\DataW.trod enc P W base spare held n f6.type ((cs.drop f6.offset).take (P.cellsOf f6.type))=some y6/\DataW.trod enc P W base spare held n f7.type ((cs.drop f7.offset).take (P.cellsOf f7.type))=some y7/\DataW.trod enc P W base spare held n f8.type ((cs.drop f8.offset).take (P.cellsOf f8.type))=some y8/\DataW.trod enc P W base spare held n f9.type ((cs.drop f9.offset).take (P.cellsOf f9.type))=some y9:=by
 obtain⟨xs,n,_,rfl,hl,hlen,hf⟩:=DataW.trod_struct ht h
 match xs,hlen with
 | [y0,y1,y2,y3,y4,y5,y6,y7,y8,y9],_=>exact⟨y0,y1,y2,y3,y4,y5,y6,y7,y8,y9,n,by simp,hl,by simpa using hf 0 f0 rfl,by simpa using hf 1 f1 rfl,by simpa using hf 2 f2 rfl,by simpa using hf 3 f3 rfl,by simpa using hf 4 f4 rfl,by simpa using hf 5 f5 rfl,by simpa using hf 6 f6 rfl,by simpa using hf 7 f7 rfl,by simpa using hf 8 f8 rfl,by simpa using hf 9 f9 rfl⟩
theorem qo4{fuel:Nat}{c0 c1 c2 c3 c4:Value}{x:DataW H×List MemPlace}
  (h:DataW.trod enc Tryz.prog W 0 (fun _=>true) true fuel 53 [c0,c1,c2,c3,c4]=some x):∃ a b c d e:Int,c0=.int .i64 a/\c1=.int .i64 b/\c2=.int .i64 c/\c3=.int .i64 d/\c4=.int .i64 e:=by
 obtain⟨y0,y1,y2,y3,y4,n,hx,_,h0,h1,h2,h3,h4⟩:=qk7 Tryz.underlying53 h
 have C2:Tryz.prog.cellsOf 3=1:=by kernel_rfl
 simp only [C2,List.drop_zero,List.take_succ_cons,List.take_zero,List.drop_succ_cons] at h0 h1 h2 h3 h4
 obtain⟨z0,e0,_,_⟩:=DataW.trod_int Tryz.underlying3 h0
 injection e0 with e0
 obtain⟨z1,e1,_,_⟩:=DataW.trod_int Tryz.underlying3 h1
 injection e1 with e1
 obtain⟨z2,e2,_,_⟩:=DataW.trod_int Tryz.underlying3 h2
 injection e2 with e2
 obtain⟨z3,e3,_,_⟩:=DataW.trod_int Tryz.underlying3 h3
 injection e3 with e3
 obtain⟨z4,e4,_,_⟩:=DataW.trod_int Tryz.underlying3 h4
 injection e4 with e4
 exact⟨z0,z1,z2,z3,z4,e0,e1,e2,e3,e4⟩
theorem qre{fuel:Nat}{c0 c1 c2:Value}{x:DataW H×List MemPlace}
  (h:DataW.trod enc Tryz.prog W 0 (fun _=>true) true fuel 55 [c0,c1,c2]=some x):∃ (b:Bool) (p q:Int),c0=.bool b/\c1=.int .i64 p/\c2=.int .i64 q:=by
 obtain⟨y0,y1,y2,n,hx,_,h0,h1,h2⟩:=trod_struct3 Tryz.underlying55 h
 have C1:Tryz.prog.cellsOf 4=1:=by kernel_rfl
 have C2:Tryz.prog.cellsOf 3=1:=by kernel_rfl
 simp only [C1,C2,List.drop_zero,List.take_succ_cons,List.take_zero,List.drop_succ_cons] at h0 h1 h2
 obtain⟨s,e0,_⟩:=DataW.trod_bool Tryz.underlying4 h0
 obtain⟨z,e1,_,z1⟩:=DataW.trod_int Tryz.underlying3 h1
 obtain⟨u,e2,_,z2⟩:=DataW.trod_int Tryz.underlying3 h2
 injection e0 with e0
 injection e1 with e1
 injection e2 with e2
 exact⟨s,z,u,e0,e1,e2⟩
theorem qpb{fuel:Nat}{c0 c1 c2:Value}{x:DataW H×List MemPlace}
  (h:DataW.trod enc Tryz.prog W 0 (fun _=>true) true fuel 59 [c0,c1,c2]=some x) (hfz:∀ b off,MemPlace.cell b off∈x.2->W.frozen? ⟨b,off,none⟩=false) (hlt:∀ q∈x.2,q.block < W.heap.size):∃ (p q:Int) (A:Option Addr) (n c:Nat) (xs:List (Int×Int)),c0=.int .i64 p/\c1=.int .i64 q/\c2=.slice A n c/\Descs W 0 W.heap.size A n xs:=by
 obtain⟨y0,y1,y2,n,hx,_,h0,h1,h2⟩:=trod_struct3 Tryz.underlying59 h
 have hx2:x.2=y0.2++(y1.2++y2.2):=by rw [hx]
 have C1:Tryz.prog.cellsOf 57=1:=by kernel_rfl
 have C2:Tryz.prog.cellsOf 3=1:=by kernel_rfl
 simp only [C1,C2,List.drop_zero,List.take_succ_cons,List.take_zero,List.drop_succ_cons] at h0 h1 h2
 obtain⟨z,e1,_,z1⟩:=DataW.trod_int Tryz.underlying3 h0
 obtain⟨u,e2,_,z2⟩:=DataW.trod_int Tryz.underlying3 h1
 injection e1 with e1
 injection e2 with e2
 obtain⟨A,m,c,xs,e3,_,_,hD⟩:=qjm Tryz.underlying57 Tryz.underlying195 (by kernel_rfl) (by kernel_rfl) (by kernel_rfl) (by kernel_rfl) (by kernel_rfl) Tryz.underlying3 Tryz.underlying3 h2 (fun b off hm=>hfz b off (by simp [hx2,hm])) (fun q hq=>hlt q (by simp [hx2,hq]))
 exact⟨z,u,A,m,c,xs,e1,e2,e3,hD⟩
theorem qr2{fuel:Nat}{cs:List Value}{x:DataW H×List MemPlace}
  (h:DataW.trod enc Tryz.prog W 0 (fun _=>true) true fuel 63 cs=some x) (hfz:∀ b off,MemPlace.cell b off∈x.2->W.frozen? ⟨b,off,none⟩=false) (hlt:∀ q∈x.2,q.block < W.heap.size) :
  ∃ v:No.Nv,cs=No.cells33 v/\No.NRows W 0 W.heap.size v:=by
 obtain⟨y0,y1,y2,y3,y4,y5,y6,y7,y8,y9,n,hx2,hl,h0,h1,h2,h3,h4,h5,h6,h7,h8,h9⟩:=qj9 Tryz.underlying63 h
 match cs,hl.trans (show Tryz.prog.cellsOf 63=33 by kernel_rfl) with
 | c0::c1::c2::c3::c4::c5::c6::c7::c8::c9::c10::c11::c12::c13::c14::c15::c16::c17::c18::c19::c20::c21::c22::c23::c24::c25::c26::c27::c28::c29::c30::c31::c32::[],_ =>
  have C0:Tryz.prog.cellsOf 3=1:=by kernel_rfl
  have C1:Tryz.prog.cellsOf 4=1:=by kernel_rfl
  have C2:Tryz.prog.cellsOf 53=5:=by kernel_rfl
  have C3:Tryz.prog.cellsOf 30=16:=by kernel_rfl
  have C4:Tryz.prog.cellsOf 55=3:=by kernel_rfl
  have C5:Tryz.prog.cellsOf 56=1:=by kernel_rfl
  have C6:Tryz.prog.cellsOf 59=3:=by kernel_rfl
  have C7:Tryz.prog.cellsOf 60=1:=by kernel_rfl
  have C8:Tryz.prog.cellsOf 61=1:=by kernel_rfl
  simp only [C0,C1,C2,C3,C4,C5,C6,C7,C8,List.drop_zero,List.take_succ_cons,List.take_zero,List.drop_succ_cons] at h0 h1 h2 h3 h4 h5 h6 h7 h8 h9
  obtain⟨z0,e0,_,_⟩:=DataW.trod_int Tryz.underlying3 h0
  injection e0 with e0
  obtain⟨z1,e1,_,_⟩:=DataW.trod_int Tryz.underlying3 h1
  injection e1 with e1
  obtain⟨up,e2,_⟩:=DataW.trod_bool Tryz.underlying4 h2
  injection e2 with e2
  obtain⟨kl,kt,ks,ke,kf,q0,q1,q2,q3,q4⟩:=qo4 h3
  obtain⟨p,ep,hP,_⟩:=qmz h4 (fun b off hm=>hfz b off (by simp [hx2,hm])) (fun q hq=>hlt q (by simp [hx2,hq]))
  obtain⟨wo,wn,wt,q5,q6,q7⟩:=qre h5
  obtain⟨hA,hn,hc,hs,e6,_,hH⟩:=qjb Tryz.underlying56 Tryz.underlying3 (by kernel_rfl) h6 (fun b off hm=>hfz b off (by simp [hx2,hm])) (fun q hq=>hlt q (by simp [hx2,hq]))
  obtain⟨own,cap,dA,dn,dc,ds,q8,q9,q10,hD⟩:=qpb h7 (fun b off hm=>hfz b off (by simp [hx2,hm])) (fun q hq=>hlt q (by simp [hx2,hq]))
  obtain⟨fA,fn,fc,fs,e8,_,_,hF,_⟩:=qly h8 (fun b off hm=>hfz b off (by simp [hx2,hm])) (fun q hq=>hlt q (by simp [hx2,hq]))
  obtain⟨tA,tn,tc,ts,e9,_,_,hTm⟩:=qjm Tryz.underlying61 Tryz.underlying146 (by kernel_rfl) (by kernel_rfl) (by kernel_rfl) (by kernel_rfl) (by kernel_rfl) Tryz.underlying3 Tryz.underlying3 h9 (fun b off hm=>hfz b off (by simp [hx2,hm])) (fun q hq=>hlt q (by simp [hx2,hq]))
  simp only [List.cons.injEq,and_true] at ep
  obtain⟨g0,g1,g2,g3,g4,g5,g6,g7,g8,g9,g10,g11,g12,g13,g14,g15⟩:=ep
  refine⟨⟨z0,z1,up,kl,kt,ks,ke,kf,p,wo,wn,wt,hA,hn,hc,hs,own,cap,dA,dn,dc,ds,fA,fn,fc,fs,tA,tn,tc,ts⟩,?_,⟨hP,hH,hD,hF,hTm⟩⟩
  subst e0 e1 e2 q0 q1 q2 q3 q4 g0 g1 g2 g3 g4 g5 g6 g7 g8 g9 g10 g11 g12 g13 g14 g15 q5 q6 q7 e6 q8 q9 q10 e8 e9
  rfl
theorem quk{r:Reach}{b0:Nat}{v:Value}{d:DataW H}{p:List MemPlace}
  (hval:Value.okWide Tryz.prog W r b0 63 v) (h:DataW.Trod enc Tryz.prog W 0 (fun _=>true) true 63 v d p) (hfz:∀ b off,MemPlace.cell b off∈p->W.frozen? ⟨b,off,none⟩=false) (hlt:∀ q∈p,q.block < W.heap.size) :
  ∃ v':No.Nv,v=.agg (No.cells33 v').toArray/\No.NRows W 0 W.heap.size v':=by
 obtain⟨cs,rfl,hsz⟩:=okWide_struct Tryz.underlying63 hval
 obtain⟨cs⟩:=cs
 obtain⟨fuel,hf⟩:=h
 simp only [Value.cells] at hf
 obtain⟨p,e,hR⟩:=qr2 hf hfz hlt
 subst e
 exact⟨p,rfl,hR⟩
end
end Go.Proofs.YtmbppgjhdcmckaaGreatDoor