/- A part's value, its cells and rows. No function in sight (printed by a program of mine). -/
import Derived.Test.YtmbppgjhdcmckaaGreatDoorBj15
set_option maxHeartbeats 102400000
set_option maxRecDepth 100000
namespace Go.Proofs.YtmbppgjhdcmckaaGreatDoor
open Go.RowKit
namespace Ma
open Dp Dy
structure Pv where
 M:Mv
 h:Bool
 mn:Int
 mx:Int
 A:Option Addr
 n:Nat
 c:Nat
 xs:List Int
structure PRows(w:World)(lo hi:Nat)(p:Pv):Prop where
 M:MRows w lo hi p.M
 L:qae w lo hi .u32 p.A p.n p.xs
theorem PRows.below{w w':World}{lo hi B:Nat}{p:Pv}(h:PRows w lo hi p)(hb:Below B w w')(hB:hi<=B):PRows w' lo hi p:=⟨h.M.below hb hB,h.L.below hb hB⟩
theorem PRows.more{w:World}{lo hi lo' hi':Nat}{p:Pv}(h:PRows w lo hi p)(hl:lo'<=lo)(hh:hi<=hi'):PRows w lo' hi' p:=⟨h.M.more hl hh,h.L.more hl hh⟩
theorem PRows.on{w w':World}{p:Pv}(h:PRows w 0 w.heap.size p)(hb:Below w.heap.size w w'):PRows w' 0 w'.heap.size p:=(h.below hb (Nat.le_refl _)).more (Nat.le_refl _) hb.size
theorem PRows.rng{w w':World}{lo hi:Nat}{p:Pv}(h:PRows w lo hi p)(hk:∀ b,lo<=b->b < hi->w'.heap[b]? = w.heap[b]?):PRows w' lo hi p:=⟨qgg h.M hk,qaq h.L hk⟩
def PBox(w:World)(g:Nat)(p:Pv):Prop:=w.heap[g]? = some (.cells #[.bool p.M.S.s,.slice p.M.S.A p.M.S.n p.M.S.c,.int .i64 p.M.S.e,.bool p.M.W.s,.slice p.M.W.A p.M.W.n p.M.W.c,.int .i64 p.M.W.e,.bool p.M.C.s,.slice p.M.C.A p.M.C.n p.M.C.c,.int .i64 p.M.C.e,.bool p.M.A.s,.slice p.M.A.A p.M.A.n p.M.A.c,.int .i64 p.M.A.e,.bool p.h,.int .i64 p.mn,.int .i64 p.mx,.slice p.A p.n p.c] 30 (0,0))
def qq7(w:World)(b o:Nat)(p:Pv):Prop:=w.cell? ⟨b,o,none⟩=some (.bool p.M.S.s)/\w.cell? ⟨b,o+1,none⟩=some (.slice p.M.S.A p.M.S.n p.M.S.c)/\w.cell? ⟨b,o+2,none⟩=some (.int .i64 p.M.S.e)/\w.cell? ⟨b,o+3,none⟩=some (.bool p.M.W.s)/\w.cell? ⟨b,o+4,none⟩=some (.slice p.M.W.A p.M.W.n p.M.W.c)/\w.cell? ⟨b,o+5,none⟩=some (.int .i64 p.M.W.e)/\w.cell? ⟨b,o+6,none⟩=some (.bool p.M.C.s)/\w.cell? ⟨b,o+7,none⟩=some (.slice p.M.C.A p.M.C.n p.M.C.c)/\w.cell? ⟨b,o+8,none⟩=some (.int .i64 p.M.C.e)/\w.cell? ⟨b,o+9,none⟩=some (.bool p.M.A.s)/\w.cell? ⟨b,o+10,none⟩=some (.slice p.M.A.A p.M.A.n p.M.A.c)/\w.cell? ⟨b,o+11,none⟩=some (.int .i64 p.M.A.e)/\w.cell? ⟨b,o+12,none⟩=some (.bool p.h)/\w.cell? ⟨b,o+13,none⟩=some (.int .i64 p.mn)/\w.cell? ⟨b,o+14,none⟩=some (.int .i64 p.mx)/\w.cell? ⟨b,o+15,none⟩=some (.slice p.A p.n p.c)
theorem qq7.blk{w w':World}{b o:Nat}{p:Pv}(h:qq7 w b o p)(hk:w'.heap[b]? = w.heap[b]?):qq7 w' b o p:=by
 obtain⟨k0,k1,k2,k3,k4,k5,k6,k7,k8,k9,k10,k11,k12,k13,k14,k15⟩:=h
 exact⟨by rw [World.cell?_of_block hk]; exact k0,by rw [World.cell?_of_block hk]; exact k1,by rw [World.cell?_of_block hk]; exact k2,by rw [World.cell?_of_block hk]; exact k3,by rw [World.cell?_of_block hk]; exact k4,by rw [World.cell?_of_block hk]; exact k5,by rw [World.cell?_of_block hk]; exact k6,by rw [World.cell?_of_block hk]; exact k7,by rw [World.cell?_of_block hk]; exact k8,by rw [World.cell?_of_block hk]; exact k9,by rw [World.cell?_of_block hk]; exact k10,by rw [World.cell?_of_block hk]; exact k11,by rw [World.cell?_of_block hk]; exact k12,by rw [World.cell?_of_block hk]; exact k13,by rw [World.cell?_of_block hk]; exact k14,by rw [World.cell?_of_block hk]; exact k15⟩
theorem PBox.cell{w:World}{g:Nat}{p:Pv}(h:PBox w g p):(w.cell? ⟨g,0,none⟩=some (.bool p.M.S.s)/\w.cell? ⟨g,1,none⟩=some (.slice p.M.S.A p.M.S.n p.M.S.c)/\w.cell? ⟨g,2,none⟩=some (.int .i64 p.M.S.e)/\w.cell? ⟨g,3,none⟩=some (.bool p.M.W.s)/\w.cell? ⟨g,4,none⟩=some (.slice p.M.W.A p.M.W.n p.M.W.c)/\w.cell? ⟨g,5,none⟩=some (.int .i64 p.M.W.e)/\w.cell? ⟨g,6,none⟩=some (.bool p.M.C.s)/\w.cell? ⟨g,7,none⟩=some (.slice p.M.C.A p.M.C.n p.M.C.c)/\w.cell? ⟨g,8,none⟩=some (.int .i64 p.M.C.e)/\w.cell? ⟨g,9,none⟩=some (.bool p.M.A.s)/\w.cell? ⟨g,10,none⟩=some (.slice p.M.A.A p.M.A.n p.M.A.c)/\w.cell? ⟨g,11,none⟩=some (.int .i64 p.M.A.e)/\w.cell? ⟨g,12,none⟩=some (.bool p.h)/\w.cell? ⟨g,13,none⟩=some (.int .i64 p.mn)/\w.cell? ⟨g,14,none⟩=some (.int .i64 p.mx)/\w.cell? ⟨g,15,none⟩=some (.slice p.A p.n p.c))/\∀ k,w.frozen? ⟨g,k,none⟩=false:=by
 have hf:∀ k,w.frozen? ⟨g,k,none⟩=false:=fun k=>frozen_of_row w g k _ _ h
 have hc:∀ k v,(#[.bool p.M.S.s,.slice p.M.S.A p.M.S.n p.M.S.c,.int .i64 p.M.S.e,.bool p.M.W.s,.slice p.M.W.A p.M.W.n p.M.W.c,.int .i64 p.M.W.e,.bool p.M.C.s,.slice p.M.C.A p.M.C.n p.M.C.c,.int .i64 p.M.C.e,.bool p.M.A.s,.slice p.M.A.A p.M.A.n p.M.A.c,.int .i64 p.M.A.e,.bool p.h,.int .i64 p.mn,.int .i64 p.mx,.slice p.A p.n p.c]:Array Value)[k]? = some v->w.cell? ⟨g,k,none⟩=some v:=fun k v hk=>by
  unfold PBox at h
  simp [World.cell?,h]
  simpa using hk
 exact⟨⟨hc 0 _ rfl,hc 1 _ rfl,hc 2 _ rfl,hc 3 _ rfl,hc 4 _ rfl,hc 5 _ rfl,hc 6 _ rfl,hc 7 _ rfl,hc 8 _ rfl,hc 9 _ rfl,hc 10 _ rfl,hc 11 _ rfl,hc 12 _ rfl,hc 13 _ rfl,hc 14 _ rfl,hc 15 _ rfl⟩,hf⟩
theorem alloc_p(w:World)(p:Pv):∃ U,w.alloc (.cells #[.bool p.M.S.s,.slice p.M.S.A p.M.S.n p.M.S.c,.int .i64 p.M.S.e,.bool p.M.W.s,.slice p.M.W.A p.M.W.n p.M.W.c,.int .i64 p.M.W.e,.bool p.M.C.s,.slice p.M.C.A p.M.C.n p.M.C.c,.int .i64 p.M.C.e,.bool p.M.A.s,.slice p.M.A.A p.M.A.n p.M.A.c,.int .i64 p.M.A.e,.bool p.h,.int .i64 p.mn,.int .i64 p.mx,.slice p.A p.n p.c] 30)=U/\PBox U w.heap.size p/\Below w.heap.size w U/\w.heap.size < U.heap.size :=
 ⟨_,rfl,heap_alloc_last _ _,(Below.refl _ w).alloc (Nat.le_refl _) _,by simp⟩
def ZPv:Pv:=⟨ZM,false,0,0,none,0,0,[]⟩
theorem qg6(w:World):∃ U,w.alloc (.cells #[.bool false,.slice none 0 0,.int .i64 0,.bool false,.slice none 0 0,.int .i64 0,.bool false,.slice none 0 0,.int .i64 0,.bool false,.slice none 0 0,.int .i64 0,.bool false,.int .i64 0,.int .i64 0,.slice none 0 0] 30)=U/\PBox U w.heap.size ZPv/\Below w.heap.size w U/\w.heap.size < U.heap.size :=
 ⟨_,rfl,heap_alloc_last _ _,(Below.refl _ w).alloc (Nat.le_refl _) _,by simp⟩
theorem qz0{w:World}{g:Nat}{p0:Pv}(h:PBox w g p0)(p:Pv):∃ U,((((((((((((((((w.setCell ⟨g,0,none⟩ (.bool p.M.S.s)).setCell ⟨g,1,none⟩ (.slice p.M.S.A p.M.S.n p.M.S.c)).setCell ⟨g,2,none⟩ (.int .i64 p.M.S.e)).setCell ⟨g,3,none⟩ (.bool p.M.W.s)).setCell ⟨g,4,none⟩ (.slice p.M.W.A p.M.W.n p.M.W.c)).setCell ⟨g,5,none⟩ (.int .i64 p.M.W.e)).setCell ⟨g,6,none⟩ (.bool p.M.C.s)).setCell ⟨g,7,none⟩ (.slice p.M.C.A p.M.C.n p.M.C.c)).setCell ⟨g,8,none⟩ (.int .i64 p.M.C.e)).setCell ⟨g,9,none⟩ (.bool p.M.A.s)).setCell ⟨g,10,none⟩ (.slice p.M.A.A p.M.A.n p.M.A.c)).setCell ⟨g,11,none⟩ (.int .i64 p.M.A.e)).setCell ⟨g,12,none⟩ (.bool p.h)).setCell ⟨g,13,none⟩ (.int .i64 p.mn)).setCell ⟨g,14,none⟩ (.int .i64 p.mx)).setCell ⟨g,15,none⟩ (.slice p.A p.n p.c))=U/\PBox U g p/\(∀ w0 B,Below B w0 w->B<=g->Below B w0 U)/\(∀ j,j≠g->U.heap[j]? = w.heap[j]?)/\U.heap.size<=w.heap.size/\w.heap.size<=U.heap.size:=by
 refine⟨_,rfl,?_,fun w0 B hb hg=>?_,fun j hj=>?_,?_,?_⟩
 . unfold PBox at h ⊢
   simp [World.setCell,Array.getElem?_modify,h]
 . repeat (refine Below.setCell ?_ hg _)
   exact hb
 . have hj':¬ g=j:=fun e=>hj e.symm
   simp [World.setCell,Array.getElem?_modify,hj']
 . simp [World.setCell]
 simp [World.setCell]
theorem que{w:World}{g:Nat}{p:Pv}(h:PBox w g p)(m:Mv):∃ U,((((((((((((w.setCell ⟨g,0,none⟩ (.bool m.S.s)).setCell ⟨g,1,none⟩ (.slice m.S.A m.S.n m.S.c)).setCell ⟨g,2,none⟩ (.int .i64 m.S.e)).setCell ⟨g,3,none⟩ (.bool m.W.s)).setCell ⟨g,4,none⟩ (.slice m.W.A m.W.n m.W.c)).setCell ⟨g,5,none⟩ (.int .i64 m.W.e)).setCell ⟨g,6,none⟩ (.bool m.C.s)).setCell ⟨g,7,none⟩ (.slice m.C.A m.C.n m.C.c)).setCell ⟨g,8,none⟩ (.int .i64 m.C.e)).setCell ⟨g,9,none⟩ (.bool m.A.s)).setCell ⟨g,10,none⟩ (.slice m.A.A m.A.n m.A.c)).setCell ⟨g,11,none⟩ (.int .i64 m.A.e))=U/\PBox U g { p with M:=m }/\(∀ w0 B,Below B w0 w->B<=g->Below B w0 U)/\(∀ j,j≠g->U.heap[j]? = w.heap[j]?)/\U.heap.size<=w.heap.size/\w.heap.size<=U.heap.size:=by
 refine⟨_,rfl,?_,fun w0 B hb hg=>?_,fun j hj=>?_,?_,?_⟩
 . unfold PBox at h ⊢
   simp [World.setCell,Array.getElem?_modify,h]
 . repeat (refine Below.setCell ?_ hg _)
   exact hb
 . have hj':¬ g=j:=fun e=>hj e.symm
   simp [World.setCell,Array.getElem?_modify,hj']
 . simp [World.setCell]
 simp [World.setCell]
theorem qm0{w:World}{g:Nat}{p:Pv}(h:PBox w g p)(A:Option Addr)(n c:Nat)(xs:List Int):∃ U,(w.setCell ⟨g,15,none⟩ (.slice A n c))=U/\PBox U g { p with A:=A,n:=n,c:=c,xs:=xs }/\(∀ w0 B,Below B w0 w->B<=g->Below B w0 U)/\(∀ j,j≠g->U.heap[j]? = w.heap[j]?)/\U.heap.size<=w.heap.size/\w.heap.size<=U.heap.size:=by
 refine⟨_,rfl,?_,fun w0 B hb hg=>hb.setCell hg _,fun j hj=>?_,?_,?_⟩
 . unfold PBox at h ⊢
   simp [World.setCell,Array.getElem?_modify,h]
 . have hj':¬ g=j:=fun e=>hj e.symm
   simp [World.setCell,Array.getElem?_modify,hj']
 . simp [World.setCell]
 simp [World.setCell]
def qhe(a b:Pv):Bool:=decide (a.h=b.h) && decide (a.mn=b.mn) && decide (a.mx=b.mx)
def qbf(a b:Pv):Bool:=qfp a.M b.M && qhe a b && Pa.Sm a.xs b.xs
def qbi(p:Pv):Bool:=qh6 p.M || decide (70 < p.n)
def qbv(p q:Pv):Prop:=(∀ x,x < 4->qet (p.M.get x) (q.M.get x))/\q.h=p.h/\q.mn=p.mn/\q.mx=p.mx/\q.n=p.n/\q.xs=p.xs
def qbk(p:Pv):List Value:=[.bool p.M.S.s,.slice p.M.S.A p.M.S.n p.M.S.c,.int .i64 p.M.S.e,.bool p.M.W.s,.slice p.M.W.A p.M.W.n p.M.W.c,.int .i64 p.M.W.e,.bool p.M.C.s,.slice p.M.C.A p.M.C.n p.M.C.c,.int .i64 p.M.C.e,.bool p.M.A.s,.slice p.M.A.A p.M.A.n p.M.A.c,.int .i64 p.M.A.e,.bool p.h,.int .i64 p.mn,.int .i64 p.mx,.slice p.A p.n p.c]
def qcm(m:Mv):List Value:=[.bool m.S.s,.slice m.S.A m.S.n m.S.c,.int .i64 m.S.e,.bool m.W.s,.slice m.W.A m.W.n m.W.c,.int .i64 m.W.e,.bool m.C.s,.slice m.C.A m.C.n m.C.c,.int .i64 m.C.e,.bool m.A.s,.slice m.A.A m.A.n m.A.c,.int .i64 m.A.e]
theorem qal(p:Pv):∀ u∈qbk p,u.oneCell'=true:=by
 intro u hu
 simp only [qbk,List.mem_cons,List.not_mem_nil,or_false] at hu
 rcases hu with rfl|rfl|rfl|rfl|rfl|rfl|rfl|rfl|rfl|rfl|rfl|rfl|rfl|rfl|rfl|rfl<;>rfl
theorem qbu(m:Mv):∀ u∈qcm m,u.oneCell'=true:=by
 intro u hu
 simp only [qcm,List.mem_cons,List.not_mem_nil,or_false] at hu
 rcases hu with rfl|rfl|rfl|rfl|rfl|rfl|rfl|rfl|rfl|rfl|rfl|rfl<;>rfl
theorem run_load_op{P:Program}{op:Oper}{e:Operand->Value}{w:World}(ty:TypeId)(x:Operand)(ho:op.op=.load ty x)(b o:Nat)(hx:e x=.pointer (some ⟨b,o,none⟩))(cs:List Value)(d:TypeDesc)(hc:w.rangeAt b o cs)
  (hu:P.underlying ty=some d) (hd:d.isRow=true) (hi:(P.info? ty).map (·.size)=some cs.length):(execOp e op).run P w=.ok (.value (.agg cs.toArray)) w:=by
 unfold execOp
 simp only [ho,hx,Instr.loadAt,Instr.sureAddr,Sem.run_bind,Sem.run_pure,Result.andThen_ok,run_loadVar_mid w b o ty cs d hc hu hd hi]
theorem wpList_load_midG{P:Program}{ops:Array Oper}{rest:List Oper}{op:Oper}{a:Act}{w:World}{Q:Exit->Act->World->Prop}(hw:Region.wanted op (yielded ops a.tmps)=true)(ty:TypeId)(x:Operand)(ho:op.op=.load ty x)
  (b o:Nat) (hx:a.eval x=.pointer (some ⟨b,o,none⟩)) (cs:List Value) (d:TypeDesc) (hc:w.rangeAt b o cs)
  (hu:P.underlying ty=some d) (hd:d.isRow=true) (hi:(P.info? ty).map (·.size)=some cs.length)
  (h:wpList P ops Q rest (a.put op.dst (.agg cs.toArray)) w):wpList P ops Q (op::rest) a w:=by
 unfold wpList
 rw [if_pos hw]
 exact .inl (wp_load_mid ty x ho b o hx cs d hc hu hd hi h)
theorem PBox.range{w:World}{g:Nat}{p:Pv}(h:PBox w g p):w.rangeAt g 0 (qbk p):=fun j v hj=>by
 rw [Nat.zero_add]
 unfold PBox at h
 simp only [World.cell?,h]
 simpa [qbk] using hj
theorem PBox.mass{w:World}{g:Nat}{p:Pv}(h:PBox w g p):w.rangeAt g 0 (qcm p.M):=fun j v hj=>by
 have hl:j < 12:=by
  rcases Nat.lt_or_ge j 12 with h'|h'
  . exact h'
  rw [List.getElem?_eq_none (by simpa [qcm] using h')] at hj
  cases hj
 refine h.range j v (Eq.trans ?_ hj)
 show (qcm p.M++_)[j]? = (qcm p.M)[j]?
 rw [List.getElem?_append_left (by simpa [qcm] using hl)]
theorem PBox.there{w:World}{g:Nat}{p:Pv}(h:PBox w g p):w.there g 0 16:=fun j hj =>
 ⟨by rw [h.range j _ (List.getElem?_eq_getElem (by simpa [qbk] using hj))]; rfl,(PBox.cell h).2 _⟩
theorem qax{w:World}{g:Nat}{p0:Pv}(h:PBox w g p0)(p:Pv):∃ U,w.setCells g 0 (qbk p)=U/\PBox U g p/\(∀ w0 B,Below B w0 w->B<=g->Below B w0 U)/\(∀ j,j≠g->U.heap[j]? = w.heap[j]?)/\U.heap.size<=w.heap.size/\w.heap.size<=U.heap.size:=qz0 h p
theorem qna{w:World}{g:Nat}{p:Pv}(h:PBox w g p)(m:Mv):∃ U,w.setCells g 0 (qcm m)=U/\PBox U g { p with M:=m }/\(∀ w0 B,Below B w0 w->B<=g->Below B w0 U)/\(∀ j,j≠g->U.heap[j]? = w.heap[j]?)/\U.heap.size<=w.heap.size/\w.heap.size<=U.heap.size:=que h m
end Ma
end Go.Proofs.YtmbppgjhdcmckaaGreatDoor
namespace Go.Proofs.YtmbppgjhdcmckaaGreatDoor
open Go.RowKit
namespace Dy
open Dp
theorem qwm(w:World)(lo hi:Nat)(A:Option Addr)(n c v:Nat)(hX:qae w lo hi .u8 A n (qaf 2 v))(hhi:hi<=w.heap.size)(hn:n<=1000000)(hnc:n<=c)(hv0:v≠0) :
  Calls Tryz.prog 146 #[.slice A n c,.int .i64 1] w fun e w'=>∃ A' n' c',e=.returned (.slice A' n' c')/\n'<=c'/\n'<=n/\Below w.heap.size w w'/\qae w' w.heap.size w'.heap.size .u8 A' n' (qaf 2 (v/2)):=by
 obtain⟨i0,hi0,hz0,hz1,hz2⟩:=info_parts Tryz.info5
 have hl:=hX.len
 have hcc:=qep hv0
 rw [hcc] at hX hl
 have hl2:n=(qaf 2 (v/2)).length+1:=by rw [<-hl]; rfl
 have HL:=Lib.hid hl2
 have hn0:0 < n:=by omega
 by_cases h1:n=1
 . have hnil:qaf 2 (v/2)=[]:=List.eq_nil_of_length_eq_zero (by omega)
   have HN:=Lib.hid hnil
   clear hl hl2 hcc hnil
   subst h1
   go_enter Tryz.func146,Tryz.ntmps146
   go_wp2
   go_ret
   exact⟨none,0,0,rfl,Nat.le_refl _,by omega,Below.refl _ _,by rw [HN.out]; exact qae.nil_ ..⟩
 have hn2:¬ (n:Int)<=1:=by omega
 have hc2:1 < c:=by omega
 have hc3:¬ c=1:=by omega
 obtain⟨b,o,hA,hb1,hb2,hc⟩:=hX.row hn0
 subst hA
 have hT:=qhr hX
 have hT2:=hT.alloc hhi (.cells #[] 5)
 have hE:=qdl w w.heap.size 5 1 (Nat.le_refl _)
 have hB1:Below w.heap.size w (w.alloc (.cells #[] 5)):=(Below.refl _ _).alloc (Nat.le_refl _) _
 have hS1:w.heap.size<=(w.alloc (.cells #[] 5)).heap.size:=hB1.size
 have hd:=(qah 2 (v/2) (by decide)).1
 have HD:=Lib.hid hd
 clear hl hl2 hcc hc hT hd hX
 go_enter Tryz.func146,Tryz.ntmps146
 go_wp2_with (first
  | (at_builtin; refine qag _ rfl (.tmp 9) (.tmp 12) 171 rfl w.heap.size 5 i0 (.int .u8 0) 1 1 Tryz.underlying171 hi0 hz0 hz1 hz2 rfl (by decide) (.slice (some ⟨w.heap.size,0,none⟩) 0 0) 0 [] rfl hE _ _ (some ⟨b,o+1,none⟩) (n-1) (c-1) _ rfl hT2.raw ?c1 ?c2 ?c3 ?c4 ?_))
 case c1=>exact fun _ _=>rfl
 case c2=>unfold maxLen; omega
 case c3=>omega
 intro A2 c2 w2 hown2 hgrow2 _
 have hb2:Below w.heap.size w w2:=hB1.grown hgrow2 hS1 (fun q hq=>by cases hq; exact Nat.le_refl _)
 have hc2:=qd0 hown2
 have hI2:=qae.of_own hown2 (fun y hy=>by
  have:=HD.out y hy
  simp only [IntKind.min,IntKind.max,IntKind.signed,IntKind.bits]
  omega) (by omega)
 clear hown2 hgrow2
 go_wp2
 go_ret
 exact⟨A2,n-1,c2,rfl,hc2,by omega,hb2,hI2⟩
theorem qxr(a b:Dn)(ha:a.May)(N:Nat)(hN:(qew a b 1).1+(if (qew a b 1).2≠0/\false≠a.neg then 1 else 0)=N)(s:Bool)(v:Nat)(hp:qlh a.neg N false 1=(s,v)) :
  (v=0->qlp a b=(Dn.zero,0))/\(v≠0->qlp a b=qa4 s (v/2+if s=true/\v%2=1 then 1 else 0) 0):=by
 unfold qlp
 have hz:a.neg=true->a.m≠0:=fun h h0=>by
  have:=(ha.2.2.1 h0).2
  rw [h] at this
  cases this
 generalize (qew a b 1).1=q at *
 generalize (qew a b 1).2=r at *
 cases hs:a.neg
 . rw [hs] at hN hp
   have h1:N=q:=by
    rw [if_neg (fun h=>h.2 rfl)] at hN
    omega
   have h2:s=false/\v=q+1:=by
    unfold qlh at hp
    rw [if_pos rfl,h1] at hp
    injection hp with e1 e2
    exact⟨e1.symm,e2.symm⟩
   obtain⟨rfl,rfl⟩:=h2
   refine⟨fun h=>by omega,fun _=>?_⟩
   have e:q/2+(if q%2=1/\(false=false∨r≠0) then 1 else 0)=(q+1)/2+(if false=true/\(q+1)%2=1 then 1 else 0):=by
    have e2:(if false=true/\(q+1)%2=1 then 1 else 0)=0:=if_neg (fun h=>by cases h.1)
    rw [e2]
    by_cases h:q%2=1
    . rw [if_pos ⟨h,.inl rfl⟩]
      omega
    rw [if_neg (fun k=>h k.1)]
    omega
   rw [e]
 rw [hs] at hN hp
 unfold qlh at hp
 rw [if_neg (by decide)] at hp
 by_cases hN0:1<=N
 . rw [if_pos hN0] at hp
   injection hp with e1 e2
   subst e1
   have e:q/2+(if q%2=1/\(true=false∨r≠0) then 1 else 0)=v/2+(if true=true/\v%2=1 then 1 else 0):=by
    by_cases hr:r=0
    . rw [if_neg (fun h=>h.1 hr)] at hN
      rw [if_neg (fun h=>by rcases h.2 with h | h; cases h; exact h hr)]
      by_cases hv:v%2=1
      . rw [if_pos ⟨rfl,hv⟩]
        omega
      rw [if_neg (fun h=>hv h.2)]
      omega
    rw [if_pos ⟨hr,by decide⟩] at hN
    by_cases hq:q%2=1
    . rw [if_pos ⟨hq,.inr hr⟩]
      by_cases hv:v%2=1
      . rw [if_pos ⟨rfl,hv⟩]
        omega
      rw [if_neg (fun h=>hv h.2)]
      omega
    rw [if_neg (fun h=>hq h.1)]
    by_cases hv:v%2=1
    . rw [if_pos ⟨rfl,hv⟩]
      omega
    rw [if_neg (fun h=>hv h.2)]
    omega
   refine⟨fun h=>?_,fun _=>by rw [e]⟩
   subst h
   rw [e]
   rfl
 rw [if_neg hN0] at hp
 injection hp with e1 e2
 subst e1
 have hq:q=0:=by omega
 have hr:r=0:=by
  by_cases hr:r=0
  . exact hr
  rw [if_pos ⟨hr,by decide⟩] at hN
  omega
 subst hq hr
 have hv:v=1:=by omega
 subst hv
 refine⟨fun h=>by omega,fun _=>?_⟩
 simp [qa4]
theorem qxk(s:Bool)(m:Nat)(t:Bool)(n:Nat):(qlh s m t n).2<=m+n:=by
 unfold qlh
 split
 . exact Nat.le_refl _
 split
 . exact Nat.le_trans (Nat.sub_le _ _) (Nat.le_add_right _ _)
 exact Nat.le_trans (Nat.sub_le _ _) (Nat.le_add_left _ _)
theorem qo9{v:Nat}(h:v≠0):(qaf 2 v)[0]?.getD 0=((v%2:Nat):Int):=by rw [qep h]; rfl
theorem qtz(w:World)(s1 s2:Bool)(A1 A2:Option Addr)(n1 c1 n2 c2:Nat)(xs1 xs2:List Int)(e1 e2:Int)(h1:qae w 0 w.heap.size .u32 A1 n1 xs1)(h2:qae w 0 w.heap.size .u32 A2 n2 xs2)(q:Int)(hq:qez s1 xs1 e1 s2 xs2 e2 0=q)(hq0:q=2∨q=8) :
  Calls Tryz.prog 87 #[.agg #[.bool s1,.slice A1 n1 c1,.int .i64 e1],.agg #[.bool s2,.slice A2 n2 c2,.int .i64 e2]] w (qb0 w Dn.zero q):=by
 have HQ:=Lib.hid hq
 clear hq
 generalize hw:((w.alloc (.cells #[.bool s1,.slice A1 n1 c1,.int .i64 e1] 24)).alloc (.cells #[.bool s2,.slice A2 n2 c2,.int .i64 e2] 24)).alloc (.cells #[.bool false,.slice none 0 0,.int .i64 0] 24)=w1
 obtain⟨D1,D2,D3,b1,l1,l2⟩:=qcn w _ _ _ hw
 replace D3:w1.heap[w.heap.size+1+1]? = some (.cells #[.bool false,.slice none 0 0,.int .i64 0] 24 (0,0)):=D3
 have S1:w.heap.size < w1.heap.size:=by omega
 have S2:w.heap.size+1 < w1.heap.size:=by omega
 have S3:w.heap.size+1+1 < w1.heap.size:=by omega
 go_enter Tryz.func87,Tryz.ntmps87
 obtain⟨⟨q410,q411,q412⟩,q413,q414,q415⟩:=qam D1
 obtain⟨⟨q420,q421,q422⟩,q423,q424,q425⟩:=qam D2
 go_wp2_with fail
 refine (qfi w1 s1 s2 A1 A2 n1 c1 n2 c2 xs1 xs2 e1 e2 (qao h1 b1) (qao h2 b1) 0 q HQ.out).mono ?_
 rintro e' v43 ⟨rfl,j44⟩
 clear q410 q411 q412 q413 q414 q415 q420 q421 q422 q423 q424 q425
 try clear hw
 rcases hq0 with rfl|rfl
 all_goals
  obtain⟨⟨z0,z1,z2⟩,z3,z4,z5⟩:=qam (qaa D3 j44 S3)
  obtain⟨U,hU,hX,hbU,hfU,s1',s2'⟩:=qco (qaa D3 j44 S3) (.bool false) (.slice none 0 0) (.int .i64 0)
  go_wp2
  try rw [hU]
  clear hU z0 z1 z2 z3 z4 z5
  obtain⟨⟨z0,z1,z2⟩,_⟩:=qam hX
  exact bodyPost_ret (v:=.tuple #[.agg #[.bool false,.slice none 0 0,.int .i64 0],.int .i64 _]) (by simp [results,Tryz.results87,go_sem,z0,z1,z2]) rfl ⟨none,0,0,rfl,Nat.le_refl _,hbU _ _ (lz b1 j44) (show w.heap.size<=w.heap.size+1+1 by omega),qae.nil_ ..⟩
theorem qxg(w:World)(a b:Dn)(ha:a.May)(hb_:b.May)(hbn:b.neg=false)(hb0:b.m≠0)(A1 A2:Option Addr)(n1 c1 n2 c2:Nat)(h1:qae w 0 w.heap.size .u32 A1 n1 (qaf 4294967296 a.m))(h2:qae w 0 w.heap.size .u32 A2 n2 (qaf 4294967296 b.m))(r:Dn)(code:Int)(h:qlp a b=(r,code)) :
  Calls Tryz.prog 87 #[.agg #[.bool a.neg,.slice A1 n1 c1,.int .i64 a.e],.agg #[.bool b.neg,.slice A2 n2 c2,.int .i64 b.e]] w (qb0 w r code):=by
 obtain⟨N,hN⟩:∃ N,(qew a b 1).1+(if (qew a b 1).2≠0/\false≠a.neg then 1 else 0)=N:=⟨_,rfl⟩
 obtain⟨s,v,hp⟩:∃ s v,qlh a.neg N false 1=(s,v):=⟨_,_,rfl⟩
 obtain⟨r1,r2⟩:=qxr a b ha N hN s v hp
 rw [h] at r1 r2
 have hle:=qxk a.neg N false 1
 rw [hp] at hle
 replace hle:v<=N+1:=hle
 have HN:=Lib.hid hN
 have HP:=Lib.hid hp
 have R1:=Lib.hid r1
 have R2:=Lib.hid r2
 have HQ:Hid (qez a.neg (qaf 4294967296 a.m) a.e b.neg (qaf 4294967296 b.m) b.e 0=0):=Lib.hid (qpg ha hb_ hbn hb0 (k:=0) (by decide))
 have hd:=Lib.hid (fun u=>(qah 2 u (by decide)))
 clear hN hp h hbn r1 r2
 generalize hw:((w.alloc (.cells #[.bool a.neg,.slice A1 n1 c1,.int .i64 a.e] 24)).alloc (.cells #[.bool b.neg,.slice A2 n2 c2,.int .i64 b.e] 24)).alloc (.cells #[.bool false,.slice none 0 0,.int .i64 0] 24)=w1
 obtain⟨D1,D2,D3,b1,l1,l2⟩:=qcn w _ _ _ hw
 replace D3:w1.heap[w.heap.size+1+1]? = some (.cells #[.bool false,.slice none 0 0,.int .i64 0] 24 (0,0)):=D3
 have S1:w.heap.size < w1.heap.size:=by omega
 have S2:w.heap.size+1 < w1.heap.size:=by omega
 have S3:w.heap.size+1+1 < w1.heap.size:=by omega
 go_enter Tryz.func87,Tryz.ntmps87
 obtain⟨⟨q460,q461,q462⟩,q463,q464,q465⟩:=qam D1
 obtain⟨⟨q470,q471,q472⟩,q473,q474,q475⟩:=qam D2
 go_wp2_with fail
 refine (qfi w1 a.neg b.neg A1 A2 n1 c1 n2 c2 _ _ a.e b.e (qao h1 b1) (qao h2 b1) 0 0 HQ.out).mono ?_
 rintro e' v48 ⟨rfl,j49⟩
 clear q460 q461 q462 q463 q464 q465 q470 q471 q472 q473 q474 q475
 try clear hw
 obtain⟨⟨q500,q501,q502⟩,q503,q504,q505⟩:=qam (qaa D1 j49 S1)
 obtain⟨⟨q510,q511,q512⟩,q513,q514,q515⟩:=qam (qaa D2 j49 S2)
 go_wp2_with fail
 refine (qi2 v48 a b ha hb_ hb0 A1 A2 n1 c1 n2 c2 (qao h1 (lz b1 j49)) (qao h2 (lz b1 j49)) 1 (by decide) 1 rfl false N HN.out).mono ?_
 rintro e' v52 ⟨P4,m4,o4,rfl,hmo4,hm4,j53,J4⟩
 clear q500 q501 q502 q503 q504 q505 q510 q511 q512 q513 q514 q515
 try clear hw
 have j55:=(Below.refl v52.heap.size v52).alloc (Nat.le_refl _) (.cells #[.bool a.neg,.slice P4 m4 o4] 173)
 have B7:=heap_alloc_last v52 (.cells #[.bool a.neg,.slice P4 m4 o4] 173)
 have s56:v52.heap.size < (v52.alloc (.cells #[.bool a.neg,.slice P4 m4 o4] 173)).heap.size:=by simp
 generalize hw:v52.alloc (.cells #[.bool a.neg,.slice P4 m4 o4] 173)=v54 at *
 obtain⟨⟨q570,q571⟩,q572,q573⟩:=qfq B7
 have XO1:(v54.alloc (.cells #[.int .u8 1] 5)).heap[v54.heap.size]? = some (.cells #[.int .u8 1] 5 (0,0)):=heap_alloc_last v54 _
 have j59:Below v54.heap.size v54 (v54.alloc (.cells #[.int .u8 1] 5)):=(Below.refl _ _).alloc (Nat.le_refl _) _
 have O1:=qlm XO1
 have SO1:v54.heap.size+1<=(v54.alloc (.cells #[.int .u8 1] 5)).heap.size:=by simp
 go_wp2_with fail
 try clear hw
 generalize hw:v54.alloc (.cells #[.int .u8 1] 5)=u58 at *
 clear hw
 clear q570 q571 q572 q573
 refine (qtx u58 a.neg false N 1 P4 m4 o4 (some ⟨_,0,none⟩) 1 1 (qae.more (qae.below J4 (lz j55 j59) (Nat.le_refl _)) (Nat.zero_le _) (Below.size (lz j55 j59))) (O1.more (Nat.zero_le _) SO1) (by omega) (by decide) s v HP.out).mono ?_
 rintro e' v60 ⟨P5,m5,o5,rfl,hmo5,j61,J5⟩
 try clear hw
 have hm5:m5<=m4+1:=by
  have h1:=J5.len
  have h2:=qju hle
  have h3:=qf6 J4
  omega
 clear hle
 have j63:=(Below.refl v60.heap.size v60).alloc (Nat.le_refl _) (.cells #[.bool s,.slice P5 m5 o5] 173)
 have B8:=heap_alloc_last v60 (.cells #[.bool s,.slice P5 m5 o5] 173)
 have s64:v60.heap.size < (v60.alloc (.cells #[.bool s,.slice P5 m5 o5] 173)).heap.size:=by simp
 generalize hw:v60.alloc (.cells #[.bool s,.slice P5 m5 o5] 173)=v62 at *
 obtain⟨⟨q650,q651⟩,q652,q653⟩:=qfq B8
 go_wp2_with fail
 refine (qev v62 _ _ P5 m5 o5 (qaf 2 v) (qae.below J5 j63 (Nat.le_refl _)) (hd.out v).1 hmo5).mono ?_
 rintro e' w' ⟨⟨m6,rfl,hm6,J6⟩,hww⟩
 subst hww
 try clear hw
 rw [(hd.out v).2.2] at J6
 clear q650 q651 q652 q653
 obtain⟨r0,rp⟩:=qjt J6
 by_cases hv0:v=0
 . have hm60:=r0 hv0
   subst hm60
   have hr:=R1.out hv0
   injection hr with hr1 hr2
   subst hr1 hr2
   clear r0 rp hv0
   obtain⟨⟨z0,z1,z2⟩,z3,z4,z5⟩:=qam (qaa D3 (lz j49 (lz j53 (lz j55 (lz j59 (lz j61 j63))))) S3)
   obtain⟨U,hU,hX,hbU,hfU,s1',s2'⟩:=qco (qaa D3 (lz j49 (lz j53 (lz j55 (lz j59 (lz j61 j63))))) S3) (.bool false) (.slice none 0 0) (.int .i64 0)
   go_wp2
   try rw [hU]
   clear hU z0 z1 z2 z3 z4 z5
   obtain⟨⟨z0,z1,z2⟩,_⟩:=qam hX
   exact bodyPost_ret (v:=.tuple #[.agg #[.bool false,.slice none 0 0,.int .i64 0],.int .i64 0]) (by simp [results,Tryz.results87,go_sem,z0,z1,z2]) rfl ⟨none,0,0,rfl,Nat.le_refl _,hbU _ _ (lz b1 (lz j49 (lz j53 (lz j55 (lz j59 (lz j61 j63)))))) (show w.heap.size<=w.heap.size+1+1 by omega),qae.nil_ ..⟩
 have hm60:=rp hv0
 have hmb:((m6:Int)==0)=false:=by
  have:(m6:Int)≠0:=by omega
  simpa using this
 have hr:=Lib.hid (R2.out hv0)
 clear r0 rp
 go_wp2_with fail
 have J6':=J6
 refine (qwm w' _ _ P5 m6 o5 v J6 (Below.size j63) (by omega) (by omega) hv0).mono ?_
 rintro e' v67 ⟨P7,m7,o7,rfl,hmo7,hm7,j68,J7⟩
 try clear hw
 cases s
 . obtain⟨⟨q690,q691⟩,q692,q693⟩:=qfq (qaa B8 j68 s64)
   go_wp2_with fail
   refine (qcc v67 false P7 m7 o7 (qaf 2 (v/2)) (qae.more J7 (Nat.zero_le _) (Nat.le_refl _)) (hd.out _).1 hmo7 (by omega) 0 (by decide) 0 rfl _ (hd.out _).2.2 r code (by have:=hr.out; rw [if_neg (fun h=>by cases h.1),Nat.add_zero] at this; exact this.symm)).mono ?_
   rintro e' v70 ⟨A9,n9,c9,rfl,hnc,j71,I9⟩
   clear q690 q691 q692 q693
   try clear hw
   have j73:=(Below.refl v70.heap.size v70).alloc (Nat.le_refl _) (.cells #[.bool r.neg,.slice A9 n9 c9,.int .i64 r.e] 24)
   have D9:=heap_alloc_last v70 (.cells #[.bool r.neg,.slice A9 n9 c9,.int .i64 r.e] 24)
   have s74:v70.heap.size < (v70.alloc (.cells #[.bool r.neg,.slice A9 n9 c9,.int .i64 r.e] 24)).heap.size:=by simp
   generalize hw:v70.alloc (.cells #[.bool r.neg,.slice A9 n9 c9,.int .i64 r.e] 24)=v72 at *
   obtain⟨⟨q750,q751,q752⟩,q753,q754,q755⟩:=qam D9
   have hlo:w1.heap.size<=v67.heap.size:=Below.size (lz j49 (lz j53 (lz j55 (lz j59 (lz j61 (lz j63 j68))))))
   obtain⟨⟨z0,z1,z2⟩,z3,z4,z5⟩:=qam (qaa D3 (lz j49 (lz j53 (lz j55 (lz j59 (lz j61 (lz j63 (lz j68 (lz j71 j73)))))))) S3)
   obtain⟨U,hU,hX,hbU,hfU,s1',s2'⟩:=qco (qaa D3 (lz j49 (lz j53 (lz j55 (lz j59 (lz j61 (lz j63 (lz j68 (lz j71 j73)))))))) S3) (.bool r.neg) (.slice A9 n9 c9) (.int .i64 r.e)
   go_wp2
   try rw [hU]
   clear hU z0 z1 z2 z3 z4 z5
   obtain⟨⟨z0,z1,z2⟩,_⟩:=qam hX
   exact bodyPost_ret (v:=.tuple #[.agg #[.bool r.neg,.slice A9 n9 c9,.int .i64 r.e],.int .i64 code]) (by simp [results,Tryz.results87,go_sem,z0,z1,z2]) rfl ⟨A9,n9,c9,rfl,hnc,hbU _ _ (lz b1 (lz j49 (lz j53 (lz j55 (lz j59 (lz j61 (lz j63 (lz j68 (lz j71 j73))))))))) (show w.heap.size<=w.heap.size+1+1 by omega),(qaq (I9.below j73 (Nat.le_refl _)) (fun b h1 h2=>hfU b (by omega))).more (by omega) (Nat.le_trans (Below.size j73) (by omega))⟩
 obtain⟨b,off,hA,hb1,hb2,hc⟩:=(qae.below J6 j68 (Below.size j63)).row hm60
 subst hA
 obtain⟨k1,k2⟩:=hc 0 hm60
 rw [qo9 hv0,Nat.add_zero] at k1
 rw [Nat.add_zero] at k2
 have hm61:0 < (m6:Int):=by omega
 obtain⟨x,hx⟩:∃ x,v%2=x:=⟨_,rfl⟩
 rw [hx] at k1
 have HX:=Lib.hid hx
 have hx2:x < 2:=by rw [<-hx]; exact Nat.mod_lt _ (by decide)
 clear hc hx
 by_cases hx1:x=1
 . subst hx1
   have hxe:v/2+1=v/2+1:=rfl
   obtain⟨⟨q770,q771⟩,q772,q773⟩:=qfq (qaa B8 j68 s64)
   have XO2:(v67.alloc (.cells #[.int .u8 1] 5)).heap[v67.heap.size]? = some (.cells #[.int .u8 1] 5 (0,0)):=heap_alloc_last v67 _
   have j79:Below v67.heap.size v67 (v67.alloc (.cells #[.int .u8 1] 5)):=(Below.refl _ _).alloc (Nat.le_refl _) _
   have O2:=qlm XO2
   have SO2:v67.heap.size+1<=(v67.alloc (.cells #[.int .u8 1] 5)).heap.size:=by simp
   go_wp2_with fail
   try clear hw
   generalize hw:v67.alloc (.cells #[.int .u8 1] 5)=u78 at *
   clear hw
   clear q770 q771 q772 q773
   clear k1 k2
   refine (qmd u78 _ _ _ _ P7 m7 o7 (qaf 2 (v/2)) (qae.below J7 j79 (Nat.le_refl _)) (some ⟨_,0,none⟩) 1 1 [1] O2 (hd.out _).1 (by intro x hx; rw [List.mem_singleton.1 hx]; decide) (Below.size j79) SO2 (by omega) (by omega) (v/2+1) (by rw [(hd.out _).2.2]; rfl)).mono ?_
   rintro e' v80 ⟨P8,m8,o8,rfl,hmo8,j81,J8⟩
   try clear hw
   have hm8:m8<=m7+1:=by
    have h1:=J8.len
    have h2:=qf6 J7
    omega
   obtain⟨⟨q820,q821⟩,q822,q823⟩:=qfq (qaa B8 (lz j68 (lz j79 j81)) s64)
   go_wp2_with fail
   refine (qcc v80 true P8 m8 o8 (qaf 2 (v/2+1)) (qae.more J8 (Nat.zero_le _) (Nat.le_refl _)) (hd.out _).1 hmo8 (by omega) 0 (by decide) 0 rfl _ (hd.out _).2.2 r code (by have:=hr.out; rw [if_pos ⟨by trivial,HX.out⟩] at this; exact this.symm)).mono ?_
   rintro e' v83 ⟨A9,n9,c9,rfl,hnc,j84,I9⟩
   clear q820 q821 q822 q823
   try clear hw
   have j86:=(Below.refl v83.heap.size v83).alloc (Nat.le_refl _) (.cells #[.bool r.neg,.slice A9 n9 c9,.int .i64 r.e] 24)
   have D9:=heap_alloc_last v83 (.cells #[.bool r.neg,.slice A9 n9 c9,.int .i64 r.e] 24)
   have s87:v83.heap.size < (v83.alloc (.cells #[.bool r.neg,.slice A9 n9 c9,.int .i64 r.e] 24)).heap.size:=by simp
   generalize hw:v83.alloc (.cells #[.bool r.neg,.slice A9 n9 c9,.int .i64 r.e] 24)=v85 at *
   obtain⟨⟨q880,q881,q882⟩,q883,q884,q885⟩:=qam D9
   have hlo:w1.heap.size<=v80.heap.size:=Below.size (lz j49 (lz j53 (lz j55 (lz j59 (lz j61 (lz j63 (lz j68 (lz j79 j81))))))))
   obtain⟨⟨z0,z1,z2⟩,z3,z4,z5⟩:=qam (qaa D3 (lz j49 (lz j53 (lz j55 (lz j59 (lz j61 (lz j63 (lz j68 (lz j79 (lz j81 (lz j84 j86)))))))))) S3)
   obtain⟨U,hU,hX,hbU,hfU,s1',s2'⟩:=qco (qaa D3 (lz j49 (lz j53 (lz j55 (lz j59 (lz j61 (lz j63 (lz j68 (lz j79 (lz j81 (lz j84 j86)))))))))) S3) (.bool r.neg) (.slice A9 n9 c9) (.int .i64 r.e)
   go_wp2
   try rw [hU]
   clear hU z0 z1 z2 z3 z4 z5
   obtain⟨⟨z0,z1,z2⟩,_⟩:=qam hX
   exact bodyPost_ret (v:=.tuple #[.agg #[.bool r.neg,.slice A9 n9 c9,.int .i64 r.e],.int .i64 code]) (by simp [results,Tryz.results87,go_sem,z0,z1,z2]) rfl ⟨A9,n9,c9,rfl,hnc,hbU _ _ (lz b1 (lz j49 (lz j53 (lz j55 (lz j59 (lz j61 (lz j63 (lz j68 (lz j79 (lz j81 (lz j84 j86))))))))))) (show w.heap.size<=w.heap.size+1+1 by omega),(qaq (I9.below j86 (Nat.le_refl _)) (fun b h1 h2=>hfU b (by omega))).more (by omega) (Nat.le_trans (Below.size j86) (by omega))⟩
 have hxb:((x:Int)==1)=false:=by
  have:(x:Int)≠1:=by omega
  simpa using this
 have HX1:=Lib.hid (fun h:v%2=1=>hx1 (HX.out.symm.trans h))
 obtain⟨⟨q900,q901⟩,q902,q903⟩:=qfq (qaa B8 j68 s64)
 go_wp2_with fail
 refine (qcc v67 true P7 m7 o7 (qaf 2 (v/2)) (qae.more J7 (Nat.zero_le _) (Nat.le_refl _)) (hd.out _).1 hmo7 (by omega) 0 (by decide) 0 rfl _ (hd.out _).2.2 r code (by have:=hr.out; rw [if_neg (fun h=>HX1.out h.2),Nat.add_zero] at this; exact this.symm)).mono ?_
 rintro e' v91 ⟨A9,n9,c9,rfl,hnc,j92,I9⟩
 clear q900 q901 q902 q903
 try clear hw
 have j94:=(Below.refl v91.heap.size v91).alloc (Nat.le_refl _) (.cells #[.bool r.neg,.slice A9 n9 c9,.int .i64 r.e] 24)
 have D9:=heap_alloc_last v91 (.cells #[.bool r.neg,.slice A9 n9 c9,.int .i64 r.e] 24)
 have s95:v91.heap.size < (v91.alloc (.cells #[.bool r.neg,.slice A9 n9 c9,.int .i64 r.e] 24)).heap.size:=by simp
 generalize hw:v91.alloc (.cells #[.bool r.neg,.slice A9 n9 c9,.int .i64 r.e] 24)=v93 at *
 obtain⟨⟨q960,q961,q962⟩,q963,q964,q965⟩:=qam D9
 have hlo:w1.heap.size<=v67.heap.size:=Below.size (lz j49 (lz j53 (lz j55 (lz j59 (lz j61 (lz j63 j68))))))
 obtain⟨⟨z0,z1,z2⟩,z3,z4,z5⟩:=qam (qaa D3 (lz j49 (lz j53 (lz j55 (lz j59 (lz j61 (lz j63 (lz j68 (lz j92 j94)))))))) S3)
 obtain⟨U,hU,hX,hbU,hfU,s1',s2'⟩:=qco (qaa D3 (lz j49 (lz j53 (lz j55 (lz j59 (lz j61 (lz j63 (lz j68 (lz j92 j94)))))))) S3) (.bool r.neg) (.slice A9 n9 c9) (.int .i64 r.e)
 go_wp2
 try rw [hU]
 clear hU z0 z1 z2 z3 z4 z5
 obtain⟨⟨z0,z1,z2⟩,_⟩:=qam hX
 exact bodyPost_ret (v:=.tuple #[.agg #[.bool r.neg,.slice A9 n9 c9,.int .i64 r.e],.int .i64 code]) (by simp [results,Tryz.results87,go_sem,z0,z1,z2]) rfl ⟨A9,n9,c9,rfl,hnc,hbU _ _ (lz b1 (lz j49 (lz j53 (lz j55 (lz j59 (lz j61 (lz j63 (lz j68 (lz j92 j94))))))))) (show w.heap.size<=w.heap.size+1+1 by omega),(qaq (I9.below j94 (Nat.le_refl _)) (fun b h1 h2=>hfU b (by omega))).more (by omega) (Nat.le_trans (Below.size j94) (by omega))⟩
theorem qt0(w:World)(s1 s2:Bool)(A1 A2:Option Addr)(n1 c1 n2 c2:Nat)(xs1 xs2:List Int)(e1 e2:Int)(h1:qae w 0 w.heap.size .u32 A1 n1 xs1)(h2:qae w 0 w.heap.size .u32 A2 n2 xs2)(r:Dn)(code:Int)(h:qf2 s1 xs1 e1 s2 xs2 e2=(r,code)) :
  Calls Tryz.prog 87 #[.agg #[.bool s1,.slice A1 n1 c1,.int .i64 e1],.agg #[.bool s2,.slice A2 n2 c2,.int .i64 e2]] w (qb0 w r code):=by
 unfold qf2 at h
 split at h
 . rename_i hm
   obtain⟨m1,m2,hs,hx,k0,k1⟩:=qg5 hm
   obtain⟨y1,c1',t1⟩:=qii (qck h1) m1
   obtain⟨y2,c2',t2⟩:=qii (qck h2) m2
   have hb0:(dn s2 xs2 e2).m≠0:=fun e=>hx (by rw [<-c2',e]; rfl)
   have:=qxg w (dn s1 xs1 e1) (dn s2 xs2 e2) y1 y2 hs hb0 A1 A2 n1 c1 n2 c2 (by rw [c1']; exact h1) (by rw [c2']; exact h2) r code h
   rw [t1,t2] at this
   exact this
 rename_i hm
 injection h with h3 h4
 subst h3 h4
 exact qtz w s1 s2 A1 A2 n1 c1 n2 c2 xs1 xs2 e1 e2 h1 h2 _ rfl ((qjx ..).resolve_left hm)
end Dy
end Go.Proofs.YtmbppgjhdcmckaaGreatDoor
namespace Go.Proofs.YtmbppgjhdcmckaaGreatDoor
open Go.RowKit
namespace Ma
theorem qai{P:Program}{ops:Array Oper}{rest:List Oper}{op:Oper}{a:Act}{w:World}{Q:Exit->Act->World->Prop}(hgd:op.guard=none)(ty:TypeId)(x y:Operand)(ho:op.op=.store ty x y)(c c':Array Value)
  (hx:a.eval x=.pointer (some ⟨w.heap.size,0,none⟩)) (hy:a.eval y=.agg c') (hi:(P.info? ty).map (·.size)=some c'.size) (hs:c.size=c'.size) (h1:c'.all (·.oneCell')=true)
  (h:wpList P ops Q rest (a.put op.dst undef) (w.alloc (.cells c' ty))):wpList P ops Q (op::rest) a (w.alloc (.cells c ty)) :=
 wpList_plain hgd fun _ hK=>by
  unfold Oper.wp execOp
  simp only [ho,hx,hy,Instr.storeAt,Instr.sureAddr,Sem.run_bind,Sem.run_pure,Result.andThen_ok,run_storeVar_new w ty c c' hi hs h1]
  exact hK _ _ h
end Ma
end Go.Proofs.YtmbppgjhdcmckaaGreatDoor
namespace Go.Proofs.YtmbppgjhdcmckaaGreatDoor
open Go.RowKit
namespace Ma
open Dp Dy
def ZDv:Dv:=⟨false,none,0,0,0,[]⟩
def qap(x:Dv):List Value:=[.bool x.s,.slice x.A x.n x.c,.int .i64 x.e]
def qbc(x y:Dv):List Value:=[.bool x.s,.slice x.A x.n x.c,.int .i64 x.e,.bool y.s,.slice y.A y.n y.c,.int .i64 y.e]
theorem qa1(x:Dv):∀ u∈qap x,u.oneCell'=true:=by
 intro u hu
 simp only [qap,List.mem_cons,List.not_mem_nil,or_false] at hu
 rcases hu with rfl|rfl|rfl<;>rfl
theorem qac(x y:Dv):∀ u∈qbc x y,u.oneCell'=true:=by
 intro u hu
 simp only [qbc,List.mem_cons,List.not_mem_nil,or_false] at hu
 rcases hu with rfl|rfl|rfl|rfl|rfl|rfl<;>rfl
def qar(w:World)(g:Nat)(x y:Dv):Prop:=w.heap[g]? = some (.cells #[.bool x.s,.slice x.A x.n x.c,.int .i64 x.e,.bool y.s,.slice y.A y.n y.c,.int .i64 y.e] 32 (0,0))
def qex(w:World)(g:Nat)(x:Dv):Prop:=w.heap[g]? = some (.cells #[.bool x.s,.slice x.A x.n x.c,.int .i64 x.e] 24 (0,0))
theorem qar.cell{w:World}{g:Nat}{x y:Dv}(h:qar w g x y):w.cell? ⟨g,0,none⟩=some (.bool x.s)/\w.cell? ⟨g,0+1,none⟩=some (.slice x.A x.n x.c)/\w.cell? ⟨g,0+2,none⟩=some (.int .i64 x.e)/\w.cell? ⟨g,3,none⟩=some (.bool y.s)/\w.cell? ⟨g,3+1,none⟩=some (.slice y.A y.n y.c)/\w.cell? ⟨g,3+2,none⟩=some (.int .i64 y.e) :=
 ⟨cell_of_row w g 0 _ _ _ h,cell_of_row w g 1 _ _ _ h,cell_of_row w g 2 _ _ _ h,cell_of_row w g 3 _ _ _ h,cell_of_row w g 4 _ _ _ h,cell_of_row w g 5 _ _ _ h⟩
theorem qar.range{w:World}{g:Nat}{x y:Dv}(h:qar w g x y):w.rangeAt g 0 (qbc x y):=fun j v hj=>by
 obtain⟨k0,k1,k2,k3,k4,k5⟩:=qar.cell h
 have hl:j < 6:=by
  rcases Nat.lt_or_ge j 6 with h'|h'
  . exact h'
  rw [List.getElem?_eq_none (by simpa [qap,qbc] using h')] at hj
  cases hj
 have hc:j=0∨j=1∨j=2∨j=3∨j=4∨j=5:=by omega
 rcases hc with rfl|rfl|rfl|rfl|rfl|rfl<;>(simp [qap,qbc] at hj; subst hj; assumption)
theorem qar.low{w:World}{g:Nat}{x y:Dv}(h:qar w g x y):w.rangeAt g 0 (qap x):=fun j v hj=>by
 obtain⟨k0,k1,k2,k3,k4,k5⟩:=qar.cell h
 have hl:j < 3:=by
  rcases Nat.lt_or_ge j 3 with h'|h'
  . exact h'
  rw [List.getElem?_eq_none (by simpa [qap,qbc] using h')] at hj
  cases hj
 have hc:j=0∨j=1∨j=2:=by omega
 rcases hc with rfl|rfl|rfl<;>(simp [qap,qbc] at hj; subst hj; assumption)
theorem qar.high{w:World}{g:Nat}{x y:Dv}(h:qar w g x y):w.rangeAt g 3 (qap y):=fun j v hj=>by
 obtain⟨k0,k1,k2,k3,k4,k5⟩:=qar.cell h
 have hl:j < 3:=by
  rcases Nat.lt_or_ge j 3 with h'|h'
  . exact h'
  rw [List.getElem?_eq_none (by simpa [qap,qbc] using h')] at hj
  cases hj
 have hc:j=0∨j=1∨j=2:=by omega
 rcases hc with rfl|rfl|rfl<;>(simp [qap,qbc] at hj; subst hj; assumption)
theorem qar.there{w:World}{g:Nat}{x y:Dv}(h:qar w g x y):w.there g 0 6:=fun j hj =>
 ⟨by rw [h.range j _ (List.getElem?_eq_getElem (by simpa [qbc] using hj))]; rfl,frozen_of_row w g _ _ _ h⟩
theorem qar.thereL{w:World}{g:Nat}{x y:Dv}(h:qar w g x y):w.there g 0 3:=fun j hj=>h.there j (by omega)
theorem qar.thereH{w:World}{g:Nat}{x y:Dv}(h:qar w g x y):w.there g 3 3:=fun j hj =>
 ⟨by rw [h.high j _ (List.getElem?_eq_getElem (by simpa [qap] using hj))]; rfl,frozen_of_row w g _ _ _ h⟩
theorem qex.range{w:World}{g:Nat}{x:Dv}(h:qex w g x):w.rangeAt g 0 (qap x):=fun j v hj=>by
 rw [Nat.zero_add,cell_of_row w g j _ _ _ h]
 simpa [qap] using hj
theorem qex.there{w:World}{g:Nat}{x:Dv}(h:qex w g x):w.there g 0 3:=fun j hj =>
 ⟨by rw [h.range j _ (List.getElem?_eq_getElem (by simpa [qap] using hj))]; rfl,frozen_of_row w g _ _ _ h⟩
theorem qaj{w:World}{g:Nat}{x y:Dv}(h:qar w g x y)(x' y':Dv):∃ U,w.setCells g 0 (qbc x' y')=U/\qar U g x' y'/\(∀ w0 B,Below B w0 w->B<=g->Below B w0 U)/\(∀ j,j≠g->U.heap[j]? = w.heap[j]?)/\U.heap.size<=w.heap.size/\w.heap.size<=U.heap.size:=by
 refine⟨_,rfl,?_,fun w0 B hb hg=>?_,fun j hj=>?_,?_,?_⟩
 . unfold qar at h ⊢
   simp [qap,qbc,World.setCells,World.setCell,Array.getElem?_modify,h]
 . simp only [qap,qbc,World.setCells]
   repeat (refine Below.setCell ?_ hg _)
   exact hb
 . have hj':¬ g=j:=fun e=>hj e.symm
   simp [qap,qbc,World.setCells,World.setCell,Array.getElem?_modify,hj']
 . simp [qap,qbc,World.setCells,World.setCell]
 simp [qap,qbc,World.setCells,World.setCell]
theorem qls{w:World}{g:Nat}{x y:Dv}(h:qar w g x y)(x':Dv):∃ U,w.setCells g 0 (qap x')=U/\qar U g x' y/\(∀ w0 B,Below B w0 w->B<=g->Below B w0 U)/\(∀ j,j≠g->U.heap[j]? = w.heap[j]?)/\U.heap.size<=w.heap.size/\w.heap.size<=U.heap.size:=by
 refine⟨_,rfl,?_,fun w0 B hb hg=>?_,fun j hj=>?_,?_,?_⟩
 . unfold qar at h ⊢
   simp [qap,qbc,World.setCells,World.setCell,Array.getElem?_modify,h]
 . simp only [qap,qbc,World.setCells]
   repeat (refine Below.setCell ?_ hg _)
   exact hb
 . have hj':¬ g=j:=fun e=>hj e.symm
   simp [qap,qbc,World.setCells,World.setCell,Array.getElem?_modify,hj']
 . simp [qap,qbc,World.setCells,World.setCell]
 simp [qap,qbc,World.setCells,World.setCell]
theorem qjf{w:World}{g:Nat}{x y:Dv}(h:qar w g x y)(y':Dv):∃ U,w.setCells g 3 (qap y')=U/\qar U g x y'/\(∀ w0 B,Below B w0 w->B<=g->Below B w0 U)/\(∀ j,j≠g->U.heap[j]? = w.heap[j]?)/\U.heap.size<=w.heap.size/\w.heap.size<=U.heap.size:=by
 refine⟨_,rfl,?_,fun w0 B hb hg=>?_,fun j hj=>?_,?_,?_⟩
 . unfold qar at h ⊢
   simp [qap,qbc,World.setCells,World.setCell,Array.getElem?_modify,h]
 . simp only [qap,qbc,World.setCells]
   repeat (refine Below.setCell ?_ hg _)
   exact hb
 . have hj':¬ g=j:=fun e=>hj e.symm
   simp [qap,qbc,World.setCells,World.setCell,Array.getElem?_modify,hj']
 . simp [qap,qbc,World.setCells,World.setCell]
 simp [qap,qbc,World.setCells,World.setCell]
theorem qes(w:World)(x y:Dv):∃ U,w.alloc (.cells #[.bool x.s,.slice x.A x.n x.c,.int .i64 x.e,.bool y.s,.slice y.A y.n y.c,.int .i64 y.e] 32)=U/\qar U w.heap.size x y/\Below w.heap.size w U/\w.heap.size < U.heap.size :=
 ⟨_,rfl,heap_alloc_last _ _,(Below.refl _ w).alloc (Nat.le_refl _) _,by simp⟩
theorem qba(w:World):∃ U,w.alloc (.cells #[.bool false,.slice none 0 0,.int .i64 0,.bool false,.slice none 0 0,.int .i64 0] 32)=U/\qar U w.heap.size ZDv ZDv/\Below w.heap.size w U/\w.heap.size < U.heap.size :=
 ⟨_,rfl,heap_alloc_last _ _,(Below.refl _ w).alloc (Nat.le_refl _) _,by simp⟩
theorem qdc(w:World)(x:Dv):∃ U,w.alloc (.cells #[.bool x.s,.slice x.A x.n x.c,.int .i64 x.e] 24)=U/\qex U w.heap.size x/\Below w.heap.size w U/\w.heap.size < U.heap.size :=
 ⟨_,rfl,heap_alloc_last _ _,(Below.refl _ w).alloc (Nat.le_refl _) _,by simp⟩
def qbr(w:World)(lo hi:Nat)(x:Dv):Prop:=qae w lo hi .u32 x.A x.n x.xs
def qnz(w:World)(lo hi:Dn)(code:Int)(e:Ending)(w':World):Prop :=
 ∃ (x y:Dv) (B:Nat),e=.returned (.tuple #[.agg #[.bool x.s,.slice x.A x.n x.c,.int .i64 x.e,.bool y.s,.slice y.A y.n y.c,.int .i64 y.e],.int .i64 code])/\Is lo x/\Is hi y/\Below w.heap.size w w'/\w.heap.size<=B/\B<=w'.heap.size/\qbr w' w.heap.size B x/\qbr w' B w'.heap.size y
theorem isZ:Is Dn.zero ZDv:=Is.zero
theorem qf8(w:World)(lo hi:Nat):qbr w lo hi ZDv:=qae.nil_ ..
def qcg(d:Dv):Bool:=!d.s && decide (0 < d.n)
def qke(l t s e f:Int):Bool:=decide (((1<=l/\l<=64)/\(0<=s/\s<=t/\t<=2147483647))/\((0<=e/\e<=65535)/\(0<=f/\f<=65536))/\(t-s < l∨e=65535))
def qzl(x:Int):Bool:=decide (-2147483647<=x/\x<=2147483647)
def q0a(a b:Int):Bool:=decide ((0<=a/\a<=2147483647)/\(0<=b/\b<=1048575))
def qg7(a b c d:Int):Bool:=decide (a < c∨(a=c/\b < d))
def heardN(x:Int):Bool:=decide (0<=x/\x<=1048575)
theorem alloc_cl(w:World)(l t s e f:Int):∃ U,w.alloc (.cells #[.int .i64 l,.int .i64 t,.int .i64 s,.int .i64 e,.int .i64 f] 53)=U/\U.heap[w.heap.size]? = some (.cells #[.int .i64 l,.int .i64 t,.int .i64 s,.int .i64 e,.int .i64 f] 53 (0,0))/\Below w.heap.size w U :=
 ⟨_,rfl,heap_alloc_last _ _,(Below.refl _ w).alloc (Nat.le_refl _) _⟩
theorem qdz(w:World)(a b:Int):∃ U,w.alloc (.cells #[.int .i64 a,.int .i64 b] 146)=U/\U.heap[w.heap.size]? = some (.cells #[.int .i64 a,.int .i64 b] 146 (0,0))/\Below w.heap.size w U/\w.heap.size < U.heap.size :=
 ⟨_,rfl,heap_alloc_last _ _,(Below.refl _ w).alloc (Nat.le_refl _) _,by simp⟩
theorem epochCheck_any(w:World)(l t s e f:Int)(k:Bool)(hk:qke l t s e f=k) :
  Calls Tryz.prog 51 #[.agg #[.int .i64 l,.int .i64 t,.int .i64 s,.int .i64 e,.int .i64 f]] w fun e' w'=>e'=.returned (.int .i64 (if k then 0 else 8))/\Below w.heap.size w w':=by
 obtain⟨w1,hw,bC,j1⟩:=alloc_cl w l t s e f
 have c0:w1.cell? ⟨w.heap.size,0,none⟩=some (.int .i64 l):=cell_of_row w1 w.heap.size 0 _ _ _ bC
 have c1:w1.cell? ⟨w.heap.size,1,none⟩=some (.int .i64 t):=cell_of_row w1 w.heap.size 1 _ _ _ bC
 have c2:w1.cell? ⟨w.heap.size,2,none⟩=some (.int .i64 s):=cell_of_row w1 w.heap.size 2 _ _ _ bC
 have c3:w1.cell? ⟨w.heap.size,3,none⟩=some (.int .i64 e):=cell_of_row w1 w.heap.size 3 _ _ _ bC
 have c4:w1.cell? ⟨w.heap.size,4,none⟩=some (.int .i64 f):=cell_of_row w1 w.heap.size 4 _ _ _ bC
 clear bC
 have HK:=Lib.hid hk
 clear hk
 go_enter Tryz.func51,Tryz.ntmps51
 by_cases q0:l < 1
 case pos =>
  obtain rfl:k=false:=by (try have hq_:=heq.out); rw [<-HK.out]; exact decide_eq_false (by omega)
  go_wp2
  go_ret
  exact⟨rfl,j1⟩
 by_cases q1:64 < l
 case pos =>
  obtain rfl:k=false:=by (try have hq_:=heq.out); rw [<-HK.out]; exact decide_eq_false (by omega)
  go_wp2
  go_ret
  exact⟨rfl,j1⟩
 by_cases q2:s < 0
 case pos =>
  obtain rfl:k=false:=by (try have hq_:=heq.out); rw [<-HK.out]; exact decide_eq_false (by omega)
  go_wp2
  go_ret
  exact⟨rfl,j1⟩
 by_cases q3:t < s
 case pos =>
  obtain rfl:k=false:=by (try have hq_:=heq.out); rw [<-HK.out]; exact decide_eq_false (by omega)
  go_wp2
  go_ret
  exact⟨rfl,j1⟩
 by_cases q4:2147483647 < t
 case pos =>
  obtain rfl:k=false:=by (try have hq_:=heq.out); rw [<-HK.out]; exact decide_eq_false (by omega)
  go_wp2
  go_ret
  exact⟨rfl,j1⟩
 by_cases q5:e < 0
 case pos =>
  obtain rfl:k=false:=by (try have hq_:=heq.out); rw [<-HK.out]; exact decide_eq_false (by omega)
  go_wp2
  go_ret
  exact⟨rfl,j1⟩
 by_cases q6:65535 < e
 case pos =>
  obtain rfl:k=false:=by (try have hq_:=heq.out); rw [<-HK.out]; exact decide_eq_false (by omega)
  go_wp2
  go_ret
  exact⟨rfl,j1⟩
 by_cases q7:f < 0
 case pos =>
  obtain rfl:k=false:=by (try have hq_:=heq.out); rw [<-HK.out]; exact decide_eq_false (by omega)
  go_wp2
  go_ret
  exact⟨rfl,j1⟩
 by_cases q8:65536 < f
 case pos =>
  obtain rfl:k=false:=by (try have hq_:=heq.out); rw [<-HK.out]; exact decide_eq_false (by omega)
  go_wp2
  go_ret
  exact⟨rfl,j1⟩
 have hwr:IntKind.i64.wrap (t-s)=t-s:=by rw [IntKind.wrap_i64]; omega
 by_cases q9:l<=t-s
 case neg =>
  obtain rfl:k=true:=by (try have hq_:=heq.out); rw [<-HK.out]; exact decide_eq_true (by omega)
  go_wp2
  go_ret
  exact⟨rfl,j1⟩
 obtain⟨bq,hbq⟩:∃ b,(e==65535)=b:=⟨_,rfl⟩
 cases bq
 case false =>
  have hne:=Lib.hid (ne_of_beq_false hbq)
  obtain rfl:k=false:=by have:=hne.out; rw [<-HK.out]; exact decide_eq_false (by omega)
  go_wp2
  go_ret
  exact⟨rfl,j1⟩
 have heq:=Lib.hid (eq_of_beq hbq)
 obtain rfl:k=true:=by (try have hq_:=heq.out); rw [<-HK.out]; exact decide_eq_true (by omega)
 go_wp2
 go_ret
 exact⟨rfl,j1⟩
theorem rMayCl_any(w:World)(l t s e f:Int)(k:Bool)(hk:qke l t s e f=k) :
  Calls Tryz.prog 99 #[.agg #[.int .i64 l,.int .i64 t,.int .i64 s,.int .i64 e,.int .i64 f]] w fun e' w'=>e'=.returned (.bool k)/\Below w.heap.size w w':=by
 obtain⟨w1,hw,bC,j1⟩:=alloc_cl w l t s e f
 have c0:w1.cell? ⟨w.heap.size,0,none⟩=some (.int .i64 l):=cell_of_row w1 w.heap.size 0 _ _ _ bC
 have c1:w1.cell? ⟨w.heap.size,1,none⟩=some (.int .i64 t):=cell_of_row w1 w.heap.size 1 _ _ _ bC
 have c2:w1.cell? ⟨w.heap.size,2,none⟩=some (.int .i64 s):=cell_of_row w1 w.heap.size 2 _ _ _ bC
 have c3:w1.cell? ⟨w.heap.size,3,none⟩=some (.int .i64 e):=cell_of_row w1 w.heap.size 3 _ _ _ bC
 have c4:w1.cell? ⟨w.heap.size,4,none⟩=some (.int .i64 f):=cell_of_row w1 w.heap.size 4 _ _ _ bC
 clear bC
 have HK:=Lib.hid hk
 clear hk
 go_enter Tryz.func99,Tryz.ntmps99
 by_cases q10:l < 1
 case pos =>
  obtain rfl:k=false:=by (try have hq_:=heq.out); rw [<-HK.out]; exact decide_eq_false (by omega)
  go_wp2
  go_ret
  exact⟨rfl,j1⟩
 by_cases q11:64 < l
 case pos =>
  obtain rfl:k=false:=by (try have hq_:=heq.out); rw [<-HK.out]; exact decide_eq_false (by omega)
  go_wp2
  go_ret
  exact⟨rfl,j1⟩
 by_cases q12:t < 0
 case pos =>
  obtain rfl:k=false:=by (try have hq_:=heq.out); rw [<-HK.out]; exact decide_eq_false (by omega)
  go_wp2
  go_ret
  exact⟨rfl,j1⟩
 by_cases q13:2147483647 < t
 case pos =>
  obtain rfl:k=false:=by (try have hq_:=heq.out); rw [<-HK.out]; exact decide_eq_false (by omega)
  go_wp2
  go_ret
  exact⟨rfl,j1⟩
 by_cases q14:s < 0
 case pos =>
  obtain rfl:k=false:=by (try have hq_:=heq.out); rw [<-HK.out]; exact decide_eq_false (by omega)
  go_wp2
  go_ret
  exact⟨rfl,j1⟩
 by_cases q15:t < s
 case pos =>
  obtain rfl:k=false:=by (try have hq_:=heq.out); rw [<-HK.out]; exact decide_eq_false (by omega)
  go_wp2
  go_ret
  exact⟨rfl,j1⟩
 by_cases q16:e < 0
 case pos =>
  obtain rfl:k=false:=by (try have hq_:=heq.out); rw [<-HK.out]; exact decide_eq_false (by omega)
  go_wp2
  go_ret
  exact⟨rfl,j1⟩
 by_cases q17:65535 < e
 case pos =>
  obtain rfl:k=false:=by (try have hq_:=heq.out); rw [<-HK.out]; exact decide_eq_false (by omega)
  go_wp2
  go_ret
  exact⟨rfl,j1⟩
 by_cases q18:f < 0
 case pos =>
  obtain rfl:k=false:=by (try have hq_:=heq.out); rw [<-HK.out]; exact decide_eq_false (by omega)
  go_wp2
  go_ret
  exact⟨rfl,j1⟩
 by_cases q19:65536 < f
 case pos =>
  obtain rfl:k=false:=by (try have hq_:=heq.out); rw [<-HK.out]; exact decide_eq_false (by omega)
  go_wp2
  go_ret
  exact⟨rfl,j1⟩
 have hwr:IntKind.i64.wrap (t-s)=t-s:=by rw [IntKind.wrap_i64]; omega
 by_cases q20:t-s < l
 case pos =>
  obtain rfl:k=true:=by (try have hq_:=heq.out); rw [<-HK.out]; exact decide_eq_true (by omega)
  go_wp2
  go_ret
  exact⟨rfl,j1⟩
 obtain⟨bq,hbq⟩:∃ b,(e==65535)=b:=⟨_,rfl⟩
 cases bq
 case false =>
  have hne:=Lib.hid (ne_of_beq_false hbq)
  obtain rfl:k=false:=by have:=hne.out; rw [<-HK.out]; exact decide_eq_false (by omega)
  go_wp2
  go_ret
  exact⟨rfl,j1⟩
 have heq:=Lib.hid (eq_of_beq hbq)
 obtain rfl:k=true:=by (try have hq_:=heq.out); rw [<-HK.out]; exact decide_eq_true (by omega)
 go_wp2
 go_ret
 exact⟨rfl,j1⟩
theorem nvalue_any(w:World)(x:Int)(k:Bool)(hk:qzl x=k) :
  Calls Tryz.prog 50 #[.int .i64 x] w fun e' w'=>e'=.returned (.bool k)/\Below w.heap.size w w':=by
 have j1:=Below.refl w.heap.size w
 have HK:=Lib.hid hk
 clear hk
 go_enter Tryz.func50,Tryz.ntmps50
 by_cases q21:-2147483647<=x
 case neg =>
  obtain rfl:k=false:=by (try have hq_:=heq.out); rw [<-HK.out]; exact decide_eq_false (by omega)
  go_wp2
  go_ret
  exact⟨rfl,j1⟩
 by_cases q22:x<=2147483647
 case neg =>
  obtain rfl:k=false:=by (try have hq_:=heq.out); rw [<-HK.out]; exact decide_eq_false (by omega)
  go_wp2
  go_ret
  exact⟨rfl,j1⟩
 obtain rfl:k=true:=by (try have hq_:=heq.out); rw [<-HK.out]; exact decide_eq_true (by omega)
 go_wp2
 go_ret
 exact⟨rfl,j1⟩
theorem rValue_any(w:World)(x:Int)(k:Bool)(hk:qzl x=k) :
  Calls Tryz.prog 98 #[.int .i64 x] w fun e' w'=>e'=.returned (.bool k)/\Below w.heap.size w w':=by
 have j1:=Below.refl w.heap.size w
 have HK:=Lib.hid hk
 clear hk
 go_enter Tryz.func98,Tryz.ntmps98
 by_cases q23:-2147483647<=x
 case neg =>
  obtain rfl:k=false:=by (try have hq_:=heq.out); rw [<-HK.out]; exact decide_eq_false (by omega)
  go_wp2
  go_ret
  exact⟨rfl,j1⟩
 by_cases q24:x<=2147483647
 case neg =>
  obtain rfl:k=false:=by (try have hq_:=heq.out); rw [<-HK.out]; exact decide_eq_false (by omega)
  go_wp2
  go_ret
  exact⟨rfl,j1⟩
 obtain rfl:k=true:=by (try have hq_:=heq.out); rw [<-HK.out]; exact decide_eq_true (by omega)
 go_wp2
 go_ret
 exact⟨rfl,j1⟩
theorem qds(w:World)(a b:Int)(k:Bool)(hk:q0a a b=k) :
  Calls Tryz.prog 167 #[.agg #[.int .i64 a,.int .i64 b]] w fun e' w'=>e'=.returned (.bool k)/\Below w.heap.size w w':=by
 obtain⟨w1,hw,bC,j1,S1⟩:=qdz w a b
 have c0:w1.cell? ⟨w.heap.size,0,none⟩=some (.int .i64 a):=cell_of_row w1 w.heap.size 0 _ _ _ bC
 have c1:w1.cell? ⟨w.heap.size,1,none⟩=some (.int .i64 b):=cell_of_row w1 w.heap.size 1 _ _ _ bC
 clear bC S1
 have HK:=Lib.hid hk
 clear hk
 go_enter Tryz.func167,Tryz.ntmps167
 by_cases q27:0<=a
 case neg =>
  obtain rfl:k=false:=by (try have hq_:=heq.out); rw [<-HK.out]; exact decide_eq_false (by omega)
  go_wp2
  go_ret
  exact⟨rfl,j1⟩
 by_cases q28:a<=2147483647
 case neg =>
  obtain rfl:k=false:=by (try have hq_:=heq.out); rw [<-HK.out]; exact decide_eq_false (by omega)
  go_wp2
  go_ret
  exact⟨rfl,j1⟩
 by_cases q29:0<=b
 case neg =>
  obtain rfl:k=false:=by (try have hq_:=heq.out); rw [<-HK.out]; exact decide_eq_false (by omega)
  go_wp2
  go_ret
  exact⟨rfl,j1⟩
 by_cases q30:b<=1048575
 case neg =>
  obtain rfl:k=false:=by (try have hq_:=heq.out); rw [<-HK.out]; exact decide_eq_false (by omega)
  go_wp2
  go_ret
  exact⟨rfl,j1⟩
 obtain rfl:k=true:=by (try have hq_:=heq.out); rw [<-HK.out]; exact decide_eq_true (by omega)
 go_wp2
 go_ret
 exact⟨rfl,j1⟩
theorem qgm(w:World)(a b:Int)(k:Bool)(hk:q0a a b=k) :
  Calls Tryz.prog 161 #[.agg #[.int .i64 a,.int .i64 b]] w fun e' w'=>e'=.returned (.bool k)/\Below w.heap.size w w':=by
 obtain⟨w1,hw,bC,j1,S1⟩:=qdz w a b
 have c0:w1.cell? ⟨w.heap.size,0,none⟩=some (.int .i64 a):=cell_of_row w1 w.heap.size 0 _ _ _ bC
 have c1:w1.cell? ⟨w.heap.size,1,none⟩=some (.int .i64 b):=cell_of_row w1 w.heap.size 1 _ _ _ bC
 clear bC S1
 have HK:=Lib.hid hk
 clear hk
 go_enter Tryz.func161,Tryz.ntmps161
 by_cases q31:0<=a
 case neg =>
  obtain rfl:k=false:=by (try have hq_:=heq.out); rw [<-HK.out]; exact decide_eq_false (by omega)
  go_wp2
  go_ret
  exact⟨rfl,j1⟩
 by_cases q32:a<=2147483647
 case neg =>
  obtain rfl:k=false:=by (try have hq_:=heq.out); rw [<-HK.out]; exact decide_eq_false (by omega)
  go_wp2
  go_ret
  exact⟨rfl,j1⟩
 by_cases q33:0<=b
 case neg =>
  obtain rfl:k=false:=by (try have hq_:=heq.out); rw [<-HK.out]; exact decide_eq_false (by omega)
  go_wp2
  go_ret
  exact⟨rfl,j1⟩
 by_cases q34:b<=1048575
 case neg =>
  obtain rfl:k=false:=by (try have hq_:=heq.out); rw [<-HK.out]; exact decide_eq_false (by omega)
  go_wp2
  go_ret
  exact⟨rfl,j1⟩
 obtain rfl:k=true:=by (try have hq_:=heq.out); rw [<-HK.out]; exact decide_eq_true (by omega)
 go_wp2
 go_ret
 exact⟨rfl,j1⟩
theorem qfs(w:World)(a b c d:Int)(k:Bool)(hk:qg7 a b c d=k) :
  Calls Tryz.prog 168 #[.agg #[.int .i64 a,.int .i64 b],.agg #[.int .i64 c,.int .i64 d]] w fun e' w'=>e'=.returned (.bool k)/\Below w.heap.size w w':=by
 obtain⟨w1,hw1,bX,ja,S1⟩:=qdz w a b
 obtain⟨w2,hw2,bY,jb,S2⟩:=qdz w1 c d
 have z1:w1.heap.size=w.heap.size+1:=by rw [<-hw1]; simp
 have j1:Below w.heap.size w w2:=lz ja jb
 replace bX:=qaa bX jb S1
 have c0:w2.cell? ⟨w.heap.size,0,none⟩=some (.int .i64 a):=cell_of_row w2 w.heap.size 0 _ _ _ bX
 have c1:w2.cell? ⟨w.heap.size,1,none⟩=some (.int .i64 b):=cell_of_row w2 w.heap.size 1 _ _ _ bX
 rw [z1] at bY
 have d0:w2.cell? ⟨w.heap.size+1,0,none⟩=some (.int .i64 c):=cell_of_row w2 (w.heap.size+1) 0 _ _ _ bY
 have d1:w2.cell? ⟨w.heap.size+1,1,none⟩=some (.int .i64 d):=cell_of_row w2 (w.heap.size+1) 1 _ _ _ bY
 clear bX bY S1 S2 z1 ja jb
 subst hw1
 have HK:=Lib.hid hk
 clear hk
 go_enter Tryz.func168,Tryz.ntmps168
 by_cases q35:a < c
 case pos =>
  obtain rfl:k=true:=by (try have hq_:=heq.out); rw [<-HK.out]; exact decide_eq_true (by omega)
  go_wp2
  go_ret
  exact⟨rfl,j1⟩
 obtain⟨bq,hbq⟩:∃ b,(a==c)=b:=⟨_,rfl⟩
 cases bq
 case false =>
  have hne:=Lib.hid (ne_of_beq_false hbq)
  obtain rfl:k=false:=by have:=hne.out; rw [<-HK.out]; exact decide_eq_false (by omega)
  go_wp2
  go_ret
  exact⟨rfl,j1⟩
 have heq:=Lib.hid (eq_of_beq hbq)
 by_cases q36:b < d
 case neg =>
  obtain rfl:k=false:=by (try have hq_:=heq.out); rw [<-HK.out]; exact decide_eq_false (by omega)
  go_wp2
  go_ret
  exact⟨rfl,j1⟩
 obtain rfl:k=true:=by (try have hq_:=heq.out); rw [<-HK.out]; exact decide_eq_true (by omega)
 go_wp2
 go_ret
 exact⟨rfl,j1⟩
theorem qko(w:World)(a b c d:Int)(k:Bool)(hk:qg7 a b c d=k) :
  Calls Tryz.prog 162 #[.agg #[.int .i64 a,.int .i64 b],.agg #[.int .i64 c,.int .i64 d]] w fun e' w'=>e'=.returned (.bool k)/\Below w.heap.size w w':=by
 obtain⟨w1,hw1,bX,ja,S1⟩:=qdz w a b
 obtain⟨w2,hw2,bY,jb,S2⟩:=qdz w1 c d
 have z1:w1.heap.size=w.heap.size+1:=by rw [<-hw1]; simp
 have j1:Below w.heap.size w w2:=lz ja jb
 replace bX:=qaa bX jb S1
 have c0:w2.cell? ⟨w.heap.size,0,none⟩=some (.int .i64 a):=cell_of_row w2 w.heap.size 0 _ _ _ bX
 have c1:w2.cell? ⟨w.heap.size,1,none⟩=some (.int .i64 b):=cell_of_row w2 w.heap.size 1 _ _ _ bX
 rw [z1] at bY
 have d0:w2.cell? ⟨w.heap.size+1,0,none⟩=some (.int .i64 c):=cell_of_row w2 (w.heap.size+1) 0 _ _ _ bY
 have d1:w2.cell? ⟨w.heap.size+1,1,none⟩=some (.int .i64 d):=cell_of_row w2 (w.heap.size+1) 1 _ _ _ bY
 clear bX bY S1 S2 z1 ja jb
 subst hw1
 have HK:=Lib.hid hk
 clear hk
 go_enter Tryz.func162,Tryz.ntmps162
 by_cases q37:a < c
 case pos =>
  obtain rfl:k=true:=by (try have hq_:=heq.out); rw [<-HK.out]; exact decide_eq_true (by omega)
  go_wp2
  go_ret
  exact⟨rfl,j1⟩
 obtain⟨bq,hbq⟩:∃ b,(a==c)=b:=⟨_,rfl⟩
 cases bq
 case false =>
  have hne:=Lib.hid (ne_of_beq_false hbq)
  obtain rfl:k=false:=by have:=hne.out; rw [<-HK.out]; exact decide_eq_false (by omega)
  go_wp2
  go_ret
  exact⟨rfl,j1⟩
 have heq:=Lib.hid (eq_of_beq hbq)
 by_cases q38:b < d
 case neg =>
  obtain rfl:k=false:=by (try have hq_:=heq.out); rw [<-HK.out]; exact decide_eq_false (by omega)
  go_wp2
  go_ret
  exact⟨rfl,j1⟩
 obtain rfl:k=true:=by (try have hq_:=heq.out); rw [<-HK.out]; exact decide_eq_true (by omega)
 go_wp2
 go_ret
 exact⟨rfl,j1⟩
end Ma
end Go.Proofs.YtmbppgjhdcmckaaGreatDoor