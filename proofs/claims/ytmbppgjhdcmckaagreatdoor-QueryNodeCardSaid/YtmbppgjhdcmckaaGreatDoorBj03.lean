/- The ratio package's long numbers: widen, below (printed by a program of mine out of the dyad package's). -/
import Derived.Test.YtmbppgjhdcmckaaGreatDoorBj02
import Derived.Deep.RegionHeld3
import Derived.ScopeJumps
import Derived.RangeFuncNested
import Derived.RangeFuncBound
import Derived.RangeFuncCalls
import Derived.RangeFuncLeaves
import Derived.RangeFuncBox
import Derived.Shelf.Abstract
import Derived.Shelf.RegionOpen
import Derived.OwnWalkIn
import Derived.TacticsInMore
import Derived.LoopNIn
import Derived.LoopIn
import Derived.RegionIn
set_option maxHeartbeats 102400000
set_option maxRecDepth 100000
namespace Go.Proofs.YtmbppgjhdcmckaaGreatDoor
open Go.RowKit
namespace Dy
open Dp
structure qbj(w:World)(g:Nat)(ws:List Int):Prop where
 blk:w.heap[g]? = some (.cells (qat ws) 157 (0,0))
 len:ws.length=76
 dig:Dig 4294967296 ws
theorem qbj.cell{w:World}{g:Nat}{ws:List Int}(h:qbj w g ws){j:Nat}(hj:j < 76):w.cell? ⟨g,j,none⟩=some (.int .u32 (ws[j]?.getD 0)):=by
 rw [cell_of_row w g j _ _ _ h.blk]
 exact qeh ws (by rw [h.len]; exact hj)
theorem qbj.free{w:World}{g:Nat}{ws:List Int}(h:qbj w g ws)(j:Nat):w.frozen? ⟨g,j,none⟩=false:=frozen_of_row w g j _ _ h.blk
theorem qbj.set{w:World}{g:Nat}{ws:List Int}(h:qbj w g ws)(j d:Nat)(hd:d < 4294967296):qbj (w.setCell ⟨g,j,none⟩ (.int .u32 d)) g (ws.set j d) :=
 ⟨by rw [heap_setCell_same w g j _ _ _ h.blk,qin],by rw [List.length_set,h.len],qf4 h.dig j d hd⟩
def qas:List Int:=List.replicate 76 0
theorem Tryz.info157:(Tryz.prog.info? 157).map (fun i=>(i.zero,i.size))=some (some (.agg (qat qas)),76):=by kernel_rfl
theorem qfc(w:World)(lo hi:Nat)(A:Option Addr)(n c:Nat)(xs:List Int)(k:Nat)(hX:qae w lo hi .u32 A n xs)(hhi:hi<=w.heap.size)(hd:Dig 4294967296 xs)(hn:n<=40)(hk:k<=1090)(kk:Int)(hkk:kk=k) :
  Calls Tryz.prog 173 #[.slice A n c,.int .i64 kk] w fun e w'=>∃ ws,e=.returned (.agg (qat ws))/\Below w.heap.size w w'/\ws.length=76/\Dig 4294967296 ws/\num 4294967296 ws=num 4294967296 xs*2^k:=by
 subst hkk
 have hL:=Lib.hid hX.len
 obtain⟨hz,hi81⟩:=zero_of_info Tryz.info157
 have hI:=Lib.hid hi81
 clear hi81
 have hzz:(num 4294967296 qas=0)/\qas.length=76/\Dig 4294967296 qas:=⟨qe0 _ _,by simp [qas],fun x hx=>by have:=List.eq_of_mem_replicate hx; omega⟩
 have HZ:=Lib.hid hzz
 clear hzz
 go_enter Tryz.func173,Tryz.ntmps173
 go_wp2
 go_loopw [5,6,7,10] (fun _ _ _ iv wr=>∃ i:Nat,∃ ws:List Int,iv=.int .i64 i/\i<=n/\Below w.heap.size w wr/\qbj wr (w.heap.size) ws/\Hid (num 4294967296 ws=num 4294967296 (xs.take i)*2^k)) (fun _ _ _ iv _=>n-(intOf iv).toNat)
 case atStart =>
  exact⟨0,qas,rfl,Nat.zero_le _,(Below.refl _ _).alloc (Nat.le_refl _) _,⟨heap_alloc_last _ _,HZ.out.2.1,HZ.out.2.2⟩,by rw [Hid,HZ.out.1]; simp [num]⟩
 obtain⟨i,ws,rfl,hin,hb,hW,hnum⟩:=hrel
 by_cases hlt:i < n
 . obtain⟨b,off,rfl,hcell⟩:=get (hX.below hb hhi) (by omega)
   have g1:=hcell i hlt
   obtain⟨x,hx,hx2⟩:=qa3 (by decide) hd i
   rw [hx] at g1
   obtain⟨p,hp,hp2⟩:=qa3 (by decide) hW.dig (i+k/32)
   obtain⟨l1,l2,l3,l4,l5,l6⟩:=qpu hW.dig hd (by rw [hW.len]; omega) hnum.out hx hp
   have c1:=hW.cell (j:=i+k/32) (by omega)
   have c2:=hW.cell (j:=i+k/32+1) (by omega)
   have f1:=hW.free (i+k/32)
   have f2:=hW.free (i+k/32+1)
   rw [hp] at c1
   rw [l2] at c2
   have HX:=Lib.hid hx
   have HP:=Lib.hid hp
   have L2:=Lib.hid l2
   clear hcell hx hp l2
   go_wp2
   go_roundw
   case rel =>
    have E1:=q1k p x (k%32) hx2 (Nat.mod_lt _ (by decide)) l1 l3
    have E2:=q1l x (k%32) hx2 (Nat.mod_lt _ (by decide)) l4
    rw [E1,E2]
    exact⟨i+1,(ws.set (i+k/32) ((p+x*2^(k%32)%4294967296:Nat):Int)).set (i+k/32+1) ((x*2^(k%32)/4294967296:Nat):Int),by go_num,by omega,(hb.setCell (by simp) _).setCell (by simp) _,(hW.set _ _ l3).set _ _ l4,Lib.hid l6⟩
   case measure=>simp [intOf]; omega
 obtain rfl:i=n:=by omega
 have hend:=hnum.out
 rw [List.take_of_length_le (by rw [hL.out]; exact Nat.le_refl _)] at hend
 have HE:=Lib.hid hend
 have hsz:(qat ws).size=76:=by rw [qau,hW.len]
 have hsz2:=hI.out
 rw [<-hsz] at hsz2
 have hblk:=hW.blk
 have hone:=qde ws
 have HS:=Lib.hid hsz
 have HS2:=Lib.hid hsz2
 have HB:=Lib.hid hblk
 have HO:=Lib.hid hone
 clear hend hsz hsz2 hblk hone hnum
 go_wp2_with (first
  | (refine wpList_load_row rfl 157 (.tmp 4) rfl (w.heap.size) rfl _ _ _ _ HB.out Tryz.underlying157 rfl HS2.out ?_)
  | (refine wpList_store_row rfl 157 (.tmp 4) (.tmp 43) rfl (w.heap.size) (qat ws) rfl rfl _ _ HB.out HS2.out rfl HO.out ?_))
 have hblk2:=setRow_heap wr (w.heap.size) (qat ws) (qat ws) _ _ HB.out
 refine bodyPost_ret (v:=.agg (qat ws)) (results_cell_row Tryz.results173 _ _ (w.heap.size) _ _ _ _ rfl hblk2 Tryz.underlying157 rfl HS2.out) rfl ⟨ws,rfl,?_,hW.len,hW.dig,HE.out⟩
 exact qcf hb (by omega) _
structure RowR(w:World)(g o:Nat)(ws:List Int):Prop where
 cell:∀ j,j < 76->w.cell? ⟨g,o+j,none⟩=some (.int .u32 (ws[j]?.getD 0))
 free:∀ j,j < 76->w.frozen? ⟨g,o+j,none⟩=false
 len:ws.length=76
 dig:Dig 4294967296 ws
theorem qbj.row{w:World}{g:Nat}{ws:List Int}(h:qbj w g ws):RowR w g 0 ws :=
 ⟨fun j hj=>by rw [Nat.zero_add]; exact h.cell hj,fun j _=>by rw [Nat.zero_add]; exact h.free j,h.len,h.dig⟩
theorem qv4{ws us:List Int}{k x y:Nat}(hw:ws.length=76)(hu:us.length=76)(hdw:Dig 4294967296 ws)(hdu:Dig 4294967296 us)(hk:k < 76)(h:ws.drop (k+1)=us.drop (k+1))(hx:ws[k]?.getD 0=(x:Int))(hy:us[k]?.getD 0=(y:Int)) :
  (x=y->ws.drop k=us.drop k)/\(x≠y->decide (num 4294967296 ws < num 4294967296 us)=decide (x < y)):=by
 refine⟨fun e=>q0j (by omega) (by omega) h (by rw [hx,hy,e]),fun e=>?_⟩
 rcases Nat.lt_or_ge x y with hlt|hge
 . have:=quw (by decide) hdw h (by rw [hx,hy]; simpa using hlt)
   simp [hlt,this]
 have:=quw (by decide) hdu h.symm (by rw [hx,hy]; simp; omega)
 have h1:¬ num 4294967296 ws < num 4294967296 us:=by omega
 have h2:¬ x < y:=by omega
 simp [h1,h2]
theorem qk1(w:World)(g o g' o':Nat)(ws us:List Int)(hW:RowR w g o ws)(hU:RowR w g' o' us)(r:Bool)(hr:decide (num 4294967296 ws < num 4294967296 us)=r) :
  Calls Tryz.prog 208 #[.pointer (some ⟨g,o,none⟩),.pointer (some ⟨g',o',none⟩)] w fun e w'=>e=.returned (.bool r)/\∃ m,w'=w.drewN m:=by
 have HR:=Lib.hid hr
 clear hr
 go_enter Tryz.func208,Tryz.ntmps208
 go_wp2
 go_loopw [5] (fun iv wr=>∃ k:Nat,iv=.int .i64 ((k:Int)-1)/\k<=76/\Hid (ws.drop k=us.drop k)/\∃ m,wr=w.drewN m) (fun iv _=>(intOf iv+1).toNat)
 case atStart=>exact⟨76,rfl,Nat.le_refl _,by rw [Hid,List.drop_eq_nil_of_le (by rw [hW.len]; exact Nat.le_refl _),List.drop_eq_nil_of_le (by rw [hU.len]; exact Nat.le_refl _)],0,rfl⟩
 obtain⟨k,rfl,hk,heq,m,rfl⟩:=hrel
 rcases k with _|k
 . have e2:r=false:=by rw [<-HR.out]; exact qs4 heq.out
   subst e2
   go_wp2
   go_ret
   exact⟨rfl,m,rfl⟩
 have ej:((k+1:Nat):Int)-1=(k:Int):=by omega
 obtain⟨x,hx,hx2⟩:=qa3 (by decide) hW.dig k
 obtain⟨y,hy,hy2⟩:=qa3 (by decide) hU.dig k
 have g1:=hW.cell k (by omega)
 have g2:=hU.cell k (by omega)
 obtain⟨hsame,hdiff⟩:=qv4 hW.len hU.len hW.dig hU.dig (by omega) heq.out hx hy
 rw [hx] at g1
 rw [hy] at g2
 rw [ej]
 have hk0:(0:Int)<=k:=by omega
 have hk1:(k:Int) < 76:=by omega
 clear hx hy ej
 by_cases hxy:x=y
 . subst hxy
   have HS:=Lib.hid (hsame rfl)
   have hne:((x:Int) != x)=false:=by simp
   clear hsame hdiff
   go_wp2
   go_quiet (fail)
   go_wp2
   go_roundw
   case rel=>exact⟨k,rfl,by omega,HS,_,rfl⟩
   case measure=>first | (simp [intOf]; done) | (simp [intOf]; omega)
 have HD:=Lib.hid (hdiff hxy)
 have hne:((x:Int) != y)=true:=by simpa using (show ¬ (x:Int)=y by omega)
 clear hsame hdiff
 go_wp2
 go_quiet (fail)
 go_wp2
 go_quiet (fail)
 go_wp2
 go_ret
 exact⟨qio (by rw [<-HR.out,HD.out]),m+(_+_),by rw [qb5,qb5]⟩
end Dy
end Go.Proofs.YtmbppgjhdcmckaaGreatDoor
namespace Go.Proofs.YtmbppgjhdcmckaaGreatDoor
open Go.RowKit
section
variable {P:Program} {ops:Array Oper} {os:List Oper} {Q:Exit->Act->World->Prop} {md:Region.Mode} {S:World->Prop} {E:List Nat}
def qa5(P:Program)(md:Region.Mode)(ops:Array Oper)(Q:Exit->Act->World->Prop)(S:World->Prop)(E:List Nat):Nat->Array Bool->Act->World->Prop
 | 0,L,a,w=>Region.ready md ops L=[]/\Q .normal a w
 | n+1,L,a,w=>(Region.ready md ops L=[]->Q .normal a w)/\∀ i∈Region.ready md ops L,wpOp P ops Q i (fun a' w'=>(E.contains i=false->S w->S w')/\qa5 P md ops Q S E n (L.setIfInBounds i true) a' w') a w
theorem ql8:∀ (n:Nat) (L:Array Bool) (a:Act) (w:World),qa5 P md ops Q S E n L a w->wpAny P md ops Q n L a w
 | 0,_,_,_,h=>h
 | n+1,_,_,_,h=>⟨h.1,fun i hi=>wpOp_mono (fun a' w' h'=>ql8 n _ a' w' h'.2) (h.2 i hi)⟩
def qh0(md:Region.Mode)(ops:Array Oper)(k i:Nat):Bool:=match ops[k]? with
 | none=>true
 | some o=>o.after.any fun e=>Region.binds md e && e.on==i
theorem qho{L:Array Bool}{i k:Nat}(hw:qh0 md ops k i=true)(hi:i∈Region.ready md ops L):k∉Region.ready md ops L:=fun hk=>by
 obtain⟨_,o,ho,hall⟩:=mem_ready.1 hk
 have h0:=(mem_ready.1 hi).1
 unfold qh0 at hw
 rw [ho] at hw
 simp only [Array.any_eq_true,Bool.and_eq_true,beq_iff_eq] at hw
 obtain⟨j,hj,hb,he⟩:=hw
 have h1:=hall _ (Array.getElem_mem hj) hb
 rw [he] at h1
 rcases Nat.lt_or_ge i L.size with h'|h'
 . simp [h'] at h0 h1
   rw [h0] at h1
   cases h1
 simp [Array.getElem?_eq_none h'] at h1
theorem qfk{L:Array Bool}{i j:Nat}{oj:Oper}(hoj:ops[j]? = some oj)(hr:i∈Region.ready md ops L)(hj:j∈Region.ready md ops L):∀ e∈oj.after,Region.binds md e=true->e.on≠i:=fun e he hb heq=>by
 refine qho (k:=j) (md:=md) (ops:=ops) ?_ hr hj
 unfold qh0
 rw [hoj]
 obtain⟨m,hm,hme⟩:=Array.getElem_of_mem he
 simp only [Array.any_eq_true,Bool.and_eq_true,beq_iff_eq]
 exact⟨m,hm,by rw [hme]; exact hb,by rw [hme]; exact heq⟩
theorem q1t{i:Nat}{oi:Oper}{v:Value}(hi:ops[i]? = some oi)(hsel:∀ (j:Nat) (o:Oper) cs b,ops[j]? = some o->o.op≠.select cs b)
  (hw:∀ k,E.contains k=true->qh0 md ops k i=true)
  (hQ:∀ c a w,Q (.panic c) (a.put oi.dst v) w->Q (.panic c) a w) :
  ∀ (n:Nat) (L:Array Bool) (a:Act) (w:World),
   (∀ j oj,ops[j]? = some oj->j≠i->L.getD j true=false->(∀ e∈oj.after,Region.binds md e=true->e.on≠i)->oi.apart ops oj=true) ->
   i∈Region.ready md ops L->YieldsIf P ops S oi v a->S w->qa5 P md ops Q S E n (L.setIfInBounds i true) (a.put oi.dst v) w->qa5 P md ops Q S E (n+1) L a w:=by
 intro n
 induction n with
 | zero =>
  intro L a w _ hr hy hS H
  refine⟨fun h=>(by rw [h] at hr; cases hr),fun j hj=>?_⟩
  by_cases hji:j=i
  . subst hji
    exact hy.wpOp hi hS ⟨fun _ h=>h,H⟩
  have:=ready_mono hj hji
  rw [H.1] at this
  cases this
 | succ n ih =>
  intro L a w hfree hr hy hS H
  refine⟨fun h=>(by rw [h] at hr; cases hr),fun j hj=>?_⟩
  by_cases hji:j=i
  . subst hji
    exact hy.wpOp hi hS ⟨fun _ h=>h,H⟩
  have h1:=H.2 j (ready_mono hj hji)
  obtain⟨hjun,oj,hoj,hall⟩:=mem_ready.1 hj
  have hnot:=qfk hoj hr hj
  have h2:=wpOp_putIf hoj (hfree j oj hoj hji hjun hnot) (fun cs b=>hsel i oi cs b hi) (fun cs b=>hsel j oj cs b hoj) hQ hy h1
  have hjk:E.contains j=false:=by
   cases hc:E.contains j
   . rfl
   exact absurd hj (qho (hw j hc) hr)
  refine wpOp_mono (fun a' w' h3=>⟨h3.2.1,ih (L.setIfInBounds j true) a' w' (fun m om hm hmi hun hno=>?_) (ready_mono hr (Ne.symm hji)) h3.1 (h3.2.1 hjk hS) ?_⟩) h2
  . refine hfree m om hm hmi ?_ hno
    by_cases hjm:j=m
    . subst hjm
      exact hjun
    rw [getD_set_ne true hjm] at hun
    exact hun
  rw [Array.setIfInBounds_comm _ _ hji]
  exact h3.2.2
theorem qvi{i:Nat}{oi:Oper}{v:Value}(hi:ops[i]? = some oi)(hsel:∀ (j:Nat) (o:Oper) cs b,ops[j]? = some o->o.op≠.select cs b)
  (hQ:∀ c a w,Q (.panic c) (a.put oi.dst v) w->Q (.panic c) a w) :
  ∀ (n:Nat) (L:Array Bool) (a:Act) (w:World),
   (∀ j oj,ops[j]? = some oj->j≠i->L.getD j true=false->(∀ e∈oj.after,Region.binds md e=true->e.on≠i)->oi.apart ops oj=true) ->
   i∈Region.ready md ops L->YieldsIf P ops (fun _=>True) oi v a->qa5 P md ops Q S E n (L.setIfInBounds i true) (a.put oi.dst v) w->qa5 P md ops Q S E (n+1) L a w:=by
 intro n
 induction n with
 | zero =>
  intro L a w _ hr hy H
  refine⟨fun h=>(by rw [h] at hr; cases hr),fun j hj=>?_⟩
  by_cases hji:j=i
  . subst hji
    exact hy.wpOp hi trivial ⟨fun _ h=>h,H⟩
  have:=ready_mono hj hji
  rw [H.1] at this
  cases this
 | succ n ih =>
  intro L a w hfree hr hy H
  refine⟨fun h=>(by rw [h] at hr; cases hr),fun j hj=>?_⟩
  by_cases hji:j=i
  . subst hji
    exact hy.wpOp hi trivial ⟨fun _ h=>h,H⟩
  have h1:=H.2 j (ready_mono hj hji)
  obtain⟨hjun,oj,hoj,hall⟩:=mem_ready.1 hj
  have hnot:=qfk hoj hr hj
  have h2:=wpOp_putIf hoj (hfree j oj hoj hji hjun hnot) (fun cs b=>hsel i oi cs b hi) (fun cs b=>hsel j oj cs b hoj) hQ hy h1
  refine wpOp_mono (fun a' w' h3=>⟨h3.2.1,ih (L.setIfInBounds j true) a' w' (fun m om hm hmi hun hno=>?_) (ready_mono hr (Ne.symm hji)) h3.1 ?_⟩) h2
  . refine hfree m om hm hmi ?_ hno
    by_cases hjm:j=m
    . subst hjm
      exact hjun
    rw [getD_set_ne true hjm] at hun
    exact hun
  rw [Array.setIfInBounds_comm _ _ hji]
  exact h3.2.2
theorem readE{i n:Nat}{oi:Oper}{v:Value}{listed L:Array Bool}{a:Act}{w:World}(hi:os[i]? = some oi)(hL:listed.setIfInBounds i true=L)
  (hs:Region.noSelect os.toArray=true) (hf:(Region.free md os.toArray listed i && E.all fun k=>qh0 md os.toArray k i)=true) (hr:(Region.ready md os.toArray listed).contains i=true)
  (hQ:∀ c a w,Q (.panic c) (a.put oi.dst v) w->Q (.panic c) a w) (hS:S w) (hw:Region.wanted oi (yielded os.toArray a.tmps)=true) (hy:∀ w,S w->(execOp a.eval oi).run P w=.ok (.value v) w)
  (h:qa5 P md os.toArray Q S E n L (a.put oi.dst v) w):qa5 P md os.toArray Q S E (n+1) listed a w:=by
 rw [Bool.and_eq_true] at hf
 have hi':os.toArray[i]? = some oi:=by simpa using hi
 exact q1t hi' (Region.noSelect_spec hs) (fun k hk=>List.all_eq_true.1 hf.2 k (by simpa using hk)) hQ n listed a w (Region.free_spec hi' hf.1) (by simpa using hr) (Or.inl ⟨hw,hy⟩) hS (hL▸h)
theorem qzz{i n:Nat}{oi:Oper}{v:Value}{listed L:Array Bool}{a:Act}{w:World}(hi:os[i]? = some oi)(hL:listed.setIfInBounds i true=L)
  (hs:Region.noSelect os.toArray=true) (hf:Region.free md os.toArray listed i=true) (hr:(Region.ready md os.toArray listed).contains i=true)
  (hQ:∀ c a w,Q (.panic c) (a.put oi.dst v) w->Q (.panic c) a w) (hw:Region.wanted oi (yielded os.toArray a.tmps)=true) (hy:∀ w,(execOp a.eval oi).run P w=.ok (.value v) w)
  (h:qa5 P md os.toArray Q S E n L (a.put oi.dst v) w):qa5 P md os.toArray Q S E (n+1) listed a w:=by
 have hi':os.toArray[i]? = some oi:=by simpa using hi
 exact qvi hi' (Region.noSelect_spec hs) hQ n listed a w (Region.free_spec hi' hf) (by simpa using hr) (Or.inl ⟨hw,fun w _=>hy w⟩) (hL▸h)
theorem zE(i:Nat)(L:Array Bool)(v:Value){n:Nat}{oi:Oper}{listed:Array Bool}{a:Act}{w:World}(hi:os[i]? = some oi)(hy:∀ w,(execOp a.eval oi).run P w=.ok (.value v) w)
  (h:qa5 P md os.toArray Q S E n L (a.put oi.dst v) w) (hL:listed.setIfInBounds i true=L:=by rfl)
  (hs:Region.noSelect os.toArray=true:=by kernel_rfl) (hf:Region.free md os.toArray listed i=true:=by kernel_rfl) (hr:(Region.ready md os.toArray listed).contains i=true:=by kernel_rfl)
  (hQ:∀ c a w,Q (.panic c) (a.put oi.dst v) w->Q (.panic c) a w:=by exact fun _ _ _ h=>h) (hw:Region.wanted oi (yielded os.toArray a.tmps)=true:=by rfl):qa5 P md os.toArray Q S E (n+1) listed a w:=qzz hi hL hs hf hr hQ hw hy h
theorem qwz{i n:Nat}{oi:Oper}{listed L:Array Bool}{a:Act}{w:World}(hi:os[i]? = some oi)(hL:listed.setIfInBounds i true=L)
  (hr:Region.ready md os.toArray listed=[i]) (hw:Region.wanted oi (yielded os.toArray a.tmps)=true)
  (h:Oper.wp P oi a w (fun a' w'=>(E.contains i=false->S w->S w')/\qa5 P md os.toArray Q S E n L a' w') Q) :
  qa5 P md os.toArray Q S E (n+1) listed a w:=by
 subst hL
 refine⟨fun h0=>(by rw [hr] at h0; cases h0),fun j hj=>?_⟩
 rw [hr] at hj
 obtain rfl:=List.mem_singleton.1 hj
 refine wpOp_step (by simpa using hi) (fun K' hK=>?_)
 rw [if_pos hw]
 exact Oper.wp_mono (fun a' w' h'=>hK a' w' h') h
theorem q1e{i n:Nat}{oi:Oper}{listed L:Array Bool}{a:Act}{w:World}(hi:os[i]? = some oi)(hL:listed.setIfInBounds i true=L)
  (hr:Region.ready md os.toArray listed=[i]) (hw:Region.wanted oi (yielded os.toArray a.tmps)=true)
  (h:∀ K':Act->World->Prop,Shut (∀ a w',((E.contains i=false->S w->S w')/\qa5 P md os.toArray Q S E n L a w')->K' a w')->Oper.wp P oi a w K' Q) :
  qa5 P md os.toArray Q S E (n+1) listed a w:=by
 subst hL
 refine⟨fun h0=>(by rw [hr] at h0; cases h0),fun j hj=>?_⟩
 rw [hr] at hj
 obtain rfl:=List.mem_singleton.1 hj
 refine wpOp_step (by simpa using hi) (fun K' hK=>?_)
 rw [if_pos hw]
 exact h K' hK
theorem qi0{i j n:Nat}{oi oj:Oper}{listed Li Lj:Array Bool}{a:Act}{w:World}(hi:os[i]? = some oi)(hj:os[j]? = some oj)(hLi:listed.setIfInBounds i true=Li)(hLj:listed.setIfInBounds j true=Lj)
  (hr:Region.ready md os.toArray listed=[i,j]) (hwi:Region.wanted oi (yielded os.toArray a.tmps)=true) (hwj:Region.wanted oj (yielded os.toArray a.tmps)=true)
  (h:∀ K':Act->World->Prop,Shut (∀ a w',((E.contains i=false->S w->S w')/\qa5 P md os.toArray Q S E n Li a w')->K' a w')->Oper.wp P oi a w K' Q)
  (h':∀ K':Act->World->Prop,Shut (∀ a w',((E.contains j=false->S w->S w')/\qa5 P md os.toArray Q S E n Lj a w')->K' a w')->Oper.wp P oj a w K' Q) :
  qa5 P md os.toArray Q S E (n+1) listed a w:=by
 subst hLi
 subst hLj
 refine⟨fun h0=>(by rw [hr] at h0; cases h0),fun m hm=>?_⟩
 rw [hr] at hm
 simp only [List.mem_cons,List.not_mem_nil,or_false] at hm
 rcases hm with rfl|rfl
 . refine wpOp_step (by simpa using hi) (fun K' hK=>?_)
   rw [if_pos hwi]
   exact h K' hK
 refine wpOp_step (by simpa using hj) (fun K' hK=>?_)
 rw [if_pos hwj]
 exact h' K' hK
theorem qf9{o:Oper}{a:Act}{w w':World}{v:Value}{K:Act->World->Prop}(h:(execOp a.eval o).run P w=.ok (.value v) w')(hK:K (a.put o.dst v) w'):o.wp P a w K Q:=by
 unfold Oper.wp
 rw [h]
 exact hK
theorem qa2{L:Array Bool}{a:Act}{w:World}(hr:Region.ready md ops L=[])(h:Q .normal a w):∀ n,qa5 P md ops Q S E n L a w
 | 0=>⟨hr,h⟩
 | _+1=>⟨fun _=>h,by rw [hr]; simp⟩
theorem qxd(S:World->Prop)(E:List Nat){id m:Nat}{L:Array Bool}{a:Act}{w:World}(hm:P.follows .mixedOrders=true)(hsz:os.length=m)(hL:Array.replicate m false=L)
  (h:qa5 P .any os.toArray Q S E m L a w.drew):(Code.region id os.toArray true).wp P Q a w:=by
 subst hsz
 subst hL
 exact wp_region_any hm (ql8 _ _ _ _ h)
def qwj(P:Program)(os:List Oper):List Nat->Act->Act->Prop
 | [],a,b=>a=b
 | i::l,a,b=>∃ oi v,os[i]? = some oi/\YieldsIf P os.toArray (fun _=>True) oi v a/\qwj P os l (a.put oi.dst v) b
theorem zr{i:Nat}{l:List Nat}{a b:Act}{oi:Oper}(v:Value)(hy:∀ w,(execOp a.eval oi).run P w=.ok (.value v) w)(hr:qwj P os l (a.put oi.dst v) b)(hi:os[i]? = some oi:=by rfl)(hw:Region.wanted oi (yielded os.toArray a.tmps)=true:=by rfl):qwj P os (i::l) a b:=⟨oi,v,hi,.inl ⟨hw,fun w _=>hy w⟩,hr⟩
theorem zs{i:Nat}{l:List Nat}{a b:Act}{oi:Oper}(hr:qwj P os l (a.put oi.dst undef) b)(hi:os[i]? = some oi:=by rfl)(hw:Region.wanted oi (yielded os.toArray a.tmps)=false:=by rfl):qwj P os (i::l) a b:=⟨oi,undef,hi,.inr ⟨hw,rfl⟩,hr⟩
def okM(md:Region.Mode)(ops:Array Oper):List Nat->Array Bool->Bool
 | [],_=>true
 | i::l,L=>Region.free md ops L i && ((Region.ready md ops L).contains i && okM md ops l (L.setIfInBounds i true))
def qzt:List Nat->Array Bool->Array Bool
 | [],L=>L
 | i::l,L=>qzt l (L.setIfInBounds i true)
theorem qqc(a:Act)(d:Option Tmp)(v:Value):a.put d v={ a with tmps:=(a.put d v).tmps }:=by cases d<;>rfl
theorem zM0(hs:Region.noSelect os.toArray=true)(hQ:∀ c (a:Act) t w,Q (.panic c) { a with tmps:=t } w->Q (.panic c) a w){w:World}{b:Act}{n:Nat}:∀ (l:List Nat) (a:Act) (L:Array Bool),okM md os.toArray l L=true->qwj P os l a b->qa5 P md os.toArray Q S E n (qzt l L) b w->qa5 P md os.toArray Q S E (n+l.length) L a w
 | [],a,L,_,hr,h=>by rw [show a=b from hr]; exact h
 | i::l,a,L,hk,⟨oi,v,hi,hy,hr⟩,h=>by
  have hi':os.toArray[i]? = some oi:=by simpa using hi
  unfold okM at hk
  simp only [Bool.and_eq_true] at hk
  exact qvi hi' (Region.noSelect_spec hs) (fun c a w hp=>hQ c a (a.put oi.dst v).tmps w (qqc a oi.dst v▸hp)) (n+l.length) L a w (Region.free_spec hi' hk.1) (by simpa using hk.2.1) hy (zM0 hs hQ l _ _ hk.2.2 hr h)
theorem zM(k:Nat)(l:List Nat)(b:Act){L:Array Bool}{a:Act}{w:World}{n:Nat}(h:qa5 P md os.toArray Q S E n (qzt l L) b w)
  (hr:qwj P os l a b:=by (repeat (refine zr ?_ ?_ ?_; rotate_left; (focus (intro w; go_simp; (try with_reducible rfl))); (try simp only [Act.put,zp]))); exact rfl)
  (hs:Region.noSelect os.toArray=true:=by kernel_rfl) (hk:okM md os.toArray l L=true:=by kernel_rfl) (hl:l.length=k:=by rfl)
  (hQ:∀ c (a:Act) t w,Q (.panic c) { a with tmps:=t } w->Q (.panic c) a w:=by exact fun _ _ _ _ h=>h):qa5 P md os.toArray Q S E (n+k) L a w:=hl▸zM0 hs hQ l a L hk hr h
theorem zS(k:Nat)(l:List Nat)(b:Act){L:Array Bool}{a:Act}{w:World}{n:Nat}(h:qa5 P md os.toArray Q S E n (qzt l L) b w)
  (hr:qwj P os l a b:=by (repeat (refine zs ?_; (try simp only [Act.put,zp]))); exact rfl)
  (hs:Region.noSelect os.toArray=true:=by kernel_rfl) (hk:okM md os.toArray l L=true:=by kernel_rfl) (hl:l.length=k:=by rfl)
  (hQ:∀ c (a:Act) t w,Q (.panic c) { a with tmps:=t } w->Q (.panic c) a w:=by exact fun _ _ _ _ h=>h):qa5 P md os.toArray Q S E (n+k) L a w:=hl▸zM0 hs hQ l a L hk hr h
theorem zD(i:Nat)(v:Value){n:Nat}{oi:Oper}{L:Array Bool}{a:Act}{w:World}(hi:os[i]? = some oi)(hy:∀ w,S w->(execOp a.eval oi).run P w=.ok (.value v) w)
  (h:qa5 P md os.toArray Q S E n (L.setIfInBounds i true) (a.put oi.dst v) w)
  (hs:Region.noSelect os.toArray=true:=by kernel_rfl) (hf:(Region.free md os.toArray L i && E.all fun k=>qh0 md os.toArray k i)=true:=by kernel_rfl) (hr:(Region.ready md os.toArray L).contains i=true:=by kernel_rfl)
  (hQ:∀ c a w,Q (.panic c) (a.put oi.dst v) w->Q (.panic c) a w:=by exact fun _ _ _ h=>h) (hS:S w:=by assumption) (hw:Region.wanted oi (yielded os.toArray a.tmps)=true:=by rfl):qa5 P md os.toArray Q S E (n+1) L a w:=readE hi rfl hs hf hr hQ hS hw hy h
theorem zK(i:Nat){n:Nat}{oi:Oper}{L:Array Bool}{a:Act}{w:World}(hi:os[i]? = some oi)
  (h:∀ K':Act->World->Prop,Shut (∀ a w',((E.contains i=false->S w->S w')/\qa5 P md os.toArray Q S E n (L.setIfInBounds i true) a w')->K' a w')->Oper.wp P oi a w K' Q)
  (hr:Region.ready md os.toArray L=[i]:=by kernel_rfl) (hw:Region.wanted oi (yielded os.toArray a.tmps)=true:=by rfl):qa5 P md os.toArray Q S E (n+1) L a w:=q1e hi rfl hr hw h
theorem zB(S:World->Prop)(E:List Nat)(m:Nat){id:Nat}{a:Act}{w:World}(h:qa5 P .any os.toArray Q S E m (Array.replicate m false) a w.drew)(hm:P.follows .mixedOrders=true:=by kernel_rfl)(hsz:os.length=m:=by rfl):(Code.region id os.toArray true).wp P Q a w:=qxd S E hm hsz rfl h
end
theorem qgx{P:Program}{op:Oper}{ev:Operand->Value}{w:World}(ty:TypeId)(x:Operand)(ho:op.op=.load ty x)
  (b o:Nat) (hx:ev x=.pointer (some ⟨b,o,none⟩)) (cs:List Value) (d:TypeDesc) (hc:w.rangeAt b o cs)
  (hu:P.underlying ty=some d) (hd:d.isRow=true) (hi:(P.info? ty).map (·.size)=some cs.length):(execOp ev op).run P w=.ok (.value (.agg cs.toArray)) w:=by
 unfold execOp
 simp only [ho,hx,Instr.loadAt,Instr.sureAddr,Sem.run_bind,Sem.run_pure,Result.andThen_ok,run_loadVar_mid w b o ty cs d hc hu hd hi]
end Go.Proofs.YtmbppgjhdcmckaaGreatDoor
namespace Go.Proofs.YtmbppgjhdcmckaaGreatDoor
open Go.RowKit
namespace Dy
open Dp
theorem qtv{w:World}{g o:Nat}{ws:List Int}(h:Row w g o ws):w.rangeAt g o (ws.map (Value.int .u32)):=fun j v hv=>by
 have hj:j < 74:=by
  have:=h.len
  rcases Nat.lt_or_ge j 74 with h'|h'
  . exact h'
  rw [List.getElem?_eq_none (by simp; omega)] at hv
  cases hv
 rw [h.cell j hj]
 have hl:j < ws.length:=by rw [h.len]; exact hj
 rw [List.getElem?_map,List.getElem?_eq_getElem hl] at hv
 rw [List.getElem?_eq_getElem hl]
 exact hv
theorem qv1(x y c:Nat)(hx:x < 4294967296)(hy:y < 4294967296)(hc:c<=1):∃ d b,d < 4294967296/\b<=1/\x+4294967296*b=d+y+c:=by
 by_cases h:x < y+c
 . exact⟨x+4294967296-y-c,1,by omega,by omega,by omega⟩
 exact⟨x-y-c,0,by omega,by omega,by omega⟩
theorem qbj.of_heap{w w':World}{g:Nat}{ws:List Int}(h:qbj w g ws)(hh:w'.heap[g]? = w.heap[g]?):qbj w' g ws:=⟨hh.trans h.blk,h.len,h.dig⟩
theorem qbj.lt{w:World}{g:Nat}{ws:List Int}(h:qbj w g ws):g < w.heap.size:=(Array.getElem?_eq_some_iff.1 h.blk).1
theorem qi9(w:World)(g:Nat)(ws:List Int)(hW:qbj w g ws) :
  Calls Tryz.prog 174 #[.pointer (some ⟨g,0,none⟩)] w fun e w'=>∃ n:Nat,e=.returned (.int .i64 n)/\qj4 (num 4294967296 ws) n/\n<=2432/\w'=w:=by
 go_enter Tryz.func174,Tryz.ntmps174
 go_wp2
 go_loopw [3] (fun iv wr=>∃ k:Nat,iv=.int .i64 ((k:Int)-1)/\k<=76/\Hid (num 4294967296 (ws.drop k)=0)/\wr=w) (fun iv _=>(intOf iv+1).toNat)
 case atStart=>exact⟨76,rfl,Nat.le_refl _,by rw [Hid,List.drop_eq_nil_of_le (by rw [hW.len]; exact Nat.le_refl _)]; rfl,rfl⟩
 obtain⟨k,rfl,hk,h0,rfl⟩:=hrel
 rcases k with _|k
 . have e0:num 4294967296 ws=0:=by simpa using h0.out
   have E0:=Lib.hid e0
   clear e0
   go_wp2
   go_ret
   exact⟨0,rfl,.inl ⟨E0.out,rfl⟩,by omega,rfl⟩
 have ej:((k+1:Nat):Int)-1=(k:Int):=by omega
 obtain⟨x,hx,hx2⟩:=qa3 (by decide) hW.dig k
 have g1:=hW.cell (j:=k) (by omega)
 rw [hx] at g1
 rw [ej]
 have hk0:(0:Int)<=k:=by omega
 have hk1:(k:Int) < 76:=by omega
 have HX:=Lib.hid hx
 clear hx ej
 by_cases hx0:x=0
 . have hne:((x:Int) != 0)=false:=by simp [hx0]
   have HN:=Lib.hid (qxx (by rw [hW.len]; omega) h0.out HX.out hx0)
   clear hx0
   go_wp2
   go_roundw
   case rel=>exact⟨k,rfl,by omega,HN,by first | rfl | trivial⟩
   case measure=>first | (simp [intOf]; done) | (simp [intOf]; omega)
 have hne:((x:Int) != 0)=true:=by simpa using (show ¬ (x:Int)=0 by omega)
 obtain⟨y1,y2,y3,y4⟩:=qhq x hx0 hx2
 have HN:=Lib.hid (q0d hW.dig (by rw [hW.len]; omega) h0.out HX.out y1 y2 y3)
 clear hx0 y2 y3
 go_wp2_with fail
 refine (qj3 _ x (by omega) (by omega)).mono ?_
 rintro e w2 ⟨rfl,rfl⟩
 rw [Int.toNat_natCast]
 obtain⟨b,hb⟩:∃ b,Lib.bitLen x=b:=⟨_,rfl⟩
 rw [hb] at y1 y4 HN ⊢
 clear hb
 go_wp2
 go_ret
 exact⟨32*k+b,by first | (congr 2; done) | (congr 2; push_cast; first | rfl | omega),HN.out,by omega,rfl⟩
theorem qln(w:World)(g:Nat)(ws:List Int)(hW:qbj w g ws)(v:Nat)(hv:num 4294967296 ws+1=v)(hlt:v < 4294967296^76) :
  Calls Tryz.prog 134 #[.pointer (some ⟨g,0,none⟩)] w fun e w'=>e=.returned (.tuple #[])/\qbq g w w'/\∃ vs,qbj w' g vs/\num 4294967296 vs=v:=by
 have HLT:=Lib.hid hlt
 have HV:=Lib.hid hv
 clear hlt hv
 go_enter Tryz.func134,Tryz.ntmps134
 go_wp2
 go_loopw [2,3] (fun _ iv wr=>∃ (i:Nat) (cur:List Int),iv=.int .i64 i/\i<=76/\qbj wr g cur/\qbq g w wr/\Hid (num 4294967296 cur+4294967296^i=v)) (fun _ iv _=>76-(intOf iv).toNat)
 case atStart=>exact⟨0,ws,rfl,by omega,hW,qbq.refl _ _,by rw [Hid,Nat.pow_zero]; exact HV.out⟩
 obtain⟨i,cur,rfl,hi,hC,hO,hN⟩:=hrel
 by_cases hlt:i < 76
 . obtain⟨x,hx,hx2⟩:=qa3 (by decide) hC.dig i
   have c1:=hC.cell hlt
   have f1:=hC.free i
   rw [hx] at c1
   have hk0:(0:Int)<=i:=by omega
   have hk1:(i:Int) < 76:=by omega
   obtain⟨q1,q2⟩:=qxo (by rw [hC.len]; exact hlt) hx v hN.out
   clear hx
   by_cases hxe:x+1=4294967296
   . have hy:((x:Int)+1)%4294967296=0:=by omega
     have Q:=Lib.hid (q2 hxe)
     clear q1 q2
     have hC2:=hC.set i 0 (by decide)
     have d1:=hC2.cell (j:=i) hlt
     have e1:(cur.set i ((0:Nat):Int))[i]?.getD 0=0:=by simp [hC.len,hlt]
     rw [e1] at d1
     clear e1
     go_wp2_with fail
     go_region
     all_goals go_wp2
     all_goals go_roundw
     case rel=>exact⟨i+1,cur.set i 0,by go_num,by omega,(hC.set i 0 (by decide)).of_heap rfl,(hO.setCell _).drew,Q⟩
     case measure=>first | (simp [intOf]; done) | (simp [intOf]; omega)
   have hy:((x:Int)+1)%4294967296=((x+1:Nat):Int):=by omega
   have hyn:(((x+1:Nat):Int) != 0)=true:=by simpa using (show ¬ ((x+1:Nat):Int)=0 by omega)
   have Q:=Lib.hid (q1 (by omega))
   clear q1 q2
   go_wp2_with fail
   go_region
   all_goals go_wp2
   all_goals refine bodyPost_ret (results_none rfl _ _ _) rfl ?_
   all_goals exact⟨rfl,(hO.setCell _).drew,cur.set i ((x+1:Nat):Int),(hC.set i (x+1) (by omega)).of_heap rfl,Q.out⟩
 obtain rfl:i=76:=by omega
 exfalso
 have h1:=hN.out
 have h2:=HLT.out
 generalize 4294967296^76=b at *
 omega
theorem q1m(x c:Nat)(_hx:x < 4294967296)(hc:c<=1):bits .or .u32 ((2*x%4294967296:Nat):Int) (c:Int)=((2*x%4294967296+c:Nat):Int):=by
 rw [u32_or_nat _ _ (by omega) (by omega)]
 have h3:2*x%4294967296%2^1=0:=by omega
 rw [nat_join 1 (2*x%4294967296) c h3 (by omega)]
theorem qum(w:World)(g g':Nat)(hne:g≠g')(ws us:List Int)(hW:qbj w g ws)(hU:qbj w g' us)(d:Nat)(hd:d<=1)(s:Nat)(hs:2*num 4294967296 ws+d=s)(hlt:s < 4294967296^76)(q r:Nat)(hq:(if num 4294967296 us<=s then 1 else 0)=q)(hr:(if num 4294967296 us<=s then s-num 4294967296 us else s)=r) :
  Calls Tryz.prog 198 #[.pointer (some ⟨g,0,none⟩),.int .u32 d,.pointer (some ⟨g',0,none⟩)] w fun e w'=>e=.returned (.int .u32 q)/\qbq g w w'/\∃ vs,qbj w' g vs/\num 4294967296 vs=r:=by
 have HS:=Lib.hid hs
 have HLT:=Lib.hid hlt
 have HQ:=Lib.hid hq
 have HR:=Lib.hid hr
 have hwl:=Lib.hid hW.len
 have hul:=Lib.hid hU.len
 have hud:=Lib.hid hU.dig
 have hlt':=hW.lt
 have hgt':=hU.lt
 clear hs hlt hq hr
 go_enter Tryz.func198,Tryz.ntmps198
 go_wp2
 go_loopw [1,7,10] (fun dv _ iv wr=>∃ (i c:Nat) (cur:List Int),dv=.int .u32 c/\iv=.int .i64 i/\c<=1/\i<=76/\qbj wr g cur/\qbq g w wr/\Hid (cur.drop i=ws.drop i)/\Hid (num 4294967296 (cur.take i)+4294967296^i*c=2*num 4294967296 (ws.take i)+d)) (fun _ _ iv _=>76-(intOf iv).toNat)
 case atStart=>exact⟨0,d,ws,rfl,rfl,hd,by omega,hW,qbq.refl _ _,rfl,by simp [Hid,num]⟩
 obtain⟨i,c,cur,rfl,rfl,hc,hi,hC,hO,hdr,hnm⟩:=hrel
 by_cases hlt:i < 76
 . obtain⟨x,hx,hx2⟩:=qa3 (by decide) hC.dig i
   have c1:=hC.cell hlt
   have f1:=hC.free i
   rw [hx] at c1
   have hk0:(0:Int)<=i:=by omega
   have hk1:(i:Int) < 76:=by omega
   obtain⟨p1,p2,p3⟩:=qw4 (ys:=cur) ((qvq hdr.out).symm.trans hx) hx2 hc hnm.out (by rw [hC.len]; exact hlt)
   have P3:=Lib.hid p3
   have DR:=fun v:Int=>qvp (v:=v) (by rw [hC.len]; exact hlt) hdr.out
   replace DR:=Lib.hid DR
   clear hx p3
   have e2:(x:Int)/2147483648=((x/2147483648:Nat):Int):=by omega
   have e3:=q1m x c hx2 hc
   rw [show ((2*x%4294967296:Nat):Int)=(x:Int)*2%4294967296 by omega] at e3
   obtain⟨y,hy⟩:∃ y,2*x%4294967296+c=y:=⟨_,rfl⟩
   obtain⟨t,ht⟩:∃ t,x/2147483648=t:=⟨_,rfl⟩
   rw [hy] at e3 p1 P3
   rw [ht] at e2 p2 P3
   clear hy ht
   go_wp2_with fail
   go_region
   all_goals go_wp2
   all_goals go_roundw
   case rel=>exact⟨i+1,t,cur.set i (y:Int),rfl,by go_num,p2,by omega,(hC.set i y p1).of_heap rfl,(hO.setCell _).drew,DR.out _,P3⟩
   case measure=>first | (simp [intOf]; done) | (simp [intOf]; omega)
 obtain rfl:i=76:=by omega
 have hcs:Hid (num 4294967296 cur=s):=Lib.hid (by
  have h1:=hnm.out
  rw [List.take_of_length_le (by rw [hC.len]; exact Nat.le_refl _),List.take_of_length_le (by rw [hwl.out]; exact Nat.le_refl _),HS.out] at h1
  have h2:=HLT.out
  generalize 4294967296^76=b at *
  have hc0:c=0∨c=1:=by omega
  rcases hc0 with rfl|rfl<;>omega)
 clear hdr hnm
 have hU1:qbj wr g' us:=hU.of_heap (hO.block g' hgt' (Ne.symm hne))
 by_cases hle:num 4294967296 us<=s
 . have hq1:q=1:=by rw [<-HQ.out,if_pos hle]
   have hr1:=HR.out
   rw [if_pos hle] at hr1
   subst hq1
   have HR1:=Lib.hid hr1
   have HLE:=Lib.hid hle
   have hbl:decide (num 4294967296 cur < num 4294967296 us)=false:=by rw [hcs.out]; simpa using hle
   have HBL:=Lib.hid hbl
   clear hr1 hle hbl HQ HR
   obtain⟨w1,hw1⟩:∃ W:World,W=wr:=⟨_,rfl⟩
   subst hw1
   go_wp2_with fail
   refine (qk1 w1 g 0 g' 0 cur us hC.row hU1.row false HBL.out).mono ?_
   rintro e w2 ⟨rfl,m,rfl⟩
   have hC2:=hC.of_heap (w':=w1.drewN m) rfl
   have hU2:=hU1.of_heap (w':=w1.drewN m) rfl
   have hO2:=hO.drewN m
   clear hC hU1 hO
   generalize w1.drewN m=w3 at *
   go_wp2_with fail
   go_loopw [8,9,35] (fun cv _ iv wr=>∃ i c:Nat,∃ now:List Int,cv=.int .u32 c/\iv=.int .i64 i/\c<=1/\i<=76/\qbj wr g now/\qbj wr g' us/\qbq g w wr/\Hid (now.drop i=cur.drop i)/\Hid (num 4294967296 (cur.take i)+4294967296^i*c=num 4294967296 (now.take i)+num 4294967296 (us.take i))) (fun _ _ iv _=>76-(intOf iv).toNat)
   case atStart=>exact⟨0,0,cur,rfl,rfl,by omega,by omega,hC2,hU2,hO2,rfl,by simp [Hid,num]⟩
   have hcl:=Lib.hid hC2.len
   have hcd:=Lib.hid hC2.dig
   clear hC2 hU2 hO2
   obtain⟨i,cc,now,rfl,rfl,hc1,hi,hN,hUr,hOr,hdrop,hnum⟩:=hrel
   by_cases hlt:i < 76
   . obtain⟨x,hx,hx2⟩:=qa3 (by decide) hN.dig i
     obtain⟨y,hy,hy2⟩:=qa3 (by decide) hud.out i
     have c1:=hN.cell hlt
     have c2:=hUr.cell hlt
     have f1:=hN.free i
     rw [hx] at c1
     rw [hy] at c2
     have hk0:(0:Int)<=i:=by omega
     have hk1:(i:Int) < 76:=by omega
     have HX:=Lib.hid hx
     have HY:=Lib.hid hy
     clear hx hy
     obtain⟨d2,b,hd2,hb,hdb⟩:=qv1 x y cc hx2 hy2 hc1
     have HD:=Lib.hid hdb
     clear hdb
     go_wp2
     go_region_law (first
      | (go_simp; go_at_call 209; refine (qwh _ x y cc d2 b hx2 hy2 hd2 hc1 hb HD.out).mono ?_; rintro e w' ⟨rfl,rfl⟩))
     all_goals go_wp2
     all_goals go_roundw
     all_goals first
      | exact⟨i+1,b,now.set i (d2:Int),rfl,by go_num,hb,by omega,(hN.set i d2 hd2).of_heap rfl,(hUr.of_heap (heap_setCell_other _ _ _ _ (by simp; omega))).of_heap rfl,(hOr.setCell _).drew,
        qvp (by rw [hN.len]; exact hlt) hdrop.out,by rw [Hid]; exact qyc (by rw [hN.len]; exact hlt) hnum.out ((qvq hdrop.out).symm.trans HX.out) HY.out HD.out⟩
      | (simp [intOf]; omega)
   obtain rfl:i=76:=by omega
   have hend:=qyd (by decide) hN.dig hN.len hcl.out hul.out hnum.out (by rw [hcs.out]; exact HLE.out)
   rw [hcs.out,HR1.out] at hend
   have HE:=Lib.hid hend
   clear hend hnum hdrop
   go_wp2
   go_ret
   exact⟨rfl,hOr,now,hN,HE.out⟩
 have hq0:q=0:=by rw [<-HQ.out,if_neg hle]
 have hr1:=HR.out
 rw [if_neg hle] at hr1
 subst hq0
 have HR1:=Lib.hid (hcs.out.trans hr1)
 have hbl:decide (num 4294967296 cur < num 4294967296 us)=true:=by rw [hcs.out]; simpa using (show s < num 4294967296 us by omega)
 have HBL:=Lib.hid hbl
 clear hr1 hle hbl HQ HR
 go_wp2_with fail
 refine (qk1 wr g 0 g' 0 cur us hC.row hU1.row true HBL.out).mono ?_
 rintro e w2 ⟨rfl,m,rfl⟩
 go_wp2
 go_ret
 exact⟨rfl,hO.drewN m,cur,hC.of_heap rfl,HR1.out⟩
end Dy
end Go.Proofs.YtmbppgjhdcmckaaGreatDoor
namespace Go.Proofs.YtmbppgjhdcmckaaGreatDoor
open Go.RowKit
structure qfr(O O':Nat->Prop)(W W':World):Prop where
 size:W.heap.size<=W'.heap.size
 same:∀ k cs t z,¬ O k->W.heap[k]? = some (.cells cs t z)->W'.heap[k]? = some (.cells cs t z)
 new:∀ k,O' k->O k∨(W.heap.size<=k/\k < W'.heap.size)
theorem qfr.refl(O:Nat->Prop)(W:World):qfr O O W W:=⟨Nat.le_refl _,fun _ _ _ _ _ h=>h,fun _ h=>.inl h⟩
theorem qfr.trans{O O' O'':Nat->Prop}{A B C:World}(h:qfr O O' A B)(k:qfr O' O'' B C):qfr O O'' A C where
 size:=Nat.le_trans h.size k.size
 same i cs t z hi hA:=by
  refine k.same i cs t z (fun hO=>?_) (h.same i cs t z hi hA)
  rcases h.new i hO with h1|h1
  . exact hi h1
  have:=(Array.getElem?_eq_some_iff.1 hA).1
  omega
 new i hi:=by
  rcases k.new i hi with h1|h1
  . rcases h.new i h1 with h2 | h2
    . exact .inl h2
    exact .inr ⟨h2.1,Nat.lt_of_lt_of_le h2.2 k.size⟩
  exact .inr ⟨Nat.le_trans h.size h1.1,h1.2⟩
theorem qfr.put(O:Nat->Prop){W:World}{l:Nat}{o:Obj}(o':Obj)(hl:W.heap[l]? = some o)(ho:o.isCells=false):qfr O O W (W.putObj l o') where
 size:=by simp
 same k cs t z _ hk:=(World.putObj_heap_other (fun e=>by subst e; rw [hl] at hk; cases hk; cases ho)).trans hk
 new _ h:=.inl h
def qwo{β:Type}(g:Nat)(J:β->(Nat->Prop)->World->Prop):Prop:=∀ s O W W' row,J s O W->W.grownBy W' row->(∀ r,row=some r->r=g)->J s O W'
def qpt(D:Nat)(r:Loop)(W:World):Prop:=W.heap[D+1]? = some (.loop r)/\W.heap[D]? = some (.deferred (some []))
theorem qpt.lt{D:Nat}{r:Loop}{W:World}(h:qpt D r W):D+1 < W.heap.size:=(Array.getElem?_eq_some_iff.1 h.1).1
theorem qpt.grown{D:Nat}{r:Loop}{W W':World}{row:Option Nat}(h:qpt D r W)(hg:W.grownBy W' row)(hr:∀ k,row=some k->k < D):qpt D r W':=by
 have hl:=h.lt
 exact⟨(hg.block _ hl (fun e=>by have:=hr _ e.symm; omega)).trans h.1,(hg.block _ (by omega) (fun e=>by have:=hr _ e.symm; omega)).trans h.2⟩
theorem qpt.put{D:Nat}{r:Loop}{W:World}(h:qpt D r W)(r':Loop):qpt D r' (W.putObj (D+1) (.loop r')) :=
 ⟨World.putObj_heap_same h.lt,(World.putObj_heap_other (by omega)).trans h.2⟩
theorem qpt.keeps{D:Nat}{r:Loop}{W W':World}(h:qpt D r W)(hk:KeepsFrom D W W'):qpt D r W' :=
 ⟨hk.same _ _ (by omega) h.1 rfl,hk.same _ _ (Nat.le_refl _) h.2 rfl⟩
variable {F:Fence} {n:Nat} {P:Program}
theorem qgh{D:Nat}{r:Loop}{W:World}(h:qpt D r W)(jump:Option Code) :
  (Instr.endRound (D+1) jump).run P W=.ok (.bool jump.isNone) (W.putObj (D+1) (.loop { r with state:=if jump.isNone then .ready else .done,pending:=jump })):=run_endRound jump h.1
end Go.Proofs.YtmbppgjhdcmckaaGreatDoor
namespace Go.Proofs.YtmbppgjhdcmckaaGreatDoor
open Go.RowKit
def qpi{α:Type}(G:List α->α->Prop)(F:Fence)(n:Nat)(P:Program)(f:Nat)(lb:Array Value)(encs:α->Array Value)(S Sp:List α->Prop)(N:Nat)(Prot:Nat->Prop)(g:Nat)(w:World):Prop :=
 ∀ (l:Nat) (J Jx:List α->(Nat->Prop)->World->Prop) (O0:Nat->Prop) (W:World),Below w.heap.size w W->qwo g J->qwo g Jx->(∀ k,Prot k->¬ O0 k)->(∀ k,O0 k->k < W.heap.size) ->
  (∀ pre x O W1,G pre x->J pre O W1->pre.length < N->YieldAt F (n-1) P l (encs x) W1 fun e W' =>
   (e=.returned (.bool true)/\∃ O',J (pre++[x]) O' W'/\qfr O O' W1 W')∨(e=.returned (.bool false)/\∃ O',Jx (pre++[x]) O' W'/\qfr O O' W1 W')) ->
  J [] O0 W ->
  CallsIn F n P f (#[.func (.yield l) #[] #[]]++lb) W fun e W'=>(∃ v,e=.returned v)/\((∃ xs O,S xs/\J xs O W')∨(∃ pre O,Sp pre/\Jx pre O W'))
def qw5{α:Type}(B:Nat)(I:List α->(Nat->Prop)->World->Prop)(Ix:Code->List α->(Nat->Prop)->World->Prop)(xs:List α)(O:Nat->Prop)(W:World):Exit->Act->World->Prop
 | .normal,_,W'=>KeepsFrom B W W'/\∃ O',qfr O O' W W'/\I xs O' W'
 | .ret,_,W'=>KeepsFrom B W W'/\∃ O',qfr O O' W W'/\Ix .ret xs O' W'
 | .exit id,_,W'=>KeepsFrom B W W'/\∃ O',qfr O O' W W'/\Ix (.exit id) xs O' W'
 | .goto t,_,W'=>KeepsFrom B W W'/\∃ O',qfr O O' W W'/\Ix (.goto t) xs O' W'
 | .panic _,_,_=>False
 | .outgrown,_,_=>False
variable {F:Fence} {n:Nat} {P:Program}
theorem qb3{α:Type}{gop:Operand}{ps:Array Tmp}{assign body:Code}{Q:Exit->Act->World->Prop}{a:Act}{w:World}
  (hro:F.round=none) (h1:1<=n) {gf:Nat} {lb:Array Value} (hg:a.eval gop=.func (.func gf) #[] lb) (hFg:F.fn gf) (eg:∀ args w,(callFunc gf args).run P w=.ok (.enter gf args) w)
  {encs:α->Array Value} {S Sp:List α->Prop} {N:Nat} {Prot:Nat->Prop} {g:Nat} {G:List α->α->Prop} (hseq:qpi G F (n-1) P gf lb encs S Sp N Prot g w) (hgl:g < w.heap.size) (hps:∀ x,(encs x).size=ps.size)
  (I:List α->(Nat->Prop)->World->Prop) (Ix:Code->List α->(Nat->Prop)->World->Prop) (hI:∀ O,OwnFrom w.heap.size (fun s W=>I s O W)) (hIx:∀ c O,OwnFrom w.heap.size (fun s W=>Ix c s O W)) (hIg:qwo g I) (hIxg:∀ c,qwo g (Ix c))
  (O0:Nat->Prop) (hO0:∀ k,Prot k->¬ O0 k) (hOl:∀ k,O0 k->k < w.heap.size) (h0:I [] O0 w) (Ax:α->Act->World->Prop) (hAx:∀ x a',OwnFrom w.heap.size (fun (_:Unit) W=>Ax x a' W))
  (hassign:∀ (l:Nat) (pre:List α) (x:α) (O:Nat->Prop) (W:World) (K:Act->World->Prop),G pre x->w.heap.size < W.heap.size->I pre O W->(∀ a' W',KeepsFrom w.heap.size W W'->qfr O O W W'->I pre O W'->Ax x a' W'->K a' W') ->
   assign.wpIn (F.inRound l) (n-1-1) P (Exit.then K (fun _ _ _=>False)) { tmps:=(ps.zip (encs x)).foldl (fun t (p,v)=>t.setIfInBounds p v) a.tmps,defers:=[] } W)
  (hbody:∀ (l:Nat) (pre:List α) (x:α) (O:Nat->Prop) (a':Act) (W:World),G pre x->w.heap.size < W.heap.size->I pre O W->Ax x a' W->pre.length < N->body.wpIn (F.inRound l) (n-1-1) P (qw5 w.heap.size I Ix (pre++[x]) O W) a' W)
  (hdone:∀ (D:Nat) (xs:List α) (O:Nat->Prop) (W:World),w.heap.size<=D->S xs->I xs O W->W.heap[D]? = some (.deferred (some []))->Q .normal { a with defers:={ target:=.collected D,args:=#[] }::a.defers } W)
  (hstop:∀ (D:Nat) (c:Code) (pre:List α) (O:Nat->Prop) (W:World),w.heap.size<=D->Sp pre->Ix c pre O W->W.heap[D]? = some (.deferred (some []))->c.wpIn F n P Q { a with defers:={ target:=.collected D,args:=#[] }::a.defers } W) :
  (Code.rangeFunc gop ps assign body).wpIn F n P Q a w:=by
 refine wpIn_rangeFunc fun fn hfn=>?_
 rw [hro]
 obtain⟨D,hD⟩:∃ D,w.heap.size=D:=⟨_,rfl⟩
 obtain⟨rec,hrec⟩:∃ rec:LoopState->Option Code->Loop,rec=fun st pe=>{ state:=st,pending:=pe,fn,tmps:=a.tmps,params:=ps,assign,body,defers:=D }:=⟨_,rfl⟩
 obtain⟨W1,hW1⟩:∃ W1,(w.alloc (.deferred (some []))).alloc (.loop (rec .ready none))=W1:=⟨_,rfl⟩
 have hbk:qpt D (rec .ready none) W1:=by
  refine⟨?_,?_⟩
  . have:=World.alloc_heap_new (w.alloc (.deferred (some []))) (.loop (rec .ready none))
    rw [World.size_alloc,hD,hW1] at this
    exact this
  rw [<-hW1,<-hD]
  exact (Below.heap_alloc _ _ _ (by simp)).trans (World.alloc_heap_new w _)
 have hI1:I [] O0 W1:=by
  rw [<-hW1]
  exact (hI O0).alloc _ ((hI O0).alloc _ h0)
 have hb1:Below w.heap.size w W1:=by
  rw [<-hW1]
  exact ((Below.refl _ w).alloc (Nat.le_refl _) _).alloc (by simp) _
 have hs1:=hb1.size
 have henter:=run_enterLoop_outer (P:=P) (w:=w) fn a.tmps ps assign body
 rw [hD] at henter
 refine⟨D+1,[{ target:=.collected D,args:=#[] }],W1,{ target:=.fn (.func gf) lb,args:=#[.func (.yield (D+1)) #[] #[]] },W1,gf,
  #[.func (.yield (D+1)) #[] #[]]++lb,W1,?_,?_,?_,?_,fun _=>h1,?_⟩
 . rw [henter,<-hW1,hrec]
 . simp only [resolve,hg]
   simp [go_sem]
 . intro f' hf'
   simp [Target.leads] at hf'
   subst hf'
   exact hFg
 . simp [invoke,go_sem,eg]
 refine (hseq (D+1) (fun pre O W=>I pre O W/\qpt D (rec .ready none) W) (fun pre O W=>∃ c,Ix c pre O W/\qpt D (rec .done (some c)) W) O0 W1 hb1
  (fun s O A B row hs hg' hr=>⟨hIg s O A B row hs.1 hg' hr,hs.2.grown hg' (fun k e=>by have:=hr k e; omega)⟩)
  (fun s O A B row hs hg' hr=>by
   obtain⟨c,hc,hk⟩:=hs
   exact⟨c,hIxg c s O A B row hc hg' hr,hk.grown hg' (fun k e=>by have:=hr k e; omega)⟩)
  hO0 (fun k hk=>Nat.lt_of_lt_of_le (hOl k hk) hs1) ?_ ⟨hI1,hbk⟩).mono ?_
 . rintro pre x O W hgx ⟨hi,hk⟩ hlen
   have hy:=run_yield (P:=P) (args:=encs x) hk.1 (by rw [hrec]; exact hps x)
   rw [hrec] at hy
   refine⟨fn,_,assign,body,hy,roundIn_of_wpIn hfn (hassign _ pre x O W _ hgx (by have:=hk.lt; omega) hi ?_)⟩
   clear hy
   intro a' Wa hka hga hia hax
   rw [hD] at hka
   have hk:=hk.keeps hka
   refine⟨_,run_beginRound hk.1 (by rw [hrec]),?_⟩
   have hk2:=hk.put { rec .ready none with state:=.busy }
   have hg2:qfr O O W (Wa.putObj (D+1) (.loop { rec .ready none with state:=.busy })):=hga.trans (qfr.put O _ hk.1 rfl)
   have hlt:=hk.lt
   refine wpIn_mono (hbody _ pre x O a' _ hgx (by simp; omega) ((hI O).putObj _ hia (by omega) hk.1 rfl) ((hAx x a').putObj (s:=()) _ hax (by omega) hk.1 rfl) hlen) ?_
   rw [hD]
   have hrd:∀ jump:Option Code,{ { rec .ready none with state:=.busy } with state:=if jump.isNone then .ready else .done,pending:=jump }=rec (if jump.isNone then .ready else .done) jump:=by
    intro jump
    rw [hrec]
   rintro e a3 W3 hp
   cases e with
   | normal =>
    obtain⟨hk3,O',hg3,hi3⟩:=hp
    have hb3:=hk2.keeps hk3
    have hr:=qgh (P:=P) hb3 none
    rw [hrd] at hr
    exact⟨_,_,hr,.inl ⟨rfl,O',⟨(hI O').putObj _ hi3 (by omega) hb3.1 rfl,hb3.put _⟩,(hg2.trans hg3).trans (qfr.put O' _ hb3.1 rfl)⟩⟩
   | ret =>
    obtain⟨hk3,O',hg3,hi3⟩:=hp
    have hb3:=hk2.keeps hk3
    have hr:=qgh (P:=P) hb3 (some .ret)
    rw [hrd] at hr
    exact⟨_,_,hr,.inr ⟨rfl,O',⟨.ret,(hIx _ O').putObj _ hi3 (by omega) hb3.1 rfl,hb3.put _⟩,(hg2.trans hg3).trans (qfr.put O' _ hb3.1 rfl)⟩⟩
   | exit id =>
    obtain⟨hk3,O',hg3,hi3⟩:=hp
    have hb3:=hk2.keeps hk3
    have hr:=qgh (P:=P) hb3 (some (.exit id))
    rw [hrd] at hr
    exact⟨_,_,hr,.inr ⟨rfl,O',⟨.exit id,(hIx _ O').putObj _ hi3 (by omega) hb3.1 rfl,hb3.put _⟩,(hg2.trans hg3).trans (qfr.put O' _ hb3.1 rfl)⟩⟩
   | goto t =>
    obtain⟨hk3,O',hg3,hi3⟩:=hp
    have hb3:=hk2.keeps hk3
    have hr:=qgh (P:=P) hb3 (some (.goto t))
    rw [hrd] at hr
    exact⟨_,_,hr,.inr ⟨rfl,O',⟨.goto t,(hIx _ O').putObj _ hi3 (by omega) hb3.1 rfl,hb3.put _⟩,(hg2.trans hg3).trans (qfr.put O' _ hb3.1 rfl)⟩⟩
   | panic ch=>exact hp.elim
   | outgrown=>exact hp.elim
 rintro e W2 ⟨⟨v,rfl⟩,(⟨xs,O,hS,hi,hk⟩|⟨pre,O,hSp,c,hi,hk⟩)⟩
 . exact⟨none,_,by have:=run_endLoop (P:=P) hk.1 (by rw [hrec]; simp); rw [hrec] at this; exact this,hdone D xs O _ (by omega) hS ((hI O).putObj _ hi (by omega) hk.1 rfl) (hk.put _).2⟩
 exact⟨some c,_,by have:=run_endLoop (P:=P) hk.1 (by rw [hrec]; simp); rw [hrec] at this; exact this,hstop D c pre O _ (by omega) hSp ((hIx c O).putObj _ hi (by omega) hk.1 rfl) (hk.put _).2⟩
end Go.Proofs.YtmbppgjhdcmckaaGreatDoor
namespace Go.Proofs.YtmbppgjhdcmckaaGreatDoor
open Go.RowKit
def qf1(o:Oper):Bool:=match o.op with
 | .defer _=>false
 | _=>true
theorem qm3{o:Oper}(h:qf1 o=true):∀ c,o.op≠.defer c:=by
 intro c e
 unfold qf1 at h
 rw [e] at h
 cases h
section
variable {P:Program} {ops:Array Oper} {Q:Exit->Act->World->Prop} {md:Region.Mode} {l n:Nat}
theorem qkd{o:Oper}{a:Act}{w:World}{K:Act->World->Prop}(hnd:qf1 o=true)(h:o.wp P a w K Q):o.wpIn (Fence.wide.inRound l) n P a w K Q:=by
 refine⟨fun _ _=>trivial,?_⟩
 unfold Oper.wp at h
 rw [Oper.semAt_eq _ _ _ (qm3 hnd)]
 generalize (execOp a.eval o).run P w=r at h ⊢
 cases r with
 | ok x w' =>
  cases x with
  | value v=>exact h
  | skip=>exact h
  | defer d=>exact h
  | enter f args=>exact⟨(fun e=>by cases e),CallsIn.inRound l (callsIn_wide.2 h)⟩
  | row row args =>
   refine⟨(fun e=>by cases e),fun c cs _=>?_⟩
   obtain⟨v,w'',r,s⟩:=h c cs
   exact⟨v,w'',r,stepsIn_wide.2 s⟩
  | _=>exact h.elim
 | halt x w' =>
  cases x<;>first | exact h | exact h.elim
theorem qr0{i:Nat}{a:Act}{w:World}{K K':Act->World->Prop}(hnd:ops.all qf1=true)(hQ:∀ a w,¬ Q .outgrown a w)(hK:∀ a w,K a w->K' a w)(h:wpOp P ops Q i K a w):wpOpIn (Fence.wide.inRound l) n P ops Q i K' a w:=by
 unfold wpOp at h
 unfold wpOpIn
 cases ho:ops[i]? with
 | none =>
  rw [ho] at h
  exact hK _ _ h
 | some o =>
  rw [ho] at h
  have hp:qf1 o=true:=by
   obtain⟨hi,he⟩:=Array.getElem?_eq_some_iff.1 ho
   rw [<-he]
   exact (Array.all_eq_true.1 hnd) i hi
  by_cases hw:Region.wanted o (yielded ops a.tmps)=true
  . simp only [hw,if_true] at h ⊢
    rcases h with h|⟨_,a',w',hq⟩
    . exact Oper.wpIn_mono hK (qkd hp h)
    exact absurd hq (hQ a' w')
  simp only [hw] at h ⊢
  exact⟨fun _ _=>trivial,hK _ _ h⟩
theorem qh8(hnd:ops.all qf1=true)(hQ:∀ a w,¬ Q .outgrown a w):∀ (fuel:Nat) (listed:Array Bool) (a:Act) (w:World),
  wpAny P md ops Q fuel listed a w->wpAnyIn (Fence.wide.inRound l) n P md ops Q fuel listed a w
 | 0,_,_,_,h=>h
 | fuel+1,_,_,_,h=>⟨h.1,fun i hi=>qr0 hnd hQ (fun a' w' h'=>qh8 hnd hQ fuel _ a' w' h') (h.2 i hi)⟩
end
section
variable {P:Program} {ops:Array Oper} {os:List Oper} {Q:Exit->Act->World->Prop} {md:Region.Mode} {S:World->Prop} {k:Nat}
def waits(md:Region.Mode)(ops:Array Oper)(k i:Nat):Bool:=match ops[k]? with
 | none=>true
 | some o=>o.after.any fun e=>Region.binds md e && e.on==i
end
end Go.Proofs.YtmbppgjhdcmckaaGreatDoor
namespace Go.Proofs.YtmbppgjhdcmckaaGreatDoor
open Go.RowKit
section
variable {P:Program} {os:List Oper} {Q:Exit->Act->World->Prop} {l n:Nat}
theorem qgi(S:World->Prop)(E:List Nat){id m:Nat}{L:Array Bool}{a:Act}{w:World}(hm:P.follows .mixedOrders=true)(hnd:os.toArray.all qf1=true)(hQ:∀ a w,¬ Q .outgrown a w)(hsz:os.length=m)(hL:Array.replicate m false=L)
  (h:qa5 P .any os.toArray Q S E m L a w.drew):(Code.region id os.toArray true).wpIn (Fence.wide.inRound l) n P Q a w:=by
 subst hsz
 subst hL
 exact wpIn_region_any hm (qh8 hnd hQ _ _ _ _ (ql8 _ _ _ _ h))
end
end Go.Proofs.YtmbppgjhdcmckaaGreatDoor