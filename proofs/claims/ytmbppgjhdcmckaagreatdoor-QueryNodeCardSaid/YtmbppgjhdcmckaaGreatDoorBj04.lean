/- RegionE's way through a region that draws its order, for the body of an iterator (inside a wide fence): a call of yield may be met. No program in sight. -/
import Derived.OrdersIn
import Derived.CallsIn
import Derived.Test.YtmbppgjhdcmckaaGreatDoorBj03
set_option maxHeartbeats 102400000
set_option maxRecDepth 100000
namespace Go.Proofs.YtmbppgjhdcmckaaGreatDoor
open Go.RowKit
section
variable {P:Program} {ops:Array Oper} {os:List Oper} {Q:Exit->Act->World->Prop} {md:Region.Mode} {S:World->Prop} {nf:Nat} {E:List Nat}
theorem qkr{j:Nat}{oi oj:Oper}{v:Value}(hj:ops[j]? = some oj)(hap:oi.apart ops oj=true)
  (hsi:∀ cs b,oi.op≠.select cs b) (hsj:∀ cs b,oj.op≠.select cs b)
  (hQ:∀ c a w,Q (.panic c) (a.put oi.dst v) w->Q (.panic c) a w) {K:Act->World->Prop} {a:Act} {w:World}
  (hy:YieldsIf P ops S oi v a) (h:wpOpIn Fence.wide nf P ops Q j K (a.put oi.dst v) w) :
  wpOpIn Fence.wide nf P ops Q j (fun a' w'=>YieldsIf P ops S oi v a'/\K (a'.put oi.dst v) w') a w:=by
 obtain⟨h1,h2,h3⟩:=Oper.apart_spec hap
 have keep:∀ (a:Act),YieldsIf P ops S oi v a->∀ u,YieldsIf P ops S oi v (a.put oj.dst u):=fun a hy u =>
  hy.of_same (execOp_put oi hsi a oj.dst u h3) (wanted_put oi a oj.dst u h3)
 have keepD:∀ d,YieldsIf P ops S oi v { a with defers:=d::a.defers }:=fun d=>hy.of_same rfl rfl
 unfold wpOpIn at *
 simp only [hj] at *
 rw [wanted_put oj a oi.dst v h1] at h
 split
 . rename_i hw
   simp only [hw,if_true] at h
   unfold Oper.wpIn at *
   refine⟨fun _ _=>trivial,?_⟩
   have h:=h.2
   rw [show Fence.wide.round=none from rfl,Oper.semAt_none,execOp_put oj hsj a oi.dst v h1] at h
   rw [show Fence.wide.round=none from rfl,Oper.semAt_none]
   generalize (execOp a.eval oj).run P w=r at *
   cases r with
   | ok x w' =>
    cases x<;>simp only [Oper.uponIn] at h ⊢
    case value u=>exact⟨keep a hy u,by rw [<-Act.put_comm a v u h2]; exact h⟩
    case skip=>exact⟨keep a hy _,by rw [<-Act.put_comm a v undef h2]; exact h⟩
    case defer d =>
     refine⟨keep _ (keepD d) _,?_⟩
     rw [<-Act.put_comm _ v undef h2,<-Act.put_defers]
     exact h
    case enter f args =>
     refine⟨h.1,CallsIn.mono h.2 fun e w'' he=>?_⟩
     cases e with
     | returned u=>exact⟨keep a hy u,by rw [<-Act.put_comm a v u h2]; exact he⟩
     | panicked c=>exact hQ _ _ _ he
     | outgrown=>exact he
    case row row args=>exact⟨h.1,RowsIn.mono h.2 fun u w'' he=>⟨keep a hy u,by rw [<-Act.put_comm a v u h2]; exact he⟩⟩
    case round l f tmps assign body =>
     refine⟨h.1,RoundIn.mono h.2 fun e w'' he=>?_⟩
     cases e with
     | returned u=>exact⟨keep a hy u,by rw [<-Act.put_comm a v u h2]; exact he⟩
     | panicked c=>exact hQ _ _ _ he
     | outgrown=>exact he
   | halt x w' =>
    cases x<;>simp only [Oper.uponIn] at h ⊢
    case panic u=>exact hQ _ _ _ h
 rename_i hw
 simp only [hw] at h
 exact⟨fun _ _=>trivial,keep a hy _,by rw [<-Act.put_comm a v undef h2]; exact h.2⟩
theorem qgp{i:Nat}{o:Oper}{v:Value}{a:Act}(hi:ops[i]? = some o)(hy:YieldsIf P ops S o v a)
  {K:Act->World->Prop} {w:World} (hS:S w) (h:K (a.put o.dst v) w):wpOpIn Fence.wide nf P ops Q i K a w:=by
 unfold wpOpIn
 simp only [hi]
 rcases hy with ⟨hw,hv⟩|⟨hw,rfl⟩
 . simp only [hw,if_true,Oper.wpIn,show Fence.wide.round=none from rfl,Oper.semAt_none,hv w hS,Oper.uponIn]
   exact⟨fun _ _=>trivial,h⟩
 simp only [hw,Bool.false_eq_true,if_false]
 exact⟨fun _ _=>trivial,h⟩
def qb9(nf:Nat)(P:Program)(md:Region.Mode)(ops:Array Oper)(Q:Exit->Act->World->Prop)(S:World->Prop)(E:List Nat):Nat->Array Bool->Act->World->Prop
 | 0,L,a,w=>Region.ready md ops L=[]/\Q .normal a w
 | n+1,L,a,w=>(Region.ready md ops L=[]->Q .normal a w)/\∀ i∈Region.ready md ops L,wpOpIn Fence.wide nf P ops Q i (fun a' w'=>(E.contains i=false->S w->S w')/\qb9 nf P md ops Q S E n (L.setIfInBounds i true) a' w') a w
theorem qq2:∀ (n:Nat) (L:Array Bool) (a:Act) (w:World),qb9 nf P md ops Q S E n L a w->wpAnyIn Fence.wide nf P md ops Q n L a w
 | 0,_,_,_,h=>h
 | n+1,_,_,_,h=>⟨h.1,fun i hi=>wpOpIn_mono (fun a' w' h'=>qq2 n _ a' w' h'.2) (h.2 i hi)⟩
theorem qlx{L:Array Bool}{j k:Nat}(h:L.getD k true=true):(L.setIfInBounds j true).getD k true=true:=by
 by_cases e:j=k
 . subst e
   rcases Nat.lt_or_ge j L.size with h'|h'
   . simp [h']
   rw [Array.setIfInBounds_eq_of_size_le h']
   exact h
 rw [getD_set_ne true e]
 exact h
theorem q1s{i:Nat}{oi:Oper}{v:Value}(hi:ops[i]? = some oi)(hsel:∀ (j:Nat) (o:Oper) cs b,ops[j]? = some o->o.op≠.select cs b)
  (hQ:∀ c a w,Q (.panic c) (a.put oi.dst v) w->Q (.panic c) a w) :
  ∀ (n:Nat) (L:Array Bool) (a:Act) (w:World),(∀ k,E.contains k=true->L.getD k true=true∨qh0 md ops k i=true) ->
   (∀ j oj,ops[j]? = some oj->j≠i->L.getD j true=false->(∀ e∈oj.after,Region.binds md e=true->e.on≠i)->oi.apart ops oj=true) ->
   i∈Region.ready md ops L->YieldsIf P ops S oi v a->S w->qb9 nf P md ops Q S E n (L.setIfInBounds i true) (a.put oi.dst v) w->qb9 nf P md ops Q S E (n+1) L a w:=by
 intro n
 induction n with
 | zero =>
  intro L a w _ _ hr hy hS H
  refine⟨fun h=>(by rw [h] at hr; cases hr),fun j hj=>?_⟩
  by_cases hji:j=i
  . subst hji
    exact qgp hi hy hS ⟨fun _ h=>h,H⟩
  have:=ready_mono hj hji
  rw [H.1] at this
  cases this
 | succ n ih =>
  intro L a w hw hfree hr hy hS H
  refine⟨fun h=>(by rw [h] at hr; cases hr),fun j hj=>?_⟩
  by_cases hji:j=i
  . subst hji
    exact qgp hi hy hS ⟨fun _ h=>h,H⟩
  have h1:=H.2 j (ready_mono hj hji)
  obtain⟨hjun,oj,hoj,hall⟩:=mem_ready.1 hj
  have hnot:=qfk hoj hr hj
  have h2:=qkr hoj (hfree j oj hoj hji hjun hnot) (fun cs b=>hsel i oi cs b hi) (fun cs b=>hsel j oj cs b hoj) hQ hy h1
  have hjk:E.contains j=false:=by
   cases hc:E.contains j
   . rfl
   rcases hw j hc with k1|k2
   . rw [hjun] at k1
     cases k1
   exact absurd hj (qho k2 hr)
  refine wpOpIn_mono (fun a' w' h3=>⟨h3.2.1,ih (L.setIfInBounds j true) a' w' (fun k hk=>(hw k hk).imp qlx id) (fun m om hm hmi hun hno=>?_) (ready_mono hr (Ne.symm hji)) h3.1 (h3.2.1 hjk hS) ?_⟩) h2
  . refine hfree m om hm hmi ?_ hno
    by_cases hjm:j=m
    . subst hjm
      exact hjun
    rw [getD_set_ne true hjm] at hun
    exact hun
  rw [Array.setIfInBounds_comm _ _ hji]
  exact h3.2.2
theorem qvh{i:Nat}{oi:Oper}{v:Value}(hi:ops[i]? = some oi)(hsel:∀ (j:Nat) (o:Oper) cs b,ops[j]? = some o->o.op≠.select cs b)
  (hQ:∀ c a w,Q (.panic c) (a.put oi.dst v) w->Q (.panic c) a w) :
  ∀ (n:Nat) (L:Array Bool) (a:Act) (w:World),
   (∀ j oj,ops[j]? = some oj->j≠i->L.getD j true=false->(∀ e∈oj.after,Region.binds md e=true->e.on≠i)->oi.apart ops oj=true) ->
   i∈Region.ready md ops L->YieldsIf P ops (fun _=>True) oi v a->qb9 nf P md ops Q S E n (L.setIfInBounds i true) (a.put oi.dst v) w->qb9 nf P md ops Q S E (n+1) L a w:=by
 intro n
 induction n with
 | zero =>
  intro L a w _ hr hy H
  refine⟨fun h=>(by rw [h] at hr; cases hr),fun j hj=>?_⟩
  by_cases hji:j=i
  . subst hji
    exact qgp (S:=fun _=>True) hi hy trivial ⟨fun _ h=>h,H⟩
  have:=ready_mono hj hji
  rw [H.1] at this
  cases this
 | succ n ih =>
  intro L a w hfree hr hy H
  refine⟨fun h=>(by rw [h] at hr; cases hr),fun j hj=>?_⟩
  by_cases hji:j=i
  . subst hji
    exact qgp (S:=fun _=>True) hi hy trivial ⟨fun _ h=>h,H⟩
  have h1:=H.2 j (ready_mono hj hji)
  obtain⟨hjun,oj,hoj,hall⟩:=mem_ready.1 hj
  have hnot:=qfk hoj hr hj
  have h2:=qkr (S:=fun _=>True) hoj (hfree j oj hoj hji hjun hnot) (fun cs b=>hsel i oi cs b hi) (fun cs b=>hsel j oj cs b hoj) hQ hy h1
  refine wpOpIn_mono (fun a' w' h3=>⟨h3.2.1,ih (L.setIfInBounds j true) a' w' (fun m om hm hmi hun hno=>?_) (ready_mono hr (Ne.symm hji)) h3.1 ?_⟩) h2
  . refine hfree m om hm hmi ?_ hno
    by_cases hjm:j=m
    . subst hjm
      exact hjun
    rw [getD_set_ne true hjm] at hun
    exact hun
  rw [Array.setIfInBounds_comm _ _ hji]
  exact h3.2.2
theorem qmu{i n:Nat}{oi:Oper}{v:Value}{listed L:Array Bool}{a:Act}{w:World}(hi:os[i]? = some oi)(hL:listed.setIfInBounds i true=L)
  (hs:Region.noSelect os.toArray=true) (hf:(Region.free md os.toArray listed i && E.all fun k=>listed.getD k true || qh0 md os.toArray k i)=true) (hr:(Region.ready md os.toArray listed).contains i=true)
  (hQ:∀ c a w,Q (.panic c) (a.put oi.dst v) w->Q (.panic c) a w) (hS:S w) (hw:Region.wanted oi (yielded os.toArray a.tmps)=true) (hy:∀ w,S w->(execOp a.eval oi).run P w=.ok (.value v) w)
  (h:qb9 nf P md os.toArray Q S E n L (a.put oi.dst v) w):qb9 nf P md os.toArray Q S E (n+1) listed a w:=by
 have hi':os.toArray[i]? = some oi:=by simpa using hi
 rw [Bool.and_eq_true] at hf
 exact q1s hi' (Region.noSelect_spec hs) hQ n listed a w (fun k hk=>by simpa using List.all_eq_true.1 hf.2 k (by simpa using hk)) (Region.free_spec hi' hf.1) (by simpa using hr) (Or.inl ⟨hw,hy⟩) hS (hL▸h)
theorem pureJ{i n:Nat}{oi:Oper}{v:Value}{listed L:Array Bool}{a:Act}{w:World}(hi:os[i]? = some oi)(hL:listed.setIfInBounds i true=L)
  (hs:Region.noSelect os.toArray=true) (hf:Region.free md os.toArray listed i=true) (hr:(Region.ready md os.toArray listed).contains i=true)
  (hQ:∀ c a w,Q (.panic c) (a.put oi.dst v) w->Q (.panic c) a w) (hw:Region.wanted oi (yielded os.toArray a.tmps)=true) (hy:∀ w,(execOp a.eval oi).run P w=.ok (.value v) w)
  (h:qb9 nf P md os.toArray Q S E n L (a.put oi.dst v) w):qb9 nf P md os.toArray Q S E (n+1) listed a w:=by
 have hi':os.toArray[i]? = some oi:=by simpa using hi
 exact qvh hi' (Region.noSelect_spec hs) hQ n listed a w (Region.free_spec hi' hf) (by simpa using hr) (Or.inl ⟨hw,fun w _=>hy w⟩) (hL▸h)
theorem skipJ{i n:Nat}{oi:Oper}{listed L:Array Bool}{a:Act}{w:World}(hi:os[i]? = some oi)(hL:listed.setIfInBounds i true=L)
  (hs:Region.noSelect os.toArray=true) (hf:Region.free md os.toArray listed i=true) (hr:(Region.ready md os.toArray listed).contains i=true)
  (hQ:∀ c a w,Q (.panic c) (a.put oi.dst undef) w->Q (.panic c) a w) (hw:Region.wanted oi (yielded os.toArray a.tmps)=false)
  (h:qb9 nf P md os.toArray Q S E n L (a.put oi.dst undef) w):qb9 nf P md os.toArray Q S E (n+1) listed a w:=by
 have hi':os.toArray[i]? = some oi:=by simpa using hi
 exact qvh hi' (Region.noSelect_spec hs) hQ n listed a w (Region.free_spec hi' hf) (by simpa using hr) (Or.inr ⟨hw,rfl⟩) (hL▸h)
theorem zMJ0(hs:Region.noSelect os.toArray=true)(hQ:∀ c (a:Act) t w,Q (.panic c) { a with tmps:=t } w->Q (.panic c) a w){w:World}{b:Act}{n:Nat}:∀ (l:List Nat) (a:Act) (L:Array Bool),okM md os.toArray l L=true->qwj P os l a b->qb9 nf P md os.toArray Q S E n (qzt l L) b w->qb9 nf P md os.toArray Q S E (n+l.length) L a w
 | [],a,L,_,hr,h=>by rw [show a=b from hr]; exact h
 | i::l,a,L,hk,⟨oi,v,hi,hy,hr⟩,h=>by
  have hi':os.toArray[i]? = some oi:=by simpa using hi
  unfold okM at hk
  simp only [Bool.and_eq_true] at hk
  exact qvh hi' (Region.noSelect_spec hs) (fun c a w hp=>hQ c a (a.put oi.dst v).tmps w (qqc a oi.dst v▸hp)) (n+l.length) L a w (Region.free_spec hi' hk.1) (by simpa using hk.2.1) hy (zMJ0 hs hQ l _ _ hk.2.2 hr h)
theorem zMJ(k:Nat)(l:List Nat)(b:Act){L:Array Bool}{a:Act}{w:World}{n:Nat}(h:qb9 nf P md os.toArray Q S E n (qzt l L) b w)
  (hr:qwj P os l a b:=by (repeat (refine zr ?_ ?_ ?_; rotate_left; (focus (intro w; go_simp; (try with_reducible rfl))); (try simp only [Act.put,zp]))); exact rfl)
  (hs:Region.noSelect os.toArray=true:=by kernel_rfl) (hk:okM md os.toArray l L=true:=by kernel_rfl) (hl:l.length=k:=by rfl)
  (hQ:∀ c (a:Act) t w,Q (.panic c) { a with tmps:=t } w->Q (.panic c) a w:=by exact fun _ _ _ _ h=>h):qb9 nf P md os.toArray Q S E (n+k) L a w:=hl▸zMJ0 hs hQ l a L hk hr h
theorem zSJ(k:Nat)(l:List Nat)(b:Act){L:Array Bool}{a:Act}{w:World}{n:Nat}(h:qb9 nf P md os.toArray Q S E n (qzt l L) b w)
  (hr:qwj P os l a b:=by (repeat (refine zs ?_; (try simp only [Act.put,zp]))); exact rfl)
  (hs:Region.noSelect os.toArray=true:=by kernel_rfl) (hk:okM md os.toArray l L=true:=by kernel_rfl) (hl:l.length=k:=by rfl)
  (hQ:∀ c (a:Act) t w,Q (.panic c) { a with tmps:=t } w->Q (.panic c) a w:=by exact fun _ _ _ _ h=>h):qb9 nf P md os.toArray Q S E (n+k) L a w:=hl▸zMJ0 hs hQ l a L hk hr h
theorem stepJ{i n:Nat}{oi:Oper}{listed L:Array Bool}{a:Act}{w:World}(hi:os[i]? = some oi)(hL:listed.setIfInBounds i true=L)
  (hr:Region.ready md os.toArray listed=[i]) (hw:Region.wanted oi (yielded os.toArray a.tmps)=true)
  (h:Oper.wpIn Fence.wide nf P oi a w (fun a' w'=>(E.contains i=false->S w->S w')/\qb9 nf P md os.toArray Q S E n L a' w') Q) :
  qb9 nf P md os.toArray Q S E (n+1) listed a w:=by
 subst hL
 refine⟨fun h0=>(by rw [hr] at h0; cases h0),fun j hj=>?_⟩
 rw [hr] at hj
 obtain rfl:=List.mem_singleton.1 hj
 refine wpOpIn_step (by simpa using hi) (fun K' hK=>?_)
 rw [if_pos hw]
 exact Oper.wpIn_mono (fun a' w' h'=>hK a' w' h') h
theorem qp0{i n:Nat}{oi:Oper}{listed L:Array Bool}{a:Act}{w:World}(hi:os[i]? = some oi)(hL:listed.setIfInBounds i true=L)
  (hr:Region.ready md os.toArray listed=[i]) (hw:Region.wanted oi (yielded os.toArray a.tmps)=true)
  (h:∀ K':Act->World->Prop,(∀ a w',((E.contains i=false->S w->S w')/\qb9 nf P md os.toArray Q S E n L a w')->K' a w')->Oper.wpIn Fence.wide nf P oi a w K' Q) :
  qb9 nf P md os.toArray Q S E (n+1) listed a w :=
 stepJ hi hL hr hw (h _ (fun _ _ h=>h))
theorem qvs{L:Array Bool}{a:Act}{w:World}(hr:Region.ready md ops L=[])(h:Q .normal a w):∀ n,qb9 nf P md ops Q S E n L a w
 | 0=>⟨hr,h⟩
 | _+1=>⟨fun _=>h,by rw [hr]; simp⟩
theorem qxc(S:World->Prop)(E:List Nat){id m:Nat}{L:Array Bool}{a:Act}{w:World}(hm:P.follows .mixedOrders=true)(hsz:os.length=m)(hL:Array.replicate m false=L)
  (h:qb9 nf P .any os.toArray Q S E m L a w.drew):(Code.region id os.toArray true).wpIn Fence.wide nf P Q a w:=by
 subst hsz
 subst hL
 exact wpIn_region_any hm (qq2 _ _ _ _ h)
end
end Go.Proofs.YtmbppgjhdcmckaaGreatDoor
namespace Go.Proofs.YtmbppgjhdcmckaaGreatDoor
open Go.RowKit
namespace Dy
open Dp
def qjl(n k:Nat):List Nat:=(List.range (n-k)).map fun j=>n-1-j
theorem qvr(n:Nat):qjl n n=[]:=by simp [qjl]
theorem qjk(n k:Nat):(qjl n k).length=n-k:=by simp [qjl]
theorem qsu{n k:Nat}(h:k < n):qjl n (k+1)++[k]=qjl n k:=by
 unfold qjl
 have e:n-k=n-(k+1)+1:=by omega
 rw [e,List.range_succ,List.map_append]
 congr 1
 simp only [List.map_cons,List.map_nil]
 congr 1
 omega
def q2e(n:Nat)(pre:List Nat)(x:Nat):Prop:=x < n/\pre=qjl n (x+1)
def q2a(X i:Nat):Nat:=X/2^i%2
def encB(X:Nat)(i:Nat):Array Value:=#[.int .i64 (i:Int),.int .u32 (q2a X i:Int)]
theorem qqy{l:List Int}(hd:Dig 4294967296 l){i p:Nat}(hp:l[i/32]?.getD 0=(p:Int)):p/2^(i%32)%2=num 4294967296 l/2^i%2:=by
 have h:=quv hd hp
 have e:(2:Nat)^i=4294967296^(i/32)*2^(i%32):=by
  have e0:4294967296^(i/32)=2^(32*(i/32)):=by rw [Nat.pow_mul]
  rw [e0,<-Nat.pow_add]
  congr 1
  omega
 rw [e,<-Nat.div_div_eq_div_mul,<-h]
 generalize num 4294967296 l/4294967296^(i/32)=q
 have hr:i%32 < 32:=Nat.mod_lt _ (by decide)
 have hb:(4294967296:Nat)=2^(i%32)*(2*2^(31-i%32)):=by
  rw [<-Nat.pow_succ',<-Nat.pow_add,show i%32+(31-i%32+1)=32 by omega]
 rw [hb,Nat.mod_mul_right_div_self,Nat.mod_mul_right_mod]
theorem qwb(p r b:Nat)(hp:p < 4294967296)(h:p/2^r%2=b):bits .and .u32 ((p:Int)/2^r) 1=(b:Int):=by
 have e:((p:Int)/2^r)=((p/2^r:Nat):Int):=by push_cast; rfl
 have hlt:p/2^r < 4294967296:=Nat.lt_of_le_of_lt (Nat.div_le_self _ _) hp
 rw [e]
 have:=u32_and_nat (p/2^r) 1 hlt (by decide)
 rw [show ((1:Nat):Int)=1 from rfl] at this
 rw [this,Nat.and_one_is_mod,h]
theorem qsx(m l gx:Nat)(xs:List Int)(n:Nat)(hn:qj4 (num 4294967296 xs) n)(hn2:n<=2432)(J Jx:List Nat->(Nat->Prop)->World->Prop)
  (hY:∀ pre x O W1,q2e n pre x->J pre O W1->pre.length < n->YieldAt Fence.wide (m-1) Tryz.prog l (encB (num 4294967296 xs) x) W1 fun e W' =>
   (e=.returned (.bool true)/\∃ O',J (pre++[x]) O' W'/\qfr O O' W1 W')∨(e=.returned (.bool false)/\∃ O',Jx (pre++[x]) O' W'/\qfr O O' W1 W'))
  (O0:Nat->Prop) (W:World) (hX:qbj W gx xs) (hO:¬ O0 gx) (h0:J [] O0 W) :
  CallsIn Fence.wide m Tryz.prog 210 #[.func (.yield l) #[] #[],.pointer (some ⟨gx,0,none⟩)] W fun e W'=>(∃ v,e=.returned v) /\
   ((∃ ys O,ys=qjl n 0/\J ys O W')∨(∃ pre O,True/\Jx pre O W')):=by
 have HN:=Lib.hid hn
 clear hn
 have hxd:=Lib.hid hX.dig
 refine callsIn_of_wp Tryz.func210 rfl trivial ?_ rfl
 simp only [Tryz.ntmps210,List.size_toArray,List.length_cons,List.length_nil,Nat.reduceAdd,Nat.reduceSub,Array.replicate_succ,Array.replicate_zero,List.push_toArray,List.append_toArray,List.nil_append,List.cons_append]
 gi_wp2_with fail
 refine⟨trivial,(fun h=>by cases h),(callsIn_wide.2 (qi9 W gx xs hX)).mono ?_⟩
 rintro e w2 ⟨n',rfl,hn',_,rfl⟩
 obtain rfl:n'=n:=qj4.uniq hn' HN.out
 clear hn'
 gi_wp2
 gi_loopw [3] (fun iv wr=>∃ (k:Nat) (O:Nat->Prop),iv=.int .i64 ((k:Int)-1)/\k<=n'/\qbj wr gx xs/\Hid (¬ O gx)/\J (qjl n' k) O wr) (fun iv _=>(intOf iv+1).toNat)
 case atStart=>exact⟨n',O0,rfl,Nat.le_refl _,hX,Lib.hid hO,by rw [qvr]; exact h0⟩
 clear hX hO h0
 obtain⟨k,O,rfl,hk,hX,hO,hJ⟩:=hrel
 rcases k with _|k
 . gi_wp2
   go_end0
   exact⟨⟨_,rfl⟩,.inl ⟨_,O,rfl,hJ⟩⟩
 have ej:((k+1:Nat):Int)-1=(k:Int):=by omega
 rw [ej]
 obtain⟨p,hp,hp2⟩:=qa3 (by decide) hX.dig (k/32)
 have g1:=hX.cell (j:=k/32) (by omega)
 rw [hp] at g1
 obtain⟨b,hb⟩:∃ b,q2a (num 4294967296 xs) k=b:=⟨_,rfl⟩
 have hand:=qwb p (k%32) b hp2 ((qqy hX.dig hp).trans hb)
 have hk0:(0:Int)<=k:=by omega
 have hk1:(k:Int)/32 < 76:=by omega
 have hk2:(0:Int)<=(k:Int)/32:=by omega
 obtain⟨fn,tmps,assign,body,hy,hR⟩:=hY _ k O wr ⟨by omega,rfl⟩ hJ (by rw [qjk]; omega)
 unfold encB at hy
 rw [hb] at hy
 (try dsimp only at hy)
 have HP:=Lib.hid hp
 clear hp hb ej
 gi_wp2
 refine⟨(fun h=>by cases h),hR.mono ?_⟩
 rintro e W3 (⟨rfl,O',hJ3,hG⟩|⟨rfl,O',hJx3,_⟩)
 . have hX3:qbj W3 gx xs:=⟨hG.same _ _ _ _ hO.out hX.blk,hX.len,hX.dig⟩
   have hO3:Hid (¬ O' gx):=Lib.hid (fun h=>by
    rcases hG.new gx h with h1|h1
    . exact hO.out h1
    have:=hX.lt
    omega)
   rw [qsu (by omega)] at hJ3
   gi_wp2
   go_roundw
   case rel=>exact⟨k,O',rfl,by omega,hX3,hO3,hJ3⟩
   case measure=>first | (simp [intOf]; done) | (simp [intOf]; omega)
 gi_wp2
 refine bodyPost_ret (results_none rfl _ _ _) rfl ?_
 exact⟨⟨_,rfl⟩,.inr ⟨_,O',trivial,hJx3⟩⟩
theorem qsv(m gx:Nat)(xs:List Int)(n:Nat)(hn:qj4 (num 4294967296 xs) n)(hn2:n<=2432)(w:World)(hX:qbj w gx xs) :
  qpi (q2e n) Fence.wide m Tryz.prog 210 #[.pointer (some ⟨gx,0,none⟩)] (encB (num 4294967296 xs)) (fun ys=>ys=qjl n 0) (fun _=>True) n (fun k=>k=gx) gx w :=
 fun l J Jx O0 W hW _ _ hP _ hY h0=>qsx m l gx xs n hn hn2 J Jx hY O0 W (hX.of_heap (hW.block gx hX.lt)) (hP _ rfl) h0
theorem qsw(w:World)(xs:List Int):Calls Tryz.prog 199 #[.agg (qat xs)] w fun e w'=>e=.returned (.func (.func 210) #[] #[.pointer (some ⟨w.heap.size,0,none⟩)])/\w'=w.alloc (.cells (qat xs) 157):=by
 have hmf:∀ (fn:Fn) (first cap:Array Value) (w:World),(Instr.makeFunc fn first cap).run Tryz.prog w=.ok (.func fn first cap) w:=fun _ _ _ _=>rfl
 go_enter Tryz.func199,Tryz.ntmps199
 go_wp2
 go_ret
 exact⟨rfl,rfl⟩
theorem qv7(w:World)(b g:Nat)(ws:List Int)(hb:w.cell? ⟨b,0,none⟩=some (.pointer (some ⟨g,0,none⟩)))(hR:Row w g 3 ws)(i:Nat)(ii:Int)(hii:ii=i)(hi:i<=100000)(d:Nat)(hd:ws[i]?.getD 0=(d:Int)) :
  Calls Tryz.prog 202 #[.int .i64 ii,.pointer (some ⟨b,0,none⟩)] w fun e w'=>e=.returned (.int .u64 d)/\w'=w:=by
 subst hii
 by_cases hlt:i < 74
 . have c1:=hR.cell i hlt
   rw [hd] at c1
   have hd2:d < 4294967296:=by
    obtain⟨d',h1,h2⟩:=qa3 (by decide) hR.dig i
    rw [hd] at h1
    rw [Int.ofNat.inj h1]
    exact h2
   clear hd
   go_enter Tryz.func202,Tryz.ntmps202
   go_wp2
   go_ret
   exact⟨rfl,rfl⟩
 have h0:d=0:=by
  rw [List.getElem?_eq_none (by rw [hR.len]; omega)] at hd
  exact (Int.ofNat.inj hd).symm
 subst h0
 clear hd
 go_enter Tryz.func202,Tryz.ntmps202
 go_wp2
 go_ret
 exact⟨rfl,rfl⟩
theorem qyh(M r c:Nat):(M:Int)/2^r%(c:Int)=((M/2^r%c:Nat):Int):=by push_cast; rfl
theorem qvx(M r:Nat):(M:Int)/2^r%4294967296=((M/2^r%4294967296:Nat):Int):=qyh M r 4294967296
theorem qq0(w:World)(g:Nat)(hg:g < w.heap.size)(ws:List Int)(hR:Row w g 3 ws)(i k:Nat)(ii kk:Int)(hii:ii=i)(hkk:kk=k)(hi:i<=100)(hk:k<=3000)(d:Nat)(hd:num 4294967296 ws/2^k/4294967296^i%4294967296=d) :
  Calls Tryz.prog 180 #[.pointer (some ⟨g,0,none⟩),.int .i64 ii,.int .i64 kk] w fun e w'=>e=.returned (.int .u32 d)/\w'=w.alloc (.cells #[.pointer (some ⟨g,0,none⟩)] 163):=by
 subst hii hkk
 have hmf:∀ (fn:Fn) (first cap:Array Value) (w:World),(Instr.makeFunc fn first cap).run Tryz.prog w=.ok (.func fn first cap) w:=fun _ _ _ _=>rfl
 obtain⟨x,hx,hx2⟩:=qa3 (by decide) hR.dig (i+k/32+1)
 obtain⟨y,hy,hy2⟩:=qa3 (by decide) hR.dig (i+k/32)
 have hlaw:=qpf hR.dig i k x y hx hy
 rw [hd] at hlaw
 have HX:=Lib.hid hx
 have HY:=Lib.hid hy
 have HL:=Lib.hid hlaw
 clear hx hy hlaw hd
 have hR2:=hR.keep (w':=w.alloc (.cells #[.pointer (some ⟨g,0,none⟩)] 163)) fun j _=>⟨World.cell?_alloc_lt _ _ _ hg,World.frozen?_alloc_past _ _ _ hg⟩
 go_enter Tryz.func180,Tryz.ntmps180
 go_wp2_with fail
 refine (qv7 _ _ g ws (by simp) hR2 (i+k/32+1) _ (by omega) (by omega) x HX.out).mono ?_
 rintro e w1 ⟨rfl,rfl⟩
 go_wp2_with fail
 refine (qv7 _ _ g ws (by simp) hR2 (i+k/32) _ (by omega) (by omega) y HY.out).mono ?_
 rintro e w1 ⟨rfl,rfl⟩
 go_wp2
 go_ret
 refine⟨qcb ?_,rfl⟩
 have e1:bits BinOp.or IntKind.u64 ((x:Int)*4294967296) (y:Int)=((x*4294967296+y:Nat):Int):=by
  have:=u64_or_nat (x*4294967296) y (by omega) (by omega)
  rw [nat_join 32 _ _ (by omega) (by omega)] at this
  rw [<-this]
  congr 1
 have h2:=HL.out
 rw [e1]
 rw [qvx,h2]
end Dy
end Go.Proofs.YtmbppgjhdcmckaaGreatDoor