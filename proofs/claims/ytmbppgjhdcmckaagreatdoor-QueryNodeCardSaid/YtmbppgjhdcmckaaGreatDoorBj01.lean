/- Predicates for slices of whole numbers that lie in memory, and how they are kept: no program in sight. -/
import Derived.WalkKit
import Derived.WalkSpells
import Derived.BigQuiet
import Derived.Deep.QuietTactic
import Derived.Deep.AppendLies
import Derived.Deep.Draws
import Derived.Laws.OwnMore
import Derived.Lib.Hide
import Derived.Maps.AppendAt
import Derived.OwnWalk
import Derived.Test.YtmbppgjhdcmckaaGreatDoorProg
set_option maxHeartbeats 102400000
set_option maxRecDepth 100000
namespace Go.Proofs.YtmbppgjhdcmckaaGreatDoor
open Go.RowKit
structure qae(w:World)(lo hi:Nat)(k:IntKind)(A:Option Addr)(n:Nat)(xs:List Int):Prop where
 len:xs.length=n
 wf:∀ x∈xs,k.min<=x/\x<=k.max
 big:n<=9223372036854775807
 row:0 < n->∃ b off,A=some ⟨b,off,none⟩/\lo<=b/\b < hi/\∀ j,j < n->w.cell? ⟨b,off+j,none⟩=some (.int k (xs[j]?.getD 0))/\w.frozen? ⟨b,off+j,none⟩=false
section
variable {w w':World} {lo hi lo' hi':Nat} {k:IntKind} {A:Option Addr} {n:Nat} {xs:List Int}
theorem qae.nil_(w:World)(lo hi:Nat)(k:IntKind)(A:Option Addr):qae w lo hi k A 0 [] :=
 ⟨rfl,by simp,by omega,fun h=>absurd h (by omega)⟩
theorem qae.zero(h:qae w lo hi k A n xs)(h0:n=0):xs=[]:=List.eq_nil_of_length_eq_zero (by rw [h.len,h0])
theorem qae.keep(h:qae w lo hi k A n xs)(hk:∀ p:Addr,p.block < hi->w'.cell? p=w.cell? p/\w'.frozen? p=w.frozen? p):qae w' lo hi k A n xs :=
 ⟨h.len,h.wf,h.big,fun hn=>by
  obtain⟨b,off,e,h1,h2,hc⟩:=h.row hn
  exact⟨b,off,e,h1,h2,fun j hj=>⟨(hk _ h2).1.trans (hc j hj).1,(hk _ h2).2.trans (hc j hj).2⟩⟩⟩
theorem qae.more(h:qae w lo hi k A n xs)(hl:lo'<=lo)(hh:hi<=hi'):qae w lo' hi' k A n xs :=
 ⟨h.len,h.wf,h.big,fun hn=>by
  obtain⟨b,off,e,h1,h2,hc⟩:=h.row hn
  exact⟨b,off,e,by omega,by omega,hc⟩⟩
theorem qae.below{B:Nat}(h:qae w lo hi k A n xs)(hb:Below B w w')(hB:hi<=B):qae w' lo hi k A n xs :=
 h.keep fun p hp=>⟨hb.cell (by omega),hb.frozen (by omega)⟩
theorem qae.drewN(h:qae w lo hi k A n xs)(m:Nat):qae (w.drewN m) lo hi k A n xs:=⟨h.len,h.wf,h.big,h.row⟩
theorem qae.alloc(h:qae w lo hi k A n xs)(hB:hi<=w.heap.size)(o:Obj):qae (w.alloc o) lo hi k A n xs :=
 h.below ((Below.refl w.heap.size w).alloc (Nat.le_refl _) o) hB
theorem qae.u32(h:qae w lo hi .u32 A n xs)(j:Nat):0<=xs[j]?.getD 0/\xs[j]?.getD 0<=4294967295:=by
 by_cases hj:j < xs.length
 . have hm:xs[j]?.getD 0∈xs:=by simp [hj]
   have:=h.wf _ hm
   exact⟨by simpa [IntKind.min,IntKind.signed] using this.1,by simpa [IntKind.max,IntKind.signed,IntKind.bits] using this.2⟩
 simp [hj]
theorem qae.take_(h:qae w lo hi k A n xs){m:Nat}(hm:m<=n):qae w lo hi k A m (xs.take m):=by
 have hl:=h.len
 refine⟨by simp; omega,fun x hx=>h.wf x (List.mem_of_mem_take hx),by have:=h.big; omega,fun h0=>?_⟩
 obtain⟨b,off,e,h1,h2,hc⟩:=h.row (by omega)
 refine⟨b,off,e,h1,h2,fun j hj=>?_⟩
 rw [List.getElem?_take,if_pos hj]
 exact hc j (by omega)
theorem qae.of_own{base:Nat}{e:TypeId}{c:Nat}(h:w.ownsRow base e 1 (.slice A n c) n (xs.map (Value.int k)))(hw:∀ x∈xs,k.min<=x/\x<=k.max)(hn:n<=9223372036854775807):qae w base w.heap.size k A n xs:=by
 have hl:xs.length=n:=by simpa using h.1
 refine⟨hl,hw,hn,fun h0=>?_⟩
 obtain⟨_,h2⟩:=h
 rcases h2 with ⟨_,h3⟩|⟨g,cap,cur,hv,hg,hh,hnc,hcm,hcs,ht⟩
 . omega
 injection hv with ha
 refine⟨g,0,ha,hg,(Array.getElem?_eq_some_iff.1 hh).1,fun j hj=>⟨?_,by simp [World.frozen?,hh]⟩⟩
 rw [cell_of_row w g _ cur e (0,0) hh,Nat.zero_add]
 have hx:(xs.map (Value.int k))[j]? = some (.int k (xs[j]?.getD 0)):=by
  simp only [List.getElem?_map]
  rw [List.getElem?_eq_getElem (by omega)]
  rfl
 rw [<-ht,List.getElem?_take,if_pos (by omega)] at hx
 simpa using hx
theorem qbg{B:Nat}{a:World}(h:Below B a w)(m:Nat):Below B a (w.drewN m):=⟨h.os,h.tape,h.output,h.size,h.block⟩
theorem qa0(B:Nat)(w:World)(m:Nat):Below B w (w.drewN m):=qbg (Below.refl B w) m
end
structure Raw(w:World)(lo hi:Nat)(A:Option Addr)(m:Nat)(cs:List Value):Prop where
 len:cs.length=m
 row:0 < m->∃ b off,A=some ⟨b,off,none⟩/\lo<=b/\b < hi/\∀ j,j < m->w.cell? ⟨b,off+j,none⟩=cs[j]? /\ w.frozen? ⟨b,off+j,none⟩=false
theorem qae.raw{w:World}{lo hi:Nat}{k:IntKind}{A:Option Addr}{n:Nat}{xs:List Int}(h:qae w lo hi k A n xs):Raw w lo hi A (n*1) (xs.map (Value.int k)):=by
 refine⟨by simp [h.len],fun hn=>?_⟩
 obtain⟨b,off,e,h1,h2,hc⟩:=h.row (by omega)
 refine⟨b,off,e,h1,h2,fun j hj=>⟨?_,(hc j (by omega)).2⟩⟩
 rw [(hc j (by omega)).1,List.getElem?_map,List.getElem?_eq_getElem (by have:=h.len; omega)]
 rfl
theorem Raw.at_{w:World}{lo hi:Nat}{ad:Addr}{m:Nat}{cs:List Value}(h:Raw w lo hi (some ad) m cs):∀ j u,cs[j]? = some u->w.cell? (ad.add j)=some u:=by
 intro j u hu
 have hj:j < m:=by
  have:=h.len
  rcases Nat.lt_or_ge j cs.length with h'|h'
  . omega
  rw [List.getElem?_eq_none h'] at hu; cases hu
 obtain⟨b,off,e,_,_,hc⟩:=h.row (by omega)
 injection e with e
 subst e
 have hadd:(⟨b,off,none⟩:Addr).add j=⟨b,off+j,none⟩:=by unfold Addr.add; split<;>simp_all
 rw [hadd,(hc j hj).1,hu]
section
variable {P:Program} (w:World)
theorem qhf(base:Nat)(t ty e:TypeId)(i:TypeInfo)(size:Nat)(ht:P.underlying t=some (.slice e))(hi:P.info? e=some i)
  (v:Value) (n:Nat) (xs:List Value) (hown:w.ownsRow base e size v n xs) (c:Nat):(Builtin.append_ #[t,t] ty #[v,.slice none 0 c]).run P w=.ok v w:=by
 rcases hown.2 with ⟨rfl,rfl⟩|⟨g,cap,cur,rfl,_,_,hnc,_⟩
 . simp [Builtin.append_,run_underlying ht,sizeOf,typeInfo,hi,Builtin.lenOf,Builtin.firstCells]
 simp [Builtin.append_,run_underlying ht,sizeOf,typeInfo,hi,Builtin.lenOf,Builtin.firstCells,hnc,storeCells]
theorem qbb{base:Nat}{e:TypeId}{size n:Nat}{v:Value}{xs:List Value}{w:World}(h:w.ownsRow base e size v n xs):∃ A c,v=.slice A n c/\n<=c/\c<=maxLen:=by
 rcases h.2 with ⟨rfl,rfl⟩|⟨g,cap,cur,rfl,_,_,hnc,hcm,_⟩
 . exact⟨_,_,rfl,Nat.le_refl _,by simp [maxLen]⟩
 exact⟨_,_,rfl,hnc,hcm⟩
theorem qd0{base:Nat}{e:TypeId}{size n c:Nat}{A:Option Addr}{xs:List Value}{w:World}(h:w.ownsRow base e size (.slice A n c) n xs):n<=c:=by
 obtain⟨A',c',e,h1,_⟩:=qbb h
 injection e with _ _ e
 omega
theorem qcv(base:Nat)(t ty e:TypeId)(i:TypeInfo)(z:Value)(size bytes:Nat)(ht:P.underlying t=some (.slice e))(hi:P.info? e=some i)(hz:i.zero=some z)
  (hsize:i.size=size) (hby:i.bytes=bytes) (hzs:z.cells.size=size) (hsz:0 < size)
  (v:Value) (n:Nat) (xs:List Value) (hown:w.ownsRow base e size v n xs)
  (lo hi':Nat) (A:Option Addr) (m c:Nat) (news:List Value) (hr:Raw w lo hi' A (m*size) news) (h1:∀ u∈news,u.oneCell'=true)
  (h63:n+m<=maxLen) (hbytes:(n+m)*bytes<=140737488355328) (hbase:base<=w.heap.size) :
  ∃ A' c' w',(Builtin.append_ #[t,t] ty #[v,.slice A m c]).run P w=.ok (.slice A' (n+m) c') w'/\w'.ownsRow base e size (.slice A' (n+m) c') (n+m) (xs++news)/\w.grownBy w' v.ownBlock /\
   ((Value.slice A' (n+m) c').ownBlock=v.ownBlock∨(Value.slice A' (n+m) c').ownBlock=some w.heap.size):=by
 rcases A with _|ad
 . have hm:m=0:=by
     rcases Nat.eq_zero_or_pos (m*size) with h0|h0
     . rcases Nat.mul_eq_zero.1 h0 with h0 | h0<;>omega
     obtain⟨b,off,h,_⟩:=hr.row h0
     cases h
   subst hm
   have hn:news=[]:=List.eq_nil_of_length_eq_zero (by simpa using hr.len)
   subst hn
   have hrun:=qhf (P:=P) w base t ty e i size ht hi v n xs hown c
   obtain⟨A',c',rfl,_⟩:=qbb hown
   exact⟨A',c',w,hrun,by simpa using hown,World.grownBy.refl w _,.inl rfl⟩
 obtain⟨v',w',hrun,h2,h3,_,h5⟩:=run_append_own_at (P:=P) w base t ty e i z size bytes ht hi hz hsize hby hzs hsz v n xs hown ad m c news hr.len hr.at_ h1 h63 hbytes hbase
 obtain⟨A',c',rfl,_⟩:=qbb h2
 exact⟨A',c',w',hrun,h2,h3,h5⟩
theorem qag{ops:Array Oper}{rest:List Oper}{o:Oper}{a:Act}{Q:Exit->Act->World->Prop}(hgd:o.guard=none)(s x:Operand)(t:TypeId)
  (ho:o.op=.call { callee:=.builtin .append,args:=#[s,x],argTypes:=#[t,t] })
  (base:Nat) (e:TypeId) (i:TypeInfo) (z:Value) (size bytes:Nat) (ht:P.underlying t=some (.slice e)) (hi:P.info? e=some i) (hz:i.zero=some z)
  (hsize:i.size=size) (hby:i.bytes=bytes) (hzs:z.cells.size=size) (hsz:0 < size)
  (v:Value) (n:Nat) (xs:List Value) (hs:a.eval s=v) (hown:w.ownsRow base e size v n xs)
  (lo hi':Nat) (A:Option Addr) (m c:Nat) (news:List Value) (hx:a.eval x=.slice A m c) (hr:Raw w lo hi' A (m*size) news) (h1:∀ u∈news,u.oneCell'=true)
  (h63:n+m<=maxLen) (hbytes:(n+m)*bytes<=140737488355328) (hbase:base<=w.heap.size)
  (h:∀ A' c' w',w'.ownsRow base e size (.slice A' (n+m) c') (n+m) (xs++news)->w.grownBy w' v.ownBlock->((Value.slice A' (n+m) c').ownBlock=v.ownBlock∨(Value.slice A' (n+m) c').ownBlock=some w.heap.size) ->
   wpList P ops Q rest (a.put o.dst (.slice A' (n+m) c')) w') :
  wpList P ops Q (o::rest) a w:=by
 refine wpList_plain hgd fun K hK=>?_
 obtain⟨A',c',w',hr,h2,h3,h5⟩:=qcv (P:=P) w base t o.type e i z size bytes ht hi hz hsize hby hzs hsz v n xs hown lo hi' A m c news hr h1 h63 hbytes hbase
 unfold Oper.wp execOp
 simp only [ho,resolve,invoke,builtin,Sem.run_bind,Sem.run_pure,Result.andThen_ok,List.map_toArray,List.map_cons,List.map_nil,hs,hx,hr]
 exact hK _ _ (h A' c' w' h2 h3 h5)
end
def qiv(w:World)(g n:Nat):Prop:=∃ cur t,w.heap[g]? = some (.cells cur t (0,0))/\n<=cur.size
theorem qiv.of_own{w:World}{base:Nat}{e:TypeId}{A:Option Addr}{n c:Nat}{xs:List Value}(h:w.ownsRow base e 1 (.slice A n c) n xs)(hn:0 < n) :
  ∃ g,A=some ⟨g,0,none⟩/\base<=g/\g < w.heap.size/\qiv w g n:=by
 rcases h.2 with ⟨_,h0⟩|⟨g,cap,cur,hv,hb,hg,hnc,_,hcs,_⟩
 . omega
 injection hv with hv
 exact⟨g,hv,hb,(Array.getElem?_eq_some_iff.1 hg).1,cur,e,hg,by omega⟩
theorem qdl(w:World)(base:Nat)(e:TypeId)(size:Nat)(h:base<=w.heap.size):(w.alloc (.cells #[] e)).ownsRow base e size (.slice (some ⟨w.heap.size,0,none⟩) 0 0) 0 [] :=
 World.ownsRow_made w #[] 0 h (by simp [maxLen]) (by simp)
theorem qei(w:World)(k:IntKind)(x:Int)(t:TypeId):Raw (w.alloc (.cells #[.int k x] t)) w.heap.size (w.heap.size+1) (some ⟨w.heap.size,0,none⟩) (1*1) [.int k x]:=by
 refine⟨rfl,fun _=>⟨w.heap.size,0,rfl,Nat.le_refl _,by omega,fun j hj=>?_⟩⟩
 obtain rfl:j=0:=by omega
 simp [go_sem]
theorem zp{α:Type}:(∀ (l:List α) (i:Nat) (a:α),l.toArray.setIfInBounds i a=(l.set i a).toArray)/\(∀ (x y:α) (l:List α),(x::l).set 0 y=y::l)/\∀ (x y:α) (l:List α) (n:Nat),(x::l).set (n+1) y=x::l.set n y :=
 ⟨fun l i a=>List.setIfInBounds_toArray l i a,fun _ _ _=>rfl,fun _ _ _ _=>rfl⟩
abbrev zT:Bool:=true
abbrev zF:Bool:=false
end Go.Proofs.YtmbppgjhdcmckaaGreatDoor
namespace Go.Proofs.YtmbppgjhdcmckaaGreatDoor
def num(B:Nat):List Int->Nat
 | []=>0
 | x::xs=>x.toNat+B*num B xs
def Dig(B:Nat)(l:List Int):Prop:=∀ x∈l,0<=x/\x < (B:Int)
def qn6(l:List Int):Prop:=∀ h:l≠[],l.getLast h≠0
def qec(B:Nat):Nat->Nat->List Int
 | 0,_=>[]
 | f+1,n=>if n=0 then [] else ((n%B:Nat):Int)::qec B f (n/B)
def qaf(B n:Nat):List Int:=qec B n n
theorem qa8(B:Nat):∀ (l m:List Int),num B (l++m)=num B l+B^l.length*num B m
 | [],m=>by simp [num]
 | x::l,m=>by
  simp only [List.cons_append,num,qa8 B l m,List.length_cons,Nat.pow_succ]
  rw [Nat.mul_add,<-Nat.mul_assoc,Nat.mul_comm B (B^l.length)]
  omega
theorem qc0(B:Nat)(hB:0 < B):∀ (l:List Int),Dig B l->num B l < B^l.length
 | [],_=>by simp [num]
 | x::l,h=>by
  have ih:=qc0 B hB l fun y hy=>h y (List.mem_cons_of_mem _ hy)
  have hx:=h x (List.mem_cons_self ..)
  simp only [num,List.length_cons,Nat.pow_succ]
  have h1:B*num B l+B<=B*B^l.length:=by
   rw [<-Nat.mul_succ]
   exact Nat.mul_le_mul_left _ ih
  rw [Nat.mul_comm (B^l.length) B]
  omega
theorem qe0(B k:Nat):num B (List.replicate k 0)=0:=by
 induction k with
 | zero=>rfl
 | succ k ih=>simp [List.replicate_succ,num,ih]
theorem Dig.tail{B:Nat}{x:Int}{l:List Int}(h:Dig B (x::l)):Dig B l:=fun y hy=>h y (List.mem_cons_of_mem _ hy)
theorem qn6.tail{x:Int}{l:List Int}(h:qn6 (x::l)):qn6 l:=fun hne=>by
 have:=h (by simp)
 rwa [List.getLast_cons hne] at this
theorem qop{B:Nat}:∀ {l:List Int},Dig B l->qn6 l->l≠[]->0 < num B l
 | [x],hd,hc,_=>by
  have h1:=hc (by simp)
  have h2:=hd x (by simp)
  simp only [num]
  simp only [List.getLast_singleton] at h1
  omega
 | x::y::l,hd,hc,_=>by
  have ih:=qop hd.tail hc.tail (by simp)
  have hB:0 < B:=by
   have:=hd x (by simp)
   omega
  simp only [num] at ih ⊢
  have:=Nat.mul_pos hB ih
  omega
theorem quh{B:Nat}:∀ {l m:List Int},Dig B l->Dig B m->qn6 l->qn6 m->num B l=num B m->l=m
 | [],[],_,_,_,_,_=>rfl
 | [],y::m,_,hm,_,cm,h=>by have:=qop hm cm (by simp); simp only [num] at h this; omega
 | x::l,[],hl,_,cl,_,h=>by have:=qop hl cl (by simp); simp only [num] at h this; omega
 | x::l,y::m,hl,hm,cl,cm,h=>by
  have hx:=hl x (by simp)
  have hy:=hm y (by simp)
  simp only [num] at h
  have e1:x.toNat=y.toNat:=by
   have h1:(x.toNat+B*num B l)%B=x.toNat:=by rw [Nat.add_mul_mod_self_left,Nat.mod_eq_of_lt (by omega)]
   have h2:(y.toNat+B*num B m)%B=y.toNat:=by rw [Nat.add_mul_mod_self_left,Nat.mod_eq_of_lt (by omega)]
   rw [<-h1,<-h2,h]
  have e2:num B l=num B m:=by
   have:B*num B l=B*num B m:=by omega
   exact Nat.eq_of_mul_eq_mul_left (by omega) this
  rw [quh hl.tail hm.tail cl.tail cm.tail e2]
  congr 1
  omega
theorem qjs(B:Nat)(hB:2<=B):∀ (f n:Nat),n<=f->Dig B (qec B f n)/\qn6 (qec B f n)/\num B (qec B f n)=n
 | 0,n,h=>by
  obtain rfl:n=0:=by omega
  exact⟨fun x hx=>by simp [qec] at hx,fun h=>absurd rfl h,rfl⟩
 | f+1,n,h=>by
  by_cases h0:n=0
  . subst h0
    exact⟨fun x hx=>by simp [qec] at hx,fun h=>absurd (by simp [qec]) h,by simp [qec,num]⟩
  have hlt:n/B < n:=Nat.div_lt_self (by omega) (by omega)
  obtain⟨i1,i2,i3⟩:=qjs B hB f (n/B) (by omega)
  have e:qec B (f+1) n=((n%B:Nat):Int)::qec B f (n/B):=by simp [qec,h0]
  rw [e]
  have hm:=Nat.mod_lt n (show 0 < B by omega)
  refine⟨fun x hx=>?_,fun hne=>?_,?_⟩
  . rcases List.mem_cons.1 hx with rfl | hx
    . omega
    exact i1 x hx
  . by_cases hn:qec B f (n/B)=[]
    . have h3:n/B=0:=by rw [<-i3,hn]; rfl
      have h4:=Nat.div_add_mod n B
      rw [h3] at h4
      simp only [hn,List.getLast_singleton]
      omega
    rw [List.getLast_cons hn]
    exact i2 hn
  simp only [num,i3,Int.toNat_natCast]
  exact Nat.mod_add_div n B
theorem qah(B n:Nat)(hB:2<=B):Dig B (qaf B n)/\qn6 (qaf B n)/\num B (qaf B n)=n:=qjs B hB n n (Nat.le_refl _)
theorem qdx{B n:Nat}{l:List Int}(hB:2<=B)(hd:Dig B l)(hc:qn6 l)(hn:num B l=n):l=qaf B n:=by
 obtain⟨h1,h2,h3⟩:=qah B n hB
 exact quh hd h1 hc h2 (hn.trans h3.symm)
theorem qkx(B:Nat):qaf B 0=[]:=rfl
theorem qc5{B n:Nat}(hB:2<=B)(h:qaf B n=[]):n=0:=by
 obtain⟨_,_,h3⟩:=qah B n hB
 rw [h] at h3
 exact h3.symm
theorem qjr{B n k:Nat}(hB:2<=B)(h:n < B^k):(qaf B n).length<=k:=by
 obtain⟨h1,h2,h3⟩:=qah B n hB
 rcases Nat.lt_or_ge k (qaf B n).length with hk|hk
 . exfalso
   have hne:qaf B n≠[]:=fun e=>by rw [e] at hk; simp at hk
   have hl:=h2 hne
   have hsplit:qaf B n=(qaf B n).dropLast++[(qaf B n).getLast hne]:=(List.dropLast_concat_getLast hne).symm
   have hn:num B (qaf B n)=num B (qaf B n).dropLast+B^(qaf B n).dropLast.length*((qaf B n).getLast hne).toNat:=by
    conv=>lhs; rw [hsplit]
    rw [qa8]
    simp [num]
   have hd:=h1 _ (List.getLast_mem hne)
   have h4:B^k<=B^(qaf B n).dropLast.length:=Nat.pow_le_pow_right (by omega) (by simp; omega)
   have h5:B^(qaf B n).dropLast.length*1<=B^(qaf B n).dropLast.length*((qaf B n).getLast hne).toNat:=Nat.mul_le_mul_left _ (by omega)
   omega
 exact hk
end Go.Proofs.YtmbppgjhdcmckaaGreatDoor
namespace Go.Proofs.YtmbppgjhdcmckaaGreatDoor
open Go.RowKit
namespace Dy
theorem qio{a b:Bool}(h:a=b):Ending.returned (.bool a)=.returned (.bool b):=by rw [h]
theorem qcb{k:IntKind}{a b:Int}(h:a=b):Ending.returned (.int k a)=.returned (.int k b):=by rw [h]
theorem get{k:IntKind}{xs:List Int}{A:Option Addr}{n:Nat}{w:World}{lo hi:Nat}(h:qae w lo hi k A n xs)(hn:0 < n) :
  ∃ b off,A=some ⟨b,off,none⟩/\∀ j,j < n->w.cell? ⟨b,off+j,none⟩=some (.int k (xs[j]?.getD 0)):=by
 obtain⟨b,off,e,_,_,hc⟩:=h.row hn
 exact⟨b,off,e,fun j hj=>(hc j hj).1⟩
theorem qbd(w:World)(lo hi:Nat)(A:Option Addr)(n c:Nat)(xs:List Int)(h:qae w lo hi .u8 A n xs)(i:Nat)(ii v:Int)(hii:ii=i)(hv:xs[i]?.getD 0=v)(hi:i<=9223372036854775807) :
  Calls Tryz.prog 187 #[.slice A n c,.int .i64 ii] w fun e w'=>e=.returned (.int .u8 v)/\w'=w:=by
 have hl:=h.len
 have hbig:=h.big
 have HV:=Lib.hid hv
 subst hii
 clear hv
 by_cases hlt:i < n
 . obtain⟨b,off,rfl,hcell⟩:=get h (by omega)
   have g1:w.cell? ⟨b,off+i,none⟩=some (.int .u8 (xs[i]?.getD 0)):=hcell i hlt
   rw [HV.out] at g1
   clear hcell hl
   go_enter Tryz.func187,Tryz.ntmps187
   go_wp2
   go_ret
   exact⟨rfl,rfl⟩
 have h0:v=0:=by rw [<-HV.out,List.getElem?_eq_none (by omega)]; rfl
 subst h0
 clear hl
 go_enter Tryz.func187,Tryz.ntmps187
 go_wp2
 go_ret
 exact⟨rfl,rfl⟩
theorem qit{B:Nat}{xs:List Int}{k:Nat}(hB:2<=B)(hd:Dig B xs)(hk:k<=xs.length)(hn:num B (xs.take k)=num B xs)(hs:k=0∨xs[k-1]?.getD 0≠0):xs.take k=qaf B (num B xs):=by
 refine qdx hB (fun x hx=>hd x (List.mem_of_mem_take hx)) (fun hne=>?_) hn
 have hk0:k≠0:=fun e=>hne (by rw [e]; rfl)
 have h1:=hs.resolve_left hk0
 rw [List.getLast_eq_getElem]
 simp only [List.length_take,List.getElem_take]
 have e:min k xs.length-1=k-1:=by omega
 simp only [e]
 rwa [List.getElem?_eq_getElem (by omega)] at h1
theorem qzd{B:Nat}{xs:List Int}{k:Nat}(hk:k+1<=xs.length)(hn:num B (xs.take (k+1))=num B xs)(hz:xs[k]?.getD 0=0):num B (xs.take k)=num B xs:=by
 rw [<-hn,List.take_succ_eq_append_getElem (by omega),qa8]
 rw [List.getElem?_eq_getElem (by omega)] at hz
 simp only [Option.getD_some] at hz
 simp [num,hz]
theorem qev(w:World)(lo hi:Nat)(A:Option Addr)(n c:Nat)(xs:List Int)(h:qae w lo hi .u8 A n xs)(hd:Dig 2 xs)(hnc:n<=c) :
  Calls Tryz.prog 145 #[.slice A n c] w fun e w'=>(∃ m,e=.returned (.slice A m c)/\m<=n/\qae w lo hi .u8 A m (qaf 2 (num 2 xs)))/\w'=w:=by
 have hl:=Lib.hid h.len
 have hbig:=h.big
 go_enter Tryz.func145,Tryz.ntmps145
 go_wp2
 go_loopw [3] (fun i wr=>∃ k:Nat,i=.int .i64 k/\k<=n/\Hid (num 2 (xs.take k)=num 2 xs)/\wr=w) (fun i _=>(intOf i).toNat)
 case atStart=>exact⟨n,rfl,Nat.le_refl _,by rw [Hid,List.take_of_length_le (by rw [hl.out]; exact Nat.le_refl _)],rfl⟩
 obtain⟨k,rfl,hk,hn,rfl⟩:=hrel
 rcases k with _|j
 . have he:=qit (by decide) hd (Nat.zero_le _) hn.out (.inl rfl)
   have hI:=h.take_ (m:=0) (Nat.zero_le _)
   rw [he] at hI
   clear he
   go_wp2
   go_ret
   exact⟨⟨0,rfl,Nat.zero_le _,hI⟩,by trivial⟩
 obtain⟨b,off,rfl,hcell⟩:=get h (by omega)
 have g1:wr.cell? ⟨b,off+j,none⟩=some (.int .u8 (xs[j]?.getD 0)):=hcell j (by omega)
 clear hcell
 have ej:((j+1:Nat):Int)-1=(j:Int):=by omega
 by_cases hz:xs[j]?.getD 0=0
 . have hn2:=Lib.hid (qzd (by rw [hl.out]; omega) hn.out hz)
   rw [hz] at g1
   clear hz
   go_wp2
   go_roundw
   case rel=>exact⟨j,by first | rfl | (congr 1; omega),by omega,hn2,by trivial⟩
   case measure=>first | (simp [intOf]; done) | (simp [intOf]; omega)
 have he:=qit (by decide) hd (by rw [hl.out]; omega) hn.out (.inr (by simpa using hz))
 have hI:=h.take_ (m:=j+1) hk
 rw [he] at hI
 have hb:(xs[j]?.getD 0==0)=false:=by simpa using hz
 clear he hz
 go_wp2
 go_ret
 exact⟨⟨j+1,rfl,hk,hI⟩,by trivial⟩
theorem Tryz.info5:(Tryz.prog.info? 5).map (fun i=>(i.zero,i.size,i.bytes))=some (some (.int .u8 0),1,1):=by kernel_rfl
theorem qdt(B:Nat)(l:List Int)(k:Nat):num B (l.take (k+1))=num B (l.take k)+B^k*(l[k]?.getD 0).toNat:=by
 by_cases h:k < l.length
 . rw [List.take_succ_eq_append_getElem h,qa8,List.getElem?_eq_getElem h]
   simp [num,Nat.min_eq_left (Nat.le_of_lt h)]
 rw [List.take_of_length_le (by omega),List.take_of_length_le (by omega),List.getElem?_eq_none (by omega)]
 simp
theorem qdb{l:List Int}(hd:Dig 2 l)(k:Nat):∃ p:Nat,l[k]?.getD 0=p/\p<=1:=by
 by_cases h:k < l.length
 . rw [List.getElem?_eq_getElem h]
   have:=hd _ (List.getElem_mem h)
   exact⟨l[k].toNat,by simp only [Option.getD_some]; omega,by omega⟩
 rw [List.getElem?_eq_none (by omega)]
 exact⟨0,rfl,by omega⟩
theorem qgz{l:List Int}(hd:Dig 2 l)(d:Nat)(h:d<=1):Dig 2 (l++[(d:Int)]):=fun x hx=>by
 rcases List.mem_append.1 hx with h'|h'
 . exact hd x h'
 rw [List.mem_singleton.1 h']
 omega
theorem qqe{out xs ys:List Int}{k c p q s:Nat}(hl:out.length=k)(h:num 2 out+2^k*c=num 2 (xs.take k)+num 2 (ys.take k))(hp:xs[k]?.getD 0=(p:Int))(hq:ys[k]?.getD 0=(q:Int))(hs:p+q+c=s) :
  num 2 (out++[((s%2:Nat):Int)])+2^(k+1)*(s/2)=num 2 (xs.take (k+1))+num 2 (ys.take (k+1)):=by
 rw [qdt,qdt,hp,hq,qa8,hl]
 simp only [num,Int.toNat_natCast,Nat.mul_zero,Nat.add_zero,Nat.pow_succ]
 have e:2^k*(s%2)+2^k*2*(s/2)=2^k*s:=by
  rw [Nat.mul_assoc,<-Nat.mul_add,Nat.mod_add_div]
 rw [Nat.add_assoc,e,<-hs,Nat.mul_add,Nat.mul_add]
 omega
theorem qqf{out xs ys:List Int}{N c:Nat}(hx:xs.length+1<=N)(hy:ys.length+1<=N)(hdx:Dig 2 xs)(hdy:Dig 2 ys)(hc:c<=1)(_hN:1<=N)(h:num 2 out+2^N*c=num 2 (xs.take N)+num 2 (ys.take N)):num 2 out=num 2 xs+num 2 ys:=by
 rw [List.take_of_length_le (by omega),List.take_of_length_le (by omega)] at h
 have h1:=qc0 2 (by decide) xs hdx
 have h2:=qc0 2 (by decide) ys hdy
 have e1:2^xs.length<=2^(N-1):=Nat.pow_le_pow_right (by decide) (by omega)
 have e2:2^ys.length<=2^(N-1):=Nat.pow_le_pow_right (by decide) (by omega)
 have e3:2^N=2*2^(N-1):=by rw [<-Nat.pow_succ']; congr 1; omega
 rcases Nat.lt_or_ge 0 c with h0|h0
 . obtain rfl:c=1:=by omega
   omega
 obtain rfl:c=0:=by omega
 omega
theorem q00(w:World)(lo hi lo' hi':Nat)(A:Option Addr)(n c:Nat)(xs:List Int)(hX:qae w lo hi .u8 A n xs)(B:Option Addr)(m d:Nat)(ys:List Int)(hY:qae w lo' hi' .u8 B m ys)(hdx:Dig 2 xs)(hdy:Dig 2 ys)
  (hhi:hi<=w.heap.size) (hhi':hi'<=w.heap.size) (hn:n<=1000000) (hm:m<=1000000) (hnm:n < m) :
  Calls Tryz.prog 147 #[.slice A n c,.slice B m d] w fun e w'=>∃ A' n' c',e=.returned (.slice A' n' c')/\n'<=c'/\Below w.heap.size w w'/\qae w' w.heap.size w'.heap.size .u8 A' n' (qaf 2 (num 2 xs+num 2 ys)):=by
 have HL:=Lib.hid hX.len
 have HL2:=Lib.hid hY.len
 obtain⟨i0,hi0,hz0,hz1,hz2⟩:=info_parts Tryz.info5
 go_enter Tryz.func147,Tryz.ntmps147
 go_wp2
 go_loopw [5,6,7] (fun v cy i wr=>∃ k cc:Nat,∃ out:List Int,i=.int .i64 k/\cy=.int .u8 cc/\cc<=1/\k<=m+1/\wr.ownsRow w.heap.size 5 1 v k (out.map (Value.int .u8))/\Dig 2 out/\Hid (num 2 out+2^k*cc=num 2 (xs.take k)+num 2 (ys.take k))/\Below w.heap.size w wr)
  (fun _ _ i _=>m+1-(intOf i).toNat)
 case atStart=>exact⟨0,0,[],rfl,rfl,by omega,by omega,⟨rfl,.inl ⟨rfl,rfl⟩⟩,fun x hx=>(by simp at hx),by simp [Hid,num],Below.refl _ _⟩
 obtain⟨k,cc,out,rfl,rfl,hcc,hk,hown,hdo,hnum,hnx⟩:=hrel
 by_cases hlt:k<=m
 . obtain⟨p,hp,hp1⟩:=qdb hdx k
   obtain⟨q,hq,hq1⟩:=qdb hdy k
   have HP:=Lib.hid hp
   have HQ:=Lib.hid hq
   clear hp hq
   go_wp2_with fail
   refine (qbd _ _ _ _ _ _ _ (hX.below hnx hhi) k _ p rfl HP.out (by omega)).mono ?_
   rintro e w1 ⟨rfl,rfl⟩
   go_wp2_with fail
   refine (qbd _ _ _ _ _ _ _ (hY.below hnx hhi') k _ q rfl HQ.out (by omega)).mono ?_
   rintro e w2 ⟨rfl,rfl⟩
   go_wp2_with (first
    | (at_builtin; refine qag _ rfl (.tmp 27) (.tmp 30) 171 rfl w.heap.size 5 i0 (.int .u8 0) 1 1 Tryz.underlying171 hi0 hz0 hz1 hz2 rfl (by decide) _ _ _ rfl (hown.alloc _) _ _ _ 1 1 [.int .u8 (((p:Int)+q+cc)%2)] rfl (qei _ _ _ _) ?c1 ?c2 ?c3 ?c4 ?_))
   case c1=>first | rfl | (intro u hu; simp at hu; subst hu; rfl)
   case c2=>unfold maxLen; omega
   case c3=>omega
   case c4=>have:=hnx.size; simp; omega
   intro A2 c2 w3 hown2 hgrow2 _
   have hnx2:Below w.heap.size w w3:=(hnx.alloc hnx.size _).grown hgrow2 (by have:=hnx.size; simp; omega) (fun q hq=>(hown.lt q hq).1)
   have hs:((p:Int)+q+cc)%2=(((p+q+cc)%2:Nat):Int):=by omega
   rw [hs] at hown2
   have hown3:w3.ownsRow w.heap.size 5 1 (.slice A2 (k+1) c2) (k+1) ((out++[(((p+q+cc)%2:Nat):Int)]).map (Value.int .u8)):=by simpa using hown2
   have hol:out.length=k:=by have:=hown.1; simpa using this
   have hnum2:=Lib.hid (qqe hol hnum.out HP.out HQ.out rfl)
   have hdo2:=qgz hdo ((p+q+cc)%2) (by omega)
   clear hs hown2 hgrow2 hol hown hnum
   go_wp2
   go_roundw
   case rel=>exact⟨k+1,(p+q+cc)/2,_,by go_num,by congr 1,by omega,by omega,hown3,hdo2,hnum2,hnx2⟩
   case measure=>simp [intOf]; omega
 obtain⟨A2,c2,rfl,hc2,_⟩:=qbb hown
 have hend:=qqf (N:=k) (by rw [HL.out]; omega) (by rw [HL2.out]; omega) hdx hdy hcc (by omega) hnum.out
 have hwf:∀ x∈out,IntKind.u8.min<=x/\x<=IntKind.u8.max:=fun x hx=>by
  have:=hdo x hx
  simp only [IntKind.min,IntKind.max,IntKind.signed,IntKind.bits]
  omega
 have hI:=qae.of_own hown hwf (by omega)
 have HE:=Lib.hid hend
 clear hown hnum hend
 go_wp2_with fail
 refine (qev _ _ _ _ _ _ _ hI hdo hc2).mono ?_
 rintro e w4 ⟨⟨m4,rfl,hm4,hI4⟩,rfl⟩
 rw [HE.out] at hI4
 go_wp2_with fail
 go_ret
 exact⟨A2,m4,c2,rfl,by omega,hnx,hI4⟩
theorem q01(w:World)(lo hi lo' hi':Nat)(A:Option Addr)(n c:Nat)(xs:List Int)(hX:qae w lo hi .u8 A n xs)(B:Option Addr)(m d:Nat)(ys:List Int)(hY:qae w lo' hi' .u8 B m ys)(hdx:Dig 2 xs)(hdy:Dig 2 ys)
  (hhi:hi<=w.heap.size) (hhi':hi'<=w.heap.size) (hn:n<=1000000) (_hm:m<=1000000) (hnm:¬ n < m) :
  Calls Tryz.prog 147 #[.slice A n c,.slice B m d] w fun e w'=>∃ A' n' c',e=.returned (.slice A' n' c')/\n'<=c'/\Below w.heap.size w w'/\qae w' w.heap.size w'.heap.size .u8 A' n' (qaf 2 (num 2 xs+num 2 ys)):=by
 have HL:=Lib.hid hX.len
 have HL2:=Lib.hid hY.len
 obtain⟨i0,hi0,hz0,hz1,hz2⟩:=info_parts Tryz.info5
 go_enter Tryz.func147,Tryz.ntmps147
 go_wp2
 go_loopw [5,6,7] (fun v cy i wr=>∃ k cc:Nat,∃ out:List Int,i=.int .i64 k/\cy=.int .u8 cc/\cc<=1/\k<=n+1/\wr.ownsRow w.heap.size 5 1 v k (out.map (Value.int .u8))/\Dig 2 out/\Hid (num 2 out+2^k*cc=num 2 (xs.take k)+num 2 (ys.take k))/\Below w.heap.size w wr)
  (fun _ _ i _=>n+1-(intOf i).toNat)
 case atStart=>exact⟨0,0,[],rfl,rfl,by omega,by omega,⟨rfl,.inl ⟨rfl,rfl⟩⟩,fun x hx=>(by simp at hx),by simp [Hid,num],Below.refl _ _⟩
 obtain⟨k,cc,out,rfl,rfl,hcc,hk,hown,hdo,hnum,hnx⟩:=hrel
 by_cases hlt:k<=n
 . obtain⟨p,hp,hp1⟩:=qdb hdx k
   obtain⟨q,hq,hq1⟩:=qdb hdy k
   have HP:=Lib.hid hp
   have HQ:=Lib.hid hq
   clear hp hq
   go_wp2_with fail
   refine (qbd _ _ _ _ _ _ _ (hX.below hnx hhi) k _ p rfl HP.out (by omega)).mono ?_
   rintro e w1 ⟨rfl,rfl⟩
   go_wp2_with fail
   refine (qbd _ _ _ _ _ _ _ (hY.below hnx hhi') k _ q rfl HQ.out (by omega)).mono ?_
   rintro e w2 ⟨rfl,rfl⟩
   go_wp2_with (first
    | (at_builtin; refine qag _ rfl (.tmp 27) (.tmp 30) 171 rfl w.heap.size 5 i0 (.int .u8 0) 1 1 Tryz.underlying171 hi0 hz0 hz1 hz2 rfl (by decide) _ _ _ rfl (hown.alloc _) _ _ _ 1 1 [.int .u8 (((p:Int)+q+cc)%2)] rfl (qei _ _ _ _) ?c1 ?c2 ?c3 ?c4 ?_))
   case c1=>first | rfl | (intro u hu; simp at hu; subst hu; rfl)
   case c2=>unfold maxLen; omega
   case c3=>omega
   case c4=>have:=hnx.size; simp; omega
   intro A2 c2 w3 hown2 hgrow2 _
   have hnx2:Below w.heap.size w w3:=(hnx.alloc hnx.size _).grown hgrow2 (by have:=hnx.size; simp; omega) (fun q hq=>(hown.lt q hq).1)
   have hs:((p:Int)+q+cc)%2=(((p+q+cc)%2:Nat):Int):=by omega
   rw [hs] at hown2
   have hown3:w3.ownsRow w.heap.size 5 1 (.slice A2 (k+1) c2) (k+1) ((out++[(((p+q+cc)%2:Nat):Int)]).map (Value.int .u8)):=by simpa using hown2
   have hol:out.length=k:=by have:=hown.1; simpa using this
   have hnum2:=Lib.hid (qqe hol hnum.out HP.out HQ.out rfl)
   have hdo2:=qgz hdo ((p+q+cc)%2) (by omega)
   clear hs hown2 hgrow2 hol hown hnum
   go_wp2
   go_roundw
   case rel=>exact⟨k+1,(p+q+cc)/2,_,by go_num,by congr 1,by omega,by omega,hown3,hdo2,hnum2,hnx2⟩
   case measure=>simp [intOf]; omega
 obtain⟨A2,c2,rfl,hc2,_⟩:=qbb hown
 have hend:=qqf (N:=k) (by rw [HL.out]; omega) (by rw [HL2.out]; omega) hdx hdy hcc (by omega) hnum.out
 have hwf:∀ x∈out,IntKind.u8.min<=x/\x<=IntKind.u8.max:=fun x hx=>by
  have:=hdo x hx
  simp only [IntKind.min,IntKind.max,IntKind.signed,IntKind.bits]
  omega
 have hI:=qae.of_own hown hwf (by omega)
 have HE:=Lib.hid hend
 clear hown hnum hend
 go_wp2_with fail
 refine (qev _ _ _ _ _ _ _ hI hdo hc2).mono ?_
 rintro e w4 ⟨⟨m4,rfl,hm4,hI4⟩,rfl⟩
 rw [HE.out] at hI4
 go_wp2_with fail
 go_ret
 exact⟨A2,m4,c2,rfl,by omega,hnx,hI4⟩
theorem qmd(w:World)(lo hi lo' hi':Nat)(A:Option Addr)(n c:Nat)(xs:List Int)(hX:qae w lo hi .u8 A n xs)(B:Option Addr)(m d:Nat)(ys:List Int)(hY:qae w lo' hi' .u8 B m ys)(hdx:Dig 2 xs)(hdy:Dig 2 ys)
  (hhi:hi<=w.heap.size) (hhi':hi'<=w.heap.size) (hn:n<=1000000) (hm:m<=1000000) (s:Nat) (hs:num 2 xs+num 2 ys=s) :
  Calls Tryz.prog 147 #[.slice A n c,.slice B m d] w fun e w'=>∃ A' n' c',e=.returned (.slice A' n' c')/\n'<=c'/\Below w.heap.size w w'/\qae w' w.heap.size w'.heap.size .u8 A' n' (qaf 2 s):=by
 subst hs
 by_cases h:n < m
 . exact q00 w lo hi lo' hi' A n c xs hX B m d ys hY hdx hdy hhi hhi' hn hm h
 exact q01 w lo hi lo' hi' A n c xs hX B m d ys hY hdx hdy hhi hhi' hn hm h
theorem quo{out xs ys:List Int}{k c p q s:Nat}(hl:out.length=k)(h:num 2 (xs.take k)+2^k*c=num 2 out+num 2 (ys.take k))(hp:xs[k]?.getD 0=(p:Int))(hq:ys[k]?.getD 0=(q:Int))(hs:p+2=s+q+c)(h3:s<=3) :
  num 2 (xs.take (k+1))+2^(k+1)*(1-s/2)=num 2 (out++[((s%2:Nat):Int)])+num 2 (ys.take (k+1)):=by
 rw [qdt,qdt,hp,hq,qa8,hl]
 simp only [num,Int.toNat_natCast,Nat.mul_zero,Nat.add_zero,Nat.pow_succ]
 have e:2^k*p+2^k*2*(1-s/2)=2^k*(s%2)+2^k*q+2^k*c:=by
  rw [Nat.mul_assoc,<-Nat.mul_add,<-Nat.mul_add,<-Nat.mul_add]
  congr 1
  omega
 omega
theorem qup{out xs ys:List Int}{N c:Nat}(hl:out.length=N)(hdo:Dig 2 out)(hx:xs.length=N)(hy:ys.length<=N)(hle:num 2 ys<=num 2 xs)(hc:c<=1)(h:num 2 (xs.take N)+2^N*c=num 2 out+num 2 (ys.take N)):num 2 out=num 2 xs-num 2 ys:=by
 rw [List.take_of_length_le (by omega),List.take_of_length_le (by omega)] at h
 have h1:=qc0 2 (by decide) out hdo
 rw [hl] at h1
 rcases Nat.lt_or_ge 0 c with h0|h0
 . obtain rfl:c=1:=by omega
   omega
 obtain rfl:c=0:=by omega
 omega
theorem qhb(w:World)(lo hi lo' hi':Nat)(A:Option Addr)(n c:Nat)(xs:List Int)(hX:qae w lo hi .u8 A n xs)(B:Option Addr)(m d:Nat)(ys:List Int)(hY:qae w lo' hi' .u8 B m ys)(hdx:Dig 2 xs)(hdy:Dig 2 ys)
  (hhi:hi<=w.heap.size) (hhi':hi'<=w.heap.size) (hn:n<=1000000) (hm:m<=n) (hle:num 2 ys<=num 2 xs) (s:Nat) (hs:num 2 xs-num 2 ys=s) :
  Calls Tryz.prog 186 #[.slice A n c,.slice B m d] w fun e w'=>∃ A' n' c',e=.returned (.slice A' n' c')/\n'<=c'/\Below w.heap.size w w'/\qae w' w.heap.size w'.heap.size .u8 A' n' (qaf 2 s):=by
 have HL:=Lib.hid hX.len
 have HL2:=Lib.hid hY.len
 have HS:=Lib.hid hs
 clear hs
 obtain⟨i0,hi0,hz0,hz1,hz2⟩:=info_parts Tryz.info5
 go_enter Tryz.func186,Tryz.ntmps186
 go_wp2
 go_loopw [5,6,7] (fun v cy i wr=>∃ k cc:Nat,∃ out:List Int,i=.int .i64 k/\cy=.int .u8 cc/\cc<=1/\k<=n/\wr.ownsRow w.heap.size 5 1 v k (out.map (Value.int .u8))/\Dig 2 out/\Hid (num 2 (xs.take k)+2^k*cc=num 2 out+num 2 (ys.take k))/\Below w.heap.size w wr)
  (fun _ _ i _=>n-(intOf i).toNat)
 case atStart=>exact⟨0,0,[],rfl,rfl,by omega,by omega,⟨rfl,.inl ⟨rfl,rfl⟩⟩,fun x hx=>(by simp at hx),by simp [Hid,num],Below.refl _ _⟩
 obtain⟨k,cc,out,rfl,rfl,hcc,hk,hown,hdo,hnum,hnx⟩:=hrel
 by_cases hlt:k < n
 . obtain⟨p,hp,hp1⟩:=qdb hdx k
   obtain⟨q,hq,hq1⟩:=qdb hdy k
   have HP:=Lib.hid hp
   have HQ:=Lib.hid hq
   clear hp hq
   obtain⟨s1,hs1⟩:∃ s1:Nat,p+2=s1+q+cc:=⟨p+2-q-cc,by omega⟩
   have hs3:s1<=3:=by omega
   go_wp2_with fail
   refine (qbd _ _ _ _ _ _ _ (hX.below hnx hhi) k _ p rfl HP.out (by omega)).mono ?_
   rintro e w1 ⟨rfl,rfl⟩
   go_wp2_with fail
   refine (qbd _ _ _ _ _ _ _ (hY.below hnx hhi') k _ q rfl HQ.out (by omega)).mono ?_
   rintro e w2 ⟨rfl,rfl⟩
   go_wp2_with (first
    | (at_builtin; refine qag _ rfl (.tmp 25) (.tmp 28) 171 rfl w.heap.size 5 i0 (.int .u8 0) 1 1 Tryz.underlying171 hi0 hz0 hz1 hz2 rfl (by decide) _ _ _ rfl (hown.alloc _) _ _ _ 1 1 [.int .u8 (((p:Int)+2-q-cc)%2)] rfl (qei _ _ _ _) ?c1 ?c2 ?c3 ?c4 ?_))
   case c1=>first | rfl | (intro u hu; simp at hu; subst hu; rfl)
   case c2=>unfold maxLen; omega
   case c3=>omega
   case c4=>have:=hnx.size; simp; omega
   intro A2 c2 w3 hown2 hgrow2 _
   have hnx2:Below w.heap.size w w3:=(hnx.alloc hnx.size _).grown hgrow2 (by have:=hnx.size; simp; omega) (fun q hq=>(hown.lt q hq).1)
   have hs:((p:Int)+2-q-cc)%2=((s1%2:Nat):Int):=by omega
   rw [hs] at hown2
   have hown3:w3.ownsRow w.heap.size 5 1 (.slice A2 (k+1) c2) (k+1) ((out++[((s1%2:Nat):Int)]).map (Value.int .u8)):=by simpa using hown2
   have hol:out.length=k:=by have:=hown.1; simpa using this
   have hnum2:=Lib.hid (quo hol hnum.out HP.out HQ.out hs1 hs3)
   have hdo2:=qgz hdo (s1%2) (by omega)
   have hb0:0<=(p:Int)+2-q-cc:=by omega
   have hb3:(p:Int)+2-q-cc<=3:=by omega
   have HS1:=Lib.hid hs1
   clear hs hs1 hown2 hgrow2 hol hown hnum
   go_wp2
   go_roundw
   case rel =>
    have hs1:=HS1.out
    exact⟨k+1,1-s1/2,_,by go_num,by congr 1; omega,by omega,by omega,hown3,hdo2,hnum2,hnx2⟩
   case measure=>simp [intOf]; omega
 obtain rfl:k=n:=by omega
 obtain⟨A2,c2,rfl,hc2,_⟩:=qbb hown
 have hol:out.length=k:=by have:=hown.1; simpa using this
 have hend:=qup hol hdo HL.out (by rw [HL2.out]; omega) hle hcc hnum.out
 rw [HS.out] at hend
 have hwf:∀ x∈out,IntKind.u8.min<=x/\x<=IntKind.u8.max:=fun x hx=>by
  have:=hdo x hx
  simp only [IntKind.min,IntKind.max,IntKind.signed,IntKind.bits]
  omega
 have hI:=qae.of_own hown hwf (by omega)
 have HE:=Lib.hid hend
 clear hown hnum hend hol
 go_wp2_with fail
 refine (qev _ _ _ _ _ _ _ hI hdo hc2).mono ?_
 rintro e w4 ⟨⟨m4,rfl,hm4,hI4⟩,rfl⟩
 rw [HE.out] at hI4
 go_wp2_with fail
 go_ret
 exact⟨A2,m4,c2,rfl,by omega,hnx,hI4⟩
theorem qhm(B:Nat):∀ (xs ys:List Int),(∀ j:Nat,xs[j]?.getD 0=ys[j]?.getD 0)->num B xs=num B ys
 | [],[],_=>rfl
 | [],y::ys,h=>by
  have h0:(0:Int)=y:=by simpa using h 0
  have ih:=qhm B [] ys fun j=>by simpa using h (j+1)
  simp only [num] at ih ⊢
  rw [<-ih,<-h0]
  simp
 | x::xs,[],h=>by
  have h0:x=(0:Int):=by simpa using h 0
  have ih:=qhm B xs [] fun j=>by simpa using h (j+1)
  simp only [num] at ih ⊢
  rw [ih,h0]
  simp
 | x::xs,y::ys,h=>by
  have h0:x=y:=by simpa using h 0
  have ih:=qhm B xs ys fun j=>by simpa using h (j+1)
  simp only [num]
  rw [ih,h0]
theorem qd5(B:Nat)(l:List Int)(k:Nat):num B l=num B (l.take k)+B^k*num B (l.drop k):=by
 by_cases h:k<=l.length
 . conv=>lhs; rw [<-List.take_append_drop k l]
   rw [qa8]
   simp [Nat.min_eq_left h]
 rw [List.take_of_length_le (by omega),List.drop_eq_nil_of_le (by omega)]
 simp [num]
theorem qip{B:Nat}(hB:0 < B){xs ys:List Int}{i:Nat}(hdx:Dig B xs)(_hdy:Dig B ys)(heq:∀ j,i < j->xs[j]?.getD 0=ys[j]?.getD 0)(hlt:(xs[i]?.getD 0).toNat < (ys[i]?.getD 0).toNat):num B xs < num B ys:=by
 rw [qd5 B xs (i+1),qd5 B ys (i+1),qdt,qdt]
 have hd:num B (xs.drop (i+1))=num B (ys.drop (i+1)):=qhm B _ _ fun j=>by
  rw [List.getElem?_drop,List.getElem?_drop]
  exact heq (i+1+j) (by omega)
 rw [hd]
 have h1:=qc0 B hB (xs.take i) fun x hx=>hdx x (List.mem_of_mem_take hx)
 have h2:B^(xs.take i).length<=B^i:=Nat.pow_le_pow_right hB (by simp; omega)
 have h3:B^i*((xs[i]?.getD 0).toNat+1)<=B^i*(ys[i]?.getD 0).toNat:=Nat.mul_le_mul_left _ hlt
 rw [Nat.mul_add,Nat.mul_one] at h3
 omega
def ql5(a b:Nat):Int:=if a < b then -1 else if a=b then 0 else 1
theorem qyt(w:World)(lo hi lo' hi':Nat)(A:Option Addr)(n c:Nat)(xs:List Int)(hX:qae w lo hi .u8 A n xs)(B:Option Addr)(m d:Nat)(ys:List Int)(hY:qae w lo' hi' .u8 B m ys)(hdx:Dig 2 xs)(hdy:Dig 2 ys)
  (hn:n<=1000000) (hm:m<=1000000) (hnm:n < m) (r:Int) (hr:ql5 (num 2 xs) (num 2 ys)=r) :
  Calls Tryz.prog 185 #[.slice A n c,.slice B m d] w fun e w'=>e=.returned (.int .i64 r)/\w'=w:=by
 have HR:=Lib.hid hr
 have heq0:∀ j,m<=j->xs[j]?.getD 0=ys[j]?.getD 0:=fun j hj=>by
  have h1:=hX.len
  have h2:=hY.len
  rw [List.getElem?_eq_none (by omega),List.getElem?_eq_none (by omega)]
 have H0:=Lib.hid heq0
 clear hr heq0
 go_enter Tryz.func185,Tryz.ntmps185
 go_wp2
 go_loopw [5] (fun i wr=>∃ j:Nat,i=.int .i64 ((j:Int)-1)/\j<=m/\Hid (∀ t,j<=t->xs[t]?.getD 0=ys[t]?.getD 0)/\wr=w) (fun i _=>(intOf i+1).toNat)
 case atStart=>exact⟨m,rfl,Nat.le_refl _,H0.out,rfl⟩
 obtain⟨j,rfl,hj,he,rfl⟩:=hrel
 rcases j with _|i
 . have hr0:r=0:=by
     rw [<-HR.out,qhm 2 xs ys fun t=>he.out t (Nat.zero_le _)]
     simp [ql5]
   go_wp2
   go_ret
   exact⟨qcb (by rw [hr0]),by trivial⟩
 have ei:((i+1:Nat):Int)-1=(i:Int):=by omega
 rw [ei]
 obtain⟨p,hp,hp1⟩:=qdb hdx i
 obtain⟨q,hq,hq1⟩:=qdb hdy i
 have HP:=Lib.hid hp
 have HQ:=Lib.hid hq
 clear hp hq ei
 by_cases hpq:p=q
 . subst hpq
   go_wp2_with fail
   refine (qbd _ _ _ _ _ _ _ hX i _ p rfl HP.out (by omega)).mono ?_
   rintro e w1 ⟨rfl,rfl⟩
   go_wp2_with fail
   refine (qbd _ _ _ _ _ _ _ hY i _ p rfl HQ.out (by omega)).mono ?_
   rintro e w2 ⟨rfl,rfl⟩
   go_wp2_with fail
   go_roundw
   case rel =>
    refine⟨i,by first | rfl | (congr 1; omega),by omega,fun t ht=>?_,by trivial⟩
    by_cases e:t=i
    . subst e
      rw [HP.out,HQ.out]
    exact he.out t (by omega)
   case measure=>first | (simp [intOf]; done) | (simp [intOf]; omega)
 by_cases hlt:p < q
 . have hr1:r=-1:=by
     have:=qip (by decide) hdx hdy (i:=i) (fun t ht=>he.out t ht) (by rw [HP.out,HQ.out]; simpa using hlt)
     rw [<-HR.out,ql5,if_pos this]
   obtain rfl:p=0:=by omega
   obtain rfl:q=1:=by omega
   have HR1:=Lib.hid hr1
   clear hr1
   go_wp2_with fail
   refine (qbd _ _ _ _ _ _ _ hX i _ 0 rfl HP.out (by omega)).mono ?_
   rintro e w1 ⟨rfl,rfl⟩
   go_wp2_with fail
   refine (qbd _ _ _ _ _ _ _ hY i _ 1 rfl HQ.out (by omega)).mono ?_
   rintro e w2 ⟨rfl,rfl⟩
   go_wp2_with fail
   refine (qbd _ _ _ _ _ _ _ hX i _ 0 rfl HP.out (by omega)).mono ?_
   rintro e w1 ⟨rfl,rfl⟩
   go_wp2_with fail
   refine (qbd _ _ _ _ _ _ _ hY i _ 1 rfl HQ.out (by omega)).mono ?_
   rintro e w2 ⟨rfl,rfl⟩
   go_wp2_with fail
   go_ret
   exact⟨qcb (by rw [HR1.out]),by trivial⟩
 have hr1:r=1:=by
  have:=qip (by decide) hdy hdx (i:=i) (fun t ht=>(he.out t ht).symm) (by rw [HP.out,HQ.out]; simp; omega)
  rw [<-HR.out,ql5,if_neg (by omega),if_neg (by omega)]
 obtain rfl:p=1:=by omega
 obtain rfl:q=0:=by omega
 have HR1:=Lib.hid hr1
 clear hr1
 go_wp2_with fail
 refine (qbd _ _ _ _ _ _ _ hX i _ 1 rfl HP.out (by omega)).mono ?_
 rintro e w1 ⟨rfl,rfl⟩
 go_wp2_with fail
 refine (qbd _ _ _ _ _ _ _ hY i _ 0 rfl HQ.out (by omega)).mono ?_
 rintro e w2 ⟨rfl,rfl⟩
 go_wp2_with fail
 refine (qbd _ _ _ _ _ _ _ hX i _ 1 rfl HP.out (by omega)).mono ?_
 rintro e w1 ⟨rfl,rfl⟩
 go_wp2_with fail
 refine (qbd _ _ _ _ _ _ _ hY i _ 0 rfl HQ.out (by omega)).mono ?_
 rintro e w2 ⟨rfl,rfl⟩
 go_wp2_with fail
 go_ret
 exact⟨qcb (by rw [HR1.out]),by trivial⟩
theorem qyu(w:World)(lo hi lo' hi':Nat)(A:Option Addr)(n c:Nat)(xs:List Int)(hX:qae w lo hi .u8 A n xs)(B:Option Addr)(m d:Nat)(ys:List Int)(hY:qae w lo' hi' .u8 B m ys)(hdx:Dig 2 xs)(hdy:Dig 2 ys)
  (hn:n<=1000000) (_hm:m<=1000000) (hnm:¬ n < m) (r:Int) (hr:ql5 (num 2 xs) (num 2 ys)=r) :
  Calls Tryz.prog 185 #[.slice A n c,.slice B m d] w fun e w'=>e=.returned (.int .i64 r)/\w'=w:=by
 have HR:=Lib.hid hr
 have heq0:∀ j,n<=j->xs[j]?.getD 0=ys[j]?.getD 0:=fun j hj=>by
  have h1:=hX.len
  have h2:=hY.len
  rw [List.getElem?_eq_none (by omega),List.getElem?_eq_none (by omega)]
 have H0:=Lib.hid heq0
 clear hr heq0
 go_enter Tryz.func185,Tryz.ntmps185
 go_wp2
 go_loopw [5] (fun i wr=>∃ j:Nat,i=.int .i64 ((j:Int)-1)/\j<=n/\Hid (∀ t,j<=t->xs[t]?.getD 0=ys[t]?.getD 0)/\wr=w) (fun i _=>(intOf i+1).toNat)
 case atStart=>exact⟨n,rfl,Nat.le_refl _,H0.out,rfl⟩
 obtain⟨j,rfl,hj,he,rfl⟩:=hrel
 rcases j with _|i
 . have hr0:r=0:=by
     rw [<-HR.out,qhm 2 xs ys fun t=>he.out t (Nat.zero_le _)]
     simp [ql5]
   go_wp2
   go_ret
   exact⟨qcb (by rw [hr0]),by trivial⟩
 have ei:((i+1:Nat):Int)-1=(i:Int):=by omega
 rw [ei]
 obtain⟨p,hp,hp1⟩:=qdb hdx i
 obtain⟨q,hq,hq1⟩:=qdb hdy i
 have HP:=Lib.hid hp
 have HQ:=Lib.hid hq
 clear hp hq ei
 by_cases hpq:p=q
 . subst hpq
   go_wp2_with fail
   refine (qbd _ _ _ _ _ _ _ hX i _ p rfl HP.out (by omega)).mono ?_
   rintro e w1 ⟨rfl,rfl⟩
   go_wp2_with fail
   refine (qbd _ _ _ _ _ _ _ hY i _ p rfl HQ.out (by omega)).mono ?_
   rintro e w2 ⟨rfl,rfl⟩
   go_wp2_with fail
   go_roundw
   case rel =>
    refine⟨i,by first | rfl | (congr 1; omega),by omega,fun t ht=>?_,by trivial⟩
    by_cases e:t=i
    . subst e
      rw [HP.out,HQ.out]
    exact he.out t (by omega)
   case measure=>first | (simp [intOf]; done) | (simp [intOf]; omega)
 by_cases hlt:p < q
 . have hr1:r=-1:=by
     have:=qip (by decide) hdx hdy (i:=i) (fun t ht=>he.out t ht) (by rw [HP.out,HQ.out]; simpa using hlt)
     rw [<-HR.out,ql5,if_pos this]
   obtain rfl:p=0:=by omega
   obtain rfl:q=1:=by omega
   have HR1:=Lib.hid hr1
   clear hr1
   go_wp2_with fail
   refine (qbd _ _ _ _ _ _ _ hX i _ 0 rfl HP.out (by omega)).mono ?_
   rintro e w1 ⟨rfl,rfl⟩
   go_wp2_with fail
   refine (qbd _ _ _ _ _ _ _ hY i _ 1 rfl HQ.out (by omega)).mono ?_
   rintro e w2 ⟨rfl,rfl⟩
   go_wp2_with fail
   refine (qbd _ _ _ _ _ _ _ hX i _ 0 rfl HP.out (by omega)).mono ?_
   rintro e w1 ⟨rfl,rfl⟩
   go_wp2_with fail
   refine (qbd _ _ _ _ _ _ _ hY i _ 1 rfl HQ.out (by omega)).mono ?_
   rintro e w2 ⟨rfl,rfl⟩
   go_wp2_with fail
   go_ret
   exact⟨qcb (by rw [HR1.out]),by trivial⟩
 have hr1:r=1:=by
  have:=qip (by decide) hdy hdx (i:=i) (fun t ht=>(he.out t ht).symm) (by rw [HP.out,HQ.out]; simp; omega)
  rw [<-HR.out,ql5,if_neg (by omega),if_neg (by omega)]
 obtain rfl:p=1:=by omega
 obtain rfl:q=0:=by omega
 have HR1:=Lib.hid hr1
 clear hr1
 go_wp2_with fail
 refine (qbd _ _ _ _ _ _ _ hX i _ 1 rfl HP.out (by omega)).mono ?_
 rintro e w1 ⟨rfl,rfl⟩
 go_wp2_with fail
 refine (qbd _ _ _ _ _ _ _ hY i _ 0 rfl HQ.out (by omega)).mono ?_
 rintro e w2 ⟨rfl,rfl⟩
 go_wp2_with fail
 refine (qbd _ _ _ _ _ _ _ hX i _ 1 rfl HP.out (by omega)).mono ?_
 rintro e w1 ⟨rfl,rfl⟩
 go_wp2_with fail
 refine (qbd _ _ _ _ _ _ _ hY i _ 0 rfl HQ.out (by omega)).mono ?_
 rintro e w2 ⟨rfl,rfl⟩
 go_wp2_with fail
 go_ret
 exact⟨qcb (by rw [HR1.out]),by trivial⟩
theorem qe9(w:World)(lo hi lo' hi':Nat)(A:Option Addr)(n c:Nat)(xs:List Int)(hX:qae w lo hi .u8 A n xs)(B:Option Addr)(m d:Nat)(ys:List Int)(hY:qae w lo' hi' .u8 B m ys)(hdx:Dig 2 xs)(hdy:Dig 2 ys)
  (hn:n<=1000000) (hm:m<=1000000) (r:Int) (hr:ql5 (num 2 xs) (num 2 ys)=r) :
  Calls Tryz.prog 185 #[.slice A n c,.slice B m d] w fun e w'=>e=.returned (.int .i64 r)/\w'=w:=by
 by_cases h:n < m
 . exact qyt w lo hi lo' hi' A n c xs hX B m d ys hY hdx hdy hn hm h r hr
 exact qyu w lo hi lo' hi' A n c xs hX B m d ys hY hdx hdy hn hm h r hr
end Dy
end Go.Proofs.YtmbppgjhdcmckaaGreatDoor
namespace Go.Proofs.YtmbppgjhdcmckaaGreatDoor
namespace Dp
def sg(s:Bool)(m:Nat):Int:=if s then -(m:Int) else m
def qlh(s:Bool)(m:Nat)(t:Bool)(n:Nat):Bool×Nat :=
 if s=t then (s,m+n) else if n<=m then (s,m-n) else (t,n-m)
def qci:Nat->Nat->Nat×Nat
 | 0,m=>(m,0)
 | k+1,m=>if m%2=0 then qci k (m/2) else (m,k+1)
theorem qkm:∀ (k m:Nat),∃ j,j<=k/\(qci k m).2=k-j/\m=(qci k m).1*2^j/\(j=k∨(qci k m).1%2=1)
 | 0,m=>⟨0,Nat.le_refl _,rfl,by simp [qci],.inl rfl⟩
 | k+1,m=>by
  by_cases h:m%2=0
  . obtain⟨j,h1,h2,h3,h4⟩:=qkm k (m/2)
    have e:qci (k+1) m=qci k (m/2):=by simp [qci,h]
    rw [e]
    refine⟨j+1,by omega,by omega,?_,by omega⟩
    rw [Nat.pow_succ,<-Nat.mul_assoc,<-h3]
    omega
  have e:qci (k+1) m=(m,k+1):=by simp [qci,h]
  rw [e]
  exact⟨0,by omega,by simp,by simp,.inr (by simp; omega)⟩
theorem qpy:∀ (k j m:Nat),j<=k->(j=k∨m%2=1)->qci k (m*2^j)=(m,k-j)
 | 0,j,m,h,_=>by
  obtain rfl:j=0:=by omega
  simp [qci]
 | k+1,0,m,_,h=>by
  have h1:m%2=1:=by omega
  simp [qci,h1]
 | k+1,j+1,m,h,h2=>by
  have e:m*2^(j+1)=m*2^j*2:=by rw [Nat.pow_succ,Nat.mul_assoc]
  have ih:=qpy k j m (by omega) (by omega)
  rw [e]
  simp only [qci]
  rw [if_pos (by omega),Nat.mul_div_cancel _ (by omega),ih]
  congr 1
  omega
structure Dn where
 neg:Bool
 m:Nat
 e:Nat
deriving DecidableEq
def Dn.zero:Dn:=⟨false,0,0⟩
def qyi:Nat:=1280
theorem q0r:qyi=1280:=rfl
def qjq:Nat:=2^qyi
theorem qht:qjq=2^qyi:=rfl
theorem qo6{m k:Nat}(h:m < 2^k)(hk:k<=1280):m < qjq:=Nat.lt_of_lt_of_le h (Nat.pow_le_pow_right (by decide) hk)
def Dn.May(a:Dn):Prop:=a.m < qjq/\a.e<=1024/\(a.m=0->a.e=0/\a.neg=false)/\(0 < a.e->a.m%2=1)
theorem qb8:Dn.zero.May:=⟨qo6 (k:=0) (by decide) (by decide),by decide,by decide,by decide⟩
def qa4(s:Bool)(m k:Nat):Dn×Int :=
 if m=0 then (Dn.zero,0) else if (qci k m).1 < qjq/\(qci k m).2<=1024 then (⟨s,(qci k m).1,(qci k m).2⟩,0) else (Dn.zero,10)
def vl(a:Dn)(k:Nat):Int:=sg a.neg (a.m*2^(k-a.e))
theorem qng(s:Bool)(m k:Nat):(qa4 s m k).2=0∨qa4 s m k=(Dn.zero,10):=by
 unfold qa4
 split
 . exact .inl rfl
 split
 . exact .inl rfl
 exact .inr rfl
theorem qfn(s:Bool)(m k:Nat):(qa4 s m k).1.May:=by
 unfold qa4
 split
 . exact qb8
 split
 . rename_i h0 h1
   obtain⟨j,h2,h3,h4,h5⟩:=qkm k m
   refine⟨h1.1,h1.2,fun h=>?_,fun h=>?_⟩
   . simp only at h
     rw [h] at h4
     omega
   simp only at h ⊢
   omega
 exact qb8
def qgt(a:Dn):Dn×Int:=qa4 a.neg a.m (a.e+1)
def cmpD(a b:Dn):Int:=if vl a (max a.e b.e) < vl b (max a.e b.e) then -1 else if vl a (max a.e b.e)=vl b (max a.e b.e) then 0 else 1
theorem qis(a:Dn):(qgt a).1.May:=qfn ..
end Dp
end Go.Proofs.YtmbppgjhdcmckaaGreatDoor