/- ratio.divide: a walk (printed by a program of mine). -/
import Derived.Laws.EntriesVeiled
import Derived.Test.YtmbppgjhdcmckaaGreatDoorBj07
import Derived.Lib.SmallJoins
set_option maxHeartbeats 102400000
set_option maxRecDepth 100000
namespace Go.Proofs.YtmbppgjhdcmckaaGreatDoor
open Go.RowKit
namespace Dy
open Dp
attribute [local go_sem] Oper.semAt_some
theorem qgq{w:World}{g:Nat}{o:Obj}(h:w.heap[g]? = some o):g < w.heap.size:=(Array.getElem?_eq_some_iff.1 h).1
structure DivI(w:World)(gq gr gy gf X Y n:Nat)(ys:List Int)(pre:List Nat)(O:Nat->Prop)(W:World):Prop where
 oq:O gq
 or_:O gr
 q:∃ qs,qbj W gq qs/\num 4294967296 qs=2^(n-pre.length)*(X/2^(n-pre.length)/Y)
 r:∃ rs,qbj W gr rs/\num 4294967296 rs=X/2^(n-pre.length)%Y
 y:qbj W gy ys
 f:W.heap[gf]? = some (.cells #[.func (.func 198) #[.pointer (some ⟨gr,0,none⟩)] #[]] 226 (0,0))
 bel:Below w.heap.size w W
theorem DivI.grown{w:World}{gq gr gy gf X Y n:Nat}{ys:List Int}{pre:List Nat}{O:Nat->Prop}{W W':World}{row:Option Nat}(h:DivI w gq gr gy gf X Y n ys pre O W)(hg:W.grownBy W' row)
  (hr:∀ r,row=some r->w.heap.size<=r/\r≠gq/\r≠gr/\r≠gy/\r≠gf):DivI w gq gr gy gf X Y n ys pre O W' where
 oq:=h.oq
 or_:=h.or_
 q:=by
  obtain⟨qs,h1,h2⟩:=h.q
  exact⟨qs,h1.of_heap (hg.block _ h1.lt (fun e=>(hr _ e.symm).2.1 rfl)),h2⟩
 r:=by
  obtain⟨rs,h1,h2⟩:=h.r
  exact⟨rs,h1.of_heap (hg.block _ h1.lt (fun e=>(hr _ e.symm).2.2.1 rfl)),h2⟩
 y:=h.y.of_heap (hg.block _ h.y.lt (fun e=>(hr _ e.symm).2.2.2.1 rfl))
 f:=(hg.block _ (qgq h.f) (fun e=>(hr _ e.symm).2.2.2.2 rfl)).trans h.f
 bel:=h.bel.grown hg h.bel.size (fun k e=>(hr _ e).1)
def Calm(Q:Exit->Act->World->Prop):Exit->Act->World->Prop
 | .panic _,_,_=>False
 | e,a,w=>Q e a w
theorem qzj{P:Program}{c:Code}{Q:Exit->Act->World->Prop}{a:Act}{w:World}(h:c.wp P (Calm Q) a w):c.wp P Q a w :=
 Code.wp_mono (fun e a w h=>by
  cases e with
  | panic _=>exact h.elim
  | _=>exact h) h
theorem qpa{Q:Exit->Act->World->Prop}{a:Act}{w:World}(h:Q .normal a w):Calm Q .normal a w:=h
theorem qab{P:Program}{fn:Func}{p q:Tmp}{ty:TypeId}(h:fn.results=#[.cell p ty,.tmp q])(tmps:Array Value)(w:World)(g:Nat)(t:TypeId)(cs:Array Value)(fr:Nat×Nat)(d:TypeDesc)(v:Value)
  (hp:tmps.getD p undef=.pointer (some ⟨g,0,none⟩)) (hq:tmps.getD q undef=v) (hg:w.heap[g]? = some (.cells cs t fr))
  (hu:P.underlying ty=some d) (hd:(match d with | .struct _ | .array _ _=>true | _=>false)=true) (hi:(P.info? ty).map (·.size)=some cs.size) :
  (results fn tmps).run P w=.ok (.tuple #[.agg cs,v]) w:=by
 have hp':tmps[p]?.getD undef=.pointer (some ⟨g,0,none⟩):=by simpa using hp
 have hq':tmps[q]?.getD undef=v:=by simpa using hq
 simp [results,h,hp',hq',asAddr,run_loadVar_row w g t ty cs fr d hg hu hd hi]
theorem qxm(p b r:Nat)(hb:b<=1)(_hr:r < 32)(hp:p%2^(r+1)=0)(hs:p+b*2^r < 4294967296):bits .or .u32 (p:Int) ((b:Int)*2^r%4294967296)=((p+b*2^r:Nat):Int):=by
 have hlt:b*2^r < 4294967296:=by omega
 have e:((b:Int)*2^r%4294967296)=((b*2^r:Nat):Int):=by
  have:((b:Int)*2^r)=((b*2^r:Nat):Int):=by push_cast; rfl
  rw [this]
  omega
 rw [e,u32_or_nat _ _ (by omega) hlt,nat_join (r+1) _ _ hp (by
  have:b*2^r<=1*2^r:=Nat.mul_le_mul_right _ hb
  have h2:0 < 2^r:=Nat.pow_pos (by decide)
  rw [Nat.pow_succ]
  omega)]
theorem qsd{g B:Nat}{w w':World}(h:qbq g w w')(hg:g < B):KeepsFrom B w w':=⟨h.size,fun k _ hB hk _=>(h.block k (qgq hk) (by omega)).trans hk⟩
theorem qvf{g:Nat}{O:Nat->Prop}{w w':World}(h:qbq g w w')(hg:O g):qfr O O w w':=⟨h.size,fun k _ _ _ hO hk=>(h.block k (qgq hk) (fun e=>hO (e▸hg))).trans hk,fun _ h=>.inl h⟩
theorem qv0(w:World)(o1 o2 o3 o4 o5:Obj){w1:World}(hw:((((w.alloc o1).alloc o2).alloc o3).alloc o4).alloc o5=w1):w1.heap[w.heap.size]? = some o1/\w1.heap[w.heap.size+1]? = some o2/\w1.heap[w.heap.size+1+1]? = some o3/\w1.heap[w.heap.size+1+1+1]? = some o4/\w1.heap[w.heap.size+1+1+1+1]? = some o5/\Below w.heap.size w w1/\w.heap.size+5<=w1.heap.size/\w1.heap.size<=w.heap.size+5:=by
 subst hw
 have a1:=heap_alloc_last w o1
 have a2:=heap_alloc_last (w.alloc o1) o2
 have a3:=heap_alloc_last ((w.alloc o1).alloc o2) o3
 have a4:=heap_alloc_last (((w.alloc o1).alloc o2).alloc o3) o4
 have a5:=heap_alloc_last ((((w.alloc o1).alloc o2).alloc o3).alloc o4) o5
 have s1:(w.alloc o1).heap.size=w.heap.size+1:=by simp
 have s2:((w.alloc o1).alloc o2).heap.size=w.heap.size+1+1:=by simp
 have s3:(((w.alloc o1).alloc o2).alloc o3).heap.size=w.heap.size+1+1+1:=by simp
 have s4:((((w.alloc o1).alloc o2).alloc o3).alloc o4).heap.size=w.heap.size+1+1+1+1:=by simp
 have s5:(((((w.alloc o1).alloc o2).alloc o3).alloc o4).alloc o5).heap.size=w.heap.size+1+1+1+1+1:=by simp
 rw [s1] at a2
 rw [s2] at a3
 rw [s3] at a4
 rw [s4] at a5
 refine⟨?_,?_,?_,?_,a5,?_,by omega,by omega⟩
 . rw [Below.heap_alloc _ _ _ (by omega),Below.heap_alloc _ _ _ (by omega),Below.heap_alloc _ _ _ (by omega),Below.heap_alloc _ _ _ (by omega)]
   exact a1
 . rw [Below.heap_alloc _ _ _ (by omega),Below.heap_alloc _ _ _ (by omega),Below.heap_alloc _ _ _ (by omega)]
   exact a2
 . rw [Below.heap_alloc _ _ _ (by omega),Below.heap_alloc _ _ _ (by omega)]
   exact a3
 . rw [Below.heap_alloc _ _ _ (by omega)]
   exact a4
 exact (((((Below.refl _ w).alloc (Nat.le_refl _) _).alloc (by omega) _).alloc (by omega) _).alloc (by omega) _).alloc (by omega) _
theorem qr9{l:List Int}(h:num 4294967296 l < 4294967296^l.length)(hl:l.length=76):∃ n,qj4 (num 4294967296 l) n/\n<=2432:=by
 obtain⟨K,hK⟩:∃ K,l.length=K:=⟨_,rfl⟩
 have e:(4294967296:Nat)^K=2^(32*K):=by rw [Nat.pow_mul]
 rw [hK,e] at h
 generalize num 4294967296 l=N at *
 by_cases h0:N=0
 . exact⟨0,.inl ⟨h0,rfl⟩,by omega⟩
 have h3:=(Nat.log2_lt h0).2 h
 refine⟨N.log2+1,.inr ⟨by omega,?_,Nat.lt_log2_self⟩,by omega⟩
 rw [Nat.add_sub_cancel]
 exact Nat.log2_self_le h0
theorem qzc{N n:Nat}(h:qj4 N n):N < 2^n:=by
 rcases h with ⟨h1,h2⟩|⟨_,_,h3⟩
 . rw [h1]
   exact Nat.pow_pos (by decide)
 exact h3
theorem qtr(w:World)(p:Addr)(v:Value):(w.setCell p v).heap.size=w.heap.size:=by simp [World.setCell]
theorem qve{O:Nat->Prop}{w:World}{p:Addr}(hp:O p.block)(v:Value):qfr O O w (w.setCell p v):=⟨by simp [World.setCell],fun k _ _ _ hk h=>by
  have:p.block≠k:=fun e=>hk (e▸hp)
  rw [<-h]
  simp [World.setCell,Array.getElem?_modify,this],fun _ h=>.inl h⟩
theorem qkv(w:World)(xs ys:List Int)(hxl:xs.length=76)(hxd:Dig 4294967296 xs)(hyl:ys.length=76)(hyd:Dig 4294967296 ys)(hy0:0 < num 4294967296 ys)(hyb:2*num 4294967296 ys<=4294967296^76)(b:Bool)(hb:decide (num 4294967296 xs%num 4294967296 ys=0)=b) :
  Calls Tryz.prog 172 #[.agg (qat xs),.agg (qat ys)] w fun e w'=>∃ qs,e=.returned (.tuple #[.agg (qat qs),.bool (!b)])/\Below w.heap.size w w'/\qs.length=76/\Dig 4294967296 qs/\num 4294967296 qs=num 4294967296 xs/num 4294967296 ys:=by
 have hmx:Tryz.prog.follows .mixedOrders=true:=by kernel_rfl
 have HB:=Lib.hid hb
 have HXL:=Lib.hid hxl
 have HYL:=Lib.hid hyl
 have HY0:=Lib.hid hy0
 have HYB:=Lib.hid hyb
 clear hb hxl hyl hy0 hyb
 obtain⟨hz,hi81⟩:=zero_of_info Tryz.info157
 have hI:=Lib.hid hi81
 clear hi81
 have hz76:(num 4294967296 qas=0)/\qas.length=76/\Dig 4294967296 qas:=⟨qe0 _ _,by simp [qas],fun x hx=>by have:=List.eq_of_mem_replicate hx; omega⟩
 have HZ:=Lib.hid hz76
 clear hz76
 have hmf:∀ (fn:Fn) (first cap:Array Value) (w:World),(Instr.makeFunc fn first cap).run Tryz.prog w=.ok (.func fn first cap) w:=fun _ _ _ _=>rfl
 generalize hw:((((w.alloc (.cells (qat xs) 157)).alloc (.cells (qat ys) 157)).alloc (.cells (qat qas) 157)).alloc (.cells (qat qas) 157)).alloc (.cells #[.nilFunc] 226)=w1
 obtain⟨hX1,hY1,hQ1,hR1,hF1,hb1,ls1,ls2⟩:=qv0 w _ _ _ _ _ hw
 have k1:w1.cell? ⟨w.heap.size+1+1+1+1,0,none⟩=some .nilFunc:=cell_of_row w1 (w.heap.size+1+1+1+1) 0 _ _ _ hF1
 have k2:=frozen_of_row w1 (w.heap.size+1+1+1+1) 0 _ _ hF1
 refine (callsIn_wide (n:=5)).1 ?_
 refine callsIn_of_wp_marks Tryz.func172 rfl trivial ?_ rfl
 refine wpIn_wide.2 ?_
 simp only [Tryz.ntmps172,List.size_toArray,List.length_cons,List.length_nil,Nat.reduceAdd,Nat.reduceSub,Array.replicate_succ,Array.replicate_zero,List.push_toArray,List.append_toArray,List.nil_append,List.cons_append]
 have hF2:(w1.setCell ⟨w.heap.size+1+1+1+1,0,none⟩ (.func (.func 198) #[.pointer (some ⟨w.heap.size+1+1+1,0,none⟩)] #[])).heap[w.heap.size+1+1+1+1]? = some (.cells #[.func (.func 198) #[.pointer (some ⟨w.heap.size+1+1+1,0,none⟩)] #[]] 226 (0,0)):=by
  simp [World.setCell,Array.getElem?_modify,hF1]
 have hfar:∀ k,k≠w.heap.size+1+1+1+1->(w1.setCell ⟨w.heap.size+1+1+1+1,0,none⟩ (.func (.func 198) #[.pointer (some ⟨w.heap.size+1+1+1,0,none⟩)] #[])).heap[k]? = w1.heap[k]? := fun k hk=>Below.heap_setCell _ _ _ _ hk
 have hb2:Below w.heap.size w (w1.setCell ⟨w.heap.size+1+1+1+1,0,none⟩ (.func (.func 198) #[.pointer (some ⟨w.heap.size+1+1+1,0,none⟩)] #[])):=hb1.setCell (by simp; omega) _
 have hsz2:(w1.setCell ⟨w.heap.size+1+1+1+1,0,none⟩ (.func (.func 198) #[.pointer (some ⟨w.heap.size+1+1+1,0,none⟩)] #[])).heap.size=w1.heap.size:=by simp [World.setCell]
 obtain⟨w2,hw2⟩:∃ w2,w1.setCell ⟨w.heap.size+1+1+1+1,0,none⟩ (.func (.func 198) #[.pointer (some ⟨w.heap.size+1+1+1,0,none⟩)] #[])=w2:=⟨_,rfl⟩
 rw [hw2] at hF2 hb2 hsz2
 simp only [hw2] at hfar
 have hX2:=(hfar _ (by omega)).trans hX1
 have hY2:=(hfar _ (by omega)).trans hY1
 have hQ2:=(hfar _ (by omega)).trans hQ1
 have hR2:=(hfar _ (by omega)).trans hR1
 have ls3:w.heap.size+5<=w2.heap.size:=by omega
 have ls4:w2.heap.size<=w.heap.size+5:=by omega
 clear hfar hsz2 hX1 hY1 hQ1 hR1
 have hsx:(Tryz.prog.info? 157).map (·.size)=some (qat xs).size:=by rw [qau,HXL.out]; exact hI.out
 have HSX:=Lib.hid hsx
 clear hsx
 go_wp2_with (first
  | (refine wpList_load_row rfl 157 (.tmp 2) rfl w.heap.size rfl _ _ _ _ hX2 Tryz.underlying157 rfl HSX.out ?_))
 clear k1 k2 hF1 hb1 hw hw2
 refine (qsw w2 xs).mono ?_
 rintro e w3 ⟨rfl,rfl⟩
 generalize hw3:w2.alloc (.cells (qat xs) 157)=w3
 have hX3:w3.heap[w2.heap.size]? = some (.cells (qat xs) 157 (0,0)):=by rw [<-hw3]; exact heap_alloc_last _ _
 have hB3:Below w2.heap.size w2 w3:=by rw [<-hw3]; exact (Below.refl _ _).alloc (Nat.le_refl _) _
 have ls5:w2.heap.size < w3.heap.size:=by rw [<-hw3]; simp
 replace hY2:=(hB3.block _ (by omega)).trans hY2
 replace hQ2:=(hB3.block _ (by omega)).trans hQ2
 replace hR2:=(hB3.block _ (by omega)).trans hR2
 replace hF2:=(hB3.block _ (by omega)).trans hF2
 replace hb2:=hb2.trans (hB3.mono (by omega))
 clear hX2 hw3 hB3
 go_wp2_with fail
 obtain⟨n,hn,hn2⟩:=qr9 (qc0 4294967296 (by decide) xs hxd) HXL.out
 have HN:=Lib.hid hn
 clear hn
 obtain⟨B0,hB0⟩:∃ B0,B0=w3.heap.size:=⟨_,rfl⟩
 have lb1:B0<=w3.heap.size:=by omega
 have lb2:w3.heap.size<=B0:=by omega
 have hWX:qbj w3 w2.heap.size xs:=⟨hX3,HXL.out,hxd⟩
 have hWY:qbj w3 (w.heap.size+1) ys:=⟨hY2,HYL.out,hyd⟩
 have hWQ:qbj w3 (w.heap.size+1+1) qas:=⟨hQ2,HZ.out.2.1,HZ.out.2.2⟩
 have hWR:qbj w3 (w.heap.size+1+1+1) qas:=⟨hR2,HZ.out.2.1,HZ.out.2.2⟩
 clear hX3 hY2 hQ2 hR2 hB0
 refine (wpIn_wide (n:=5)).1 ?_
 refine qb3 (F:=Fence.wide) rfl (by decide) (gf:=210) (lb:=#[(.pointer (some ⟨w2.heap.size,0,none⟩))]) rfl trivial (enters_of Tryz.func210 (by kernel_rfl) rfl)
  (qsv _ _ xs n HN.out hn2 w3 hWX) (by omega) (fun _=>rfl)
  (fun pre O W=>w3.heap.size<=W.heap.size/\DivI w (w.heap.size+1+1) (w.heap.size+1+1+1) (w.heap.size+1) (w.heap.size+1+1+1+1) (num 4294967296 xs) (num 4294967296 ys) n ys pre O W)
  (fun _ _ _ _=>False)
  (fun O s A B row hs hg hr=>⟨Nat.le_trans hs.1 hg.size,hs.2.grown hg (fun r e=>by have:=(hr r e).1; omega)⟩)
  (fun j O s A B row hs hg hr=>hs)
  (fun s O A B row hs hg hr=>⟨Nat.le_trans hs.1 hg.size,hs.2.grown hg (fun r e=>by have:=hr r e; omega)⟩)
  (fun j s O A B row hs hg hr=>hs)
  (fun k=>k=w.heap.size+1+1∨k=w.heap.size+1+1+1) (fun k hk e=>by omega) (fun k e=>by omega) ⟨Nat.le_refl _,.inl rfl,.inr rfl,⟨qas,hWQ,by rw [HZ.out.1,List.length_nil,Nat.sub_zero,Nat.div_eq_of_lt (qzc HN.out)]; simp⟩,⟨qas,hWR,by rw [HZ.out.1,List.length_nil,Nat.sub_zero,Nat.div_eq_of_lt (qzc HN.out)]; simp⟩,hWY,hF2,hb2⟩
  (fun x a' W=>a'={ tmps:=#[.agg (qat xs),.agg (qat ys),(.pointer (some ⟨w.heap.size,0,none⟩)),(.pointer (some ⟨w.heap.size+1,0,none⟩)),(.pointer (some ⟨w.heap.size+1+1,0,none⟩)),.bool false,(.pointer (some ⟨w.heap.size+1+1+1,0,none⟩)),(.pointer (some ⟨w.heap.size+1+1+1+1,0,none⟩)),.int .i64 (x:Int),.int .u32 (q2a (num 4294967296 xs) x:Int),.func (.func 198) #[(.pointer (some ⟨w.heap.size+1+1+1,0,none⟩))] #[],.agg (qat xs),.func (.func 210) #[] #[(.pointer (some ⟨w2.heap.size,0,none⟩))],.int .i64 (x:Int),.int .u32 (q2a (num 4294967296 xs) x:Int),undef,undef,undef,undef,undef,undef,undef,undef,undef,undef,undef,undef,undef,undef,undef,undef],defers:=[] })
  (fun x a' _ _ _ _ h _ _=>h) ?assign ?body ?done ?stop
 case assign =>
  intro l pre x O W K hgx hsW hi hK
  unfold encB
  gi_wp2
  exact hK _ _ (KeepsFrom.refl _ _) (qfr.refl _ _) hi rfl
 case body =>
  rintro l pre k O a0 W ⟨hkn,hpre⟩ hsW ⟨hsz,h⟩ rfl _
  obtain⟨qs,hq,hqn⟩:=h.q
  obtain⟨rs,hr,hrn⟩:=h.r
  have hpl:pre.length=n-(k+1):=by rw [hpre,qjk]
  rw [hpl,show n-(n-(k+1))=k+1 by omega] at hqn hrn
  have hk2:k/32 < 76:=by omega
  obtain⟨p,hp,hp2⟩:=qa3 (by decide) hq.dig (k/32)
  have hbit:=q0k (num 4294967296 xs) k
  have hd1:num 4294967296 xs/2^k%2<=1:=by omega
  obtain⟨d1,d2⟩:=ql3 (H:=num 4294967296 xs/2^(k+1)) HY0.out hd1
  rw [<-hbit,<-hrn] at d1 d2
  obtain⟨d,hd⟩:∃ d,q2a (num 4294967296 xs) k=d:=⟨_,rfl⟩
  rw [show num 4294967296 xs/2^k%2=d from hd] at d1 d2 hd1
  have HD:=Lib.hid hd
  obtain⟨s,hs⟩:∃ s,2*num 4294967296 rs+d=s:=⟨_,rfl⟩
  rw [hs] at d1 d2
  have hrlt:num 4294967296 rs < num 4294967296 ys:=by rw [hrn]; exact Nat.mod_lt _ HY0.out
  have hslt:s < 4294967296^76:=by
   have h1:=HYB.out
   generalize 4294967296^76=m at *
   omega
  obtain⟨b1,r1,hb1,hr1,hb2',hr2',hq2'⟩:∃ b1 r1,(if num 4294967296 ys<=s then 1 else 0)=b1/\(if num 4294967296 ys<=s then s-num 4294967296 ys else s)=r1/\b1<=1/\num 4294967296 xs/2^k%num 4294967296 ys=r1/\num 4294967296 xs/2^k/num 4294967296 ys=2*(num 4294967296 xs/2^(k+1)/num 4294967296 ys)+b1:=by
   by_cases hle:num 4294967296 ys<=s
   . exact⟨1,_,by rw [if_pos hle],rfl,by omega,by rw [if_pos hle]; exact (d1 hle).1,(d1 hle).2⟩
   exact⟨0,_,by rw [if_neg hle],rfl,by omega,by rw [if_neg hle]; exact (d2 (by omega)).1,(d2 (by omega)).2⟩
  obtain⟨p1,p2,p3,p4⟩:=qzy hq.dig (by rw [hq.len]; exact hk2) hqn hb2' hp
  obtain⟨r,hr32⟩:∃ r,k%32=r:=⟨_,rfl⟩
  have hr1':r < 32:=by omega
  rw [hr32] at p1 p2 p3 p4
  obtain⟨t,ht⟩:∃ t,b1*2^r=t:=⟨_,rfl⟩
  have hor:=qxm p b1 r hb2' hr1' p1 p2
  have e0:((b1:Int)*2^r)=(t:Int):=by rw [<-ht]; push_cast; rfl
  rw [ht] at p2 p3 p4 hor
  have hw3:IntKind.u32.wrap ((b1:Int)*2^r)=(t:Int):=by
   rw [e0,IntKind.wrap_u32]
   omega
  have hw4:((b1:Int)*2^r)%4294967296=(t:Int):=by
   rw [e0]
   omega
  rw [hw4] at hor
  obtain⟨y,hy⟩:∃ y,p+t=y:=⟨_,rfl⟩
  rw [hy] at p2 p3 p4 hor
  have hw1:IntKind.i64.wrap ((k:Int)/32)=(k:Int)/32:=by rw [IntKind.wrap_i64]; omega
  have hw2:(k:Int).tmod 32=(r:Int):=by rw [Int.tmod_eq_emod_of_nonneg (by omega)]; omega
  have hw5:((k:Int)/32).toNat=k/32:=by omega
  have hr0:(0:Int)<=r:=by omega
  have HR32:=Lib.hid hr32
  clear e0 hr32
  clear ht hy
  rw [<-hq2'] at p4
  have P4:=Lib.hid p4
  have HS:=Lib.hid hs
  have HB1:=Lib.hid hb1
  have HR1:=Lib.hid hr1
  have HRN:=Lib.hid hr2'
  have HP:=Lib.hid hp
  have HL:=Lib.hid hpl
  have c1:=hq.cell hk2
  rw [hp] at c1
  clear hqn hrn hbit d1 d2 hs hb1 hr1 hr2' hq2' p4 hp hpl hpre hd hrlt p1
  rw [HD.out]
  have hk0:(0:Int)<=k:=by omega
  have hk1:(k:Int)/32 < 76:=by omega
  have hk3:(0:Int)<=(k:Int)/32:=by omega
  gi_wp2
  refine qgi (fun W'=>W'.heap[w.heap.size+1+1]? = W.heap[w.heap.size+1+1]? /\ W'.heap[w.heap.size+1+1+1+1]? = W.heap[w.heap.size+1+1+1+1]?) [12] (m:=13) (L:=#[zF,zF,zF,zF,zF,zF,zF,zF,zF,zF,zF,zF,zF]) hmx (by kernel_rfl) (fun _ _ h=>h) (by rfl) (by rfl) ?_
  have hS0:W.drew.heap[w.heap.size+1+1]? = W.heap[w.heap.size+1+1]? /\ W.drew.heap[w.heap.size+1+1+1+1]? = W.heap[w.heap.size+1+1+1+1]? := ⟨rfl,rfl⟩
  refine zM 3 [0,1,2] ?_ ?_
  refine zD 3 (.int .u32 p) rfl ?ry3 ?rr3
  case ry3 =>
   intro w' h1
   have c1:=(hq.of_heap h1.1).cell hk2
   rw [HP.out] at c1
   go_simp
  try simp only [Act.put,zp]
  refine zD 4 (.func (.func 198) #[(.pointer (some ⟨w.heap.size+1+1+1,0,none⟩))] #[]) rfl ?ry4 ?rr4
  case ry4 =>
   intro w' h1
   have c2:w'.cell? ⟨w.heap.size+1+1+1+1,0,none⟩=some (.func (.func 198) #[(.pointer (some ⟨w.heap.size+1+1+1,0,none⟩))] #[]):=cell_of_row w' (w.heap.size+1+1+1+1) 0 _ _ _ (h1.2.trans h.f)
   go_simp
  try simp only [Act.put,zp]
  refine zM 3 [5,7,8] ?_ ?_
  refine zK 6 rfl fun K hK=>?_
  go_simp
  go_at_call 198
  refine (qum W.drew (w.heap.size+1+1+1) (w.heap.size+1) (by omega) rs ys (hr.of_heap rfl) (h.y.of_heap rfl) d hd1 s HS.out hslt b1 r1 HB1.out HR1.out).mono ?_
  rintro e W2 ⟨rfl,hO,rs2,hr2,hrn2⟩
  have hO1:qbq (w.heap.size+1+1+1) W W2:=((qbq.refl _ W).drew).trans hO
  have HRN2:=Lib.hid hrn2
  clear hO hrn2
  have hq2:qbj W2 (w.heap.size+1+1) qs:=hq.of_heap (hO1.block _ hq.lt (by omega))
  have hf2:=(hO1.block _ (qgq h.f) (by omega)).trans h.f
  have hy2:qbj W2 (w.heap.size+1) ys:=h.y.of_heap (hO1.block _ h.y.lt (by omega))
  have hb2:=hO1.below h.bel (by omega) h.bel.size
  refine hK _ _ ⟨fun _ _=>⟨hO1.block _ hq.lt (by omega),hO1.block _ (qgq h.f) (by omega)⟩,?_⟩
  clear hK K hS0
  try simp only [Act.put,zp]
  refine zM 3 [9,10,11] ?_ ?_
  have c3:=hq2.cell hk2
  have f3:=hq2.free (k/32)
  rw [HP.out] at c3
  refine zK 12 rfl fun K hK=>?_
  go_simp
  refine hK _ _ ⟨fun h=>absurd h (by decide),?_⟩
  clear hK K
  try simp only [Act.put,zp]
  refine qa2 (by kernel_rfl) ?_ _
  clear c3 f3
  try rw [hor]
  gi_wp2
  have hfar:∀ j,j≠w.heap.size+1+1->(W2.setCell ⟨w.heap.size+1+1,k/32,none⟩ (.int .u32 (y:Int))).heap[j]? = W2.heap[j]? := fun j hj=>Below.heap_setCell _ _ _ _ hj
  refine⟨(qsd hO1 (by omega)).trans ((KeepsOthers.setCell _ _ _).from _),O,(qvf hO1 h.or_).trans (qve h.oq _),by have:=hO1.size; rw [qtr]; omega,h.oq,h.or_,⟨_,hq2.set (k/32) _ p2,?_⟩,⟨rs2,hr2.of_heap (hfar _ (by omega)),?_⟩,hy2.of_heap (hfar _ (by omega)),(hfar _ (by omega)).trans hf2,hb2.setCell (by simp; omega) _⟩
  . rw [List.length_append,HL.out,List.length_singleton,show n-(n-(k+1)+1)=k by omega]
    exact P4.out
  rw [List.length_append,HL.out,List.length_singleton,show n-(n-(k+1)+1)=k by omega]
  exact HRN2.out.trans HRN.out.symm
 case done =>
  rintro D pre O W hD hS ⟨hsz,h⟩ hK
  obtain⟨qs,hq,hqn⟩:=h.q
  obtain⟨rs,hr,hrn⟩:=h.r
  rw [hS,qjk,Nat.sub_zero,Nat.sub_self,Nat.pow_zero,Nat.div_one] at hqn hrn
  rw [Nat.one_mul] at hqn
  have HQN:=Lib.hid hqn
  have HRB:=Lib.hid (show decide (num 4294967296 rs=0)=b by rw [hrn]; exact HB.out)
  have hbel:=h.bel
  have hql:=Lib.hid hq.len
  have hrl:=Lib.hid hr.len
  clear h hS hqn hrn hWX hWY hWQ hWR hF2 hb2
  go_wp2_with fail
  refine qzj ?_
  refine zB (fun W'=>W'.heap[w.heap.size+1+1]? = W.heap[w.heap.size+1+1]? /\ W'.heap[w.heap.size+1+1+1]? = W.heap[w.heap.size+1+1+1]?) [] 6 ?_
  have hS0:W.drew.heap[w.heap.size+1+1]? = W.heap[w.heap.size+1+1]? /\ W.drew.heap[w.heap.size+1+1+1]? = W.heap[w.heap.size+1+1+1]? := ⟨rfl,rfl⟩
  refine zD 0 (.agg (qat qs)) rfl ?rz0 ?rw0
  case rz0 =>
   rintro w' ⟨h1,_⟩
   exact qgx 157 (.tmp 4) (by rfl) (w.heap.size+1+1) 0 (by rfl) (qs.map (Value.int .u32)) (.array 76 48) (q1i (hq.of_heap h1)) Tryz.underlying157 (by rfl) (by rw [hI.out]; simp [hql.out])
  try simp only [Act.put,zp]
  refine zD 1 (.agg (qat rs)) rfl ?rz1 ?rw1
  case rz1 =>
   rintro w' ⟨_,h2⟩
   exact qgx 157 (.tmp 6) (by rfl) (w.heap.size+1+1+1) 0 (by rfl) (rs.map (Value.int .u32)) (.array 76 48) (q1i (hr.of_heap h2)) Tryz.underlying157 (by rfl) (by rw [hI.out]; simp [hrl.out])
  try simp only [Act.put,zp]
  refine zD 2 (.agg (qat qas)) rfl ?rz2 ?rw2
  case rz2 =>
   intro w' _
   exact qss rfl
  try simp only [Act.put,zp]
  refine zD 3 (.bool (!b)) rfl ?rz3 ?rw3
  case rz3 =>
   intro w' _
   have heq:=qvk w' rs hrl.out hr.dig b HRB.out
   go_simp
  try simp only [Act.put,zp]
  refine qwz (i:=4) (L:=#[zT,zT,zT,zT,zT,zF]) rfl (by rfl) (by kernel_rfl) (by rfl) ?_
  refine wp_store_row 157 (.tmp 4) (.tmp 27) rfl (w.heap.size+1+1) (qat qs) rfl rfl _ _ (hq.of_heap (w':=W.drew) rfl).blk (by rw [hI.out,qau,hql.out]) rfl (qde qs) ⟨fun _ _=>⟨(setRow_heap _ _ _ _ _ _ (hq.of_heap (w':=W.drew) rfl).blk).trans hq.blk.symm,(setRow_other _ _ _ _ (by omega)).trans rfl⟩,?_⟩
  try simp only [Act.put,zp]
  have hV:=setRow_heap _ _ _ (qat qs) _ _ (hq.of_heap (w':=W.drew) rfl).blk
  have hVK:(W.drew.setRow (w.heap.size+1+1) (qat qs)).heap[D]? = some (.deferred (some [])):=(setRow_other _ _ _ _ (by omega)).trans hK
  have hVb:=qcf (hbel.drew) (show w.heap.size<=w.heap.size+1+1 by omega) (qat qs)
  generalize W.drew.setRow (w.heap.size+1+1) (qat qs)=V at *
  refine zM 1 [5] ?_ ?_
  refine qa2 (by kernel_rfl) (qpa ?_) _
  go_wp2
  refine⟨by simp,.inl ⟨_,_,rfl,run_takeDeferred hVK,?_⟩⟩
  refine⟨.tuple #[.agg (qat qs),.bool (!b)],?_,qs,rfl,hVb.trans (belowK_b (w:=w) (Nat.le_refl _) V D _ _ (by omega) hVK rfl rfl),hql.out,hq.dig,HQN.out⟩
  exact qab Tryz.results172 _ _ (w.heap.size+1+1) _ _ _ _ _ rfl rfl ((World.putObj_heap_other (o:=.deferred none) (by omega)).trans hV) Tryz.underlying157 rfl (by rw [hI.out,qau,hql.out])
 case stop =>
  rintro D c pre O W hD hSp hf hK
  exact hf.elim
end Dy
end Go.Proofs.YtmbppgjhdcmckaaGreatDoor
namespace Go.Proofs.YtmbppgjhdcmckaaGreatDoor
open Go.RowKit
namespace Dy
open Dp
open Classical in
noncomputable def qyg(s1:Bool)(xs1:List Int)(e1:Int):Int:=if qik s1 xs1 e1 then 0 else 8
theorem qef(w:World)(s1:Bool)(A1:Option Addr)(n1 c1:Nat)(xs1:List Int)(e1:Int)(h1:qae w 0 w.heap.size .u32 A1 n1 xs1)(k:Int)(h:qyg s1 xs1 e1=k) :
  Calls Tryz.prog 137 #[.agg #[.bool s1,.slice A1 n1 c1,.int .i64 e1]] w fun e w'=>e=.returned (.int .i64 k)/\Below w.heap.size w w':=by
 unfold qyg at h
 split at h
 . subst h
   exact qmf w 0 w.heap.size s1 A1 n1 c1 xs1 e1 h1 (Nat.le_refl _) (by assumption)
 subst h
 exact qj7 w 0 w.heap.size s1 A1 n1 c1 xs1 e1 h1 (Nat.le_refl _) (by assumption)
theorem qpd(w:World)(o1 o2:Obj){w1:World}(hw:(w.alloc o1).alloc o2=w1):w1.heap[w.heap.size]? = some o1/\w1.heap[w.heap.size+1]? = some o2/\Below w.heap.size w w1/\w.heap.size+2<=w1.heap.size/\w1.heap.size<=w.heap.size+2:=by
 subst hw
 have a2:=heap_alloc_last (w.alloc o1) o2
 have s1:(w.alloc o1).heap.size=w.heap.size+1:=by simp
 have s2:((w.alloc o1).alloc o2).heap.size=w.heap.size+1+1:=by simp
 rw [s1] at a2
 refine⟨?_,a2,?_,by omega,by omega⟩
 . rw [Below.heap_alloc _ _ _ (by omega)]
   exact heap_alloc_last w o1
 exact ((Below.refl _ w).alloc (Nat.le_refl _) _).alloc (by omega) _
theorem qcn(w:World)(o1 o2 o3:Obj){w1:World}(hw:((w.alloc o1).alloc o2).alloc o3=w1):w1.heap[w.heap.size]? = some o1/\w1.heap[w.heap.size+1]? = some o2/\w1.heap[w.heap.size+1+1]? = some o3/\Below w.heap.size w w1/\w.heap.size+3<=w1.heap.size/\w1.heap.size<=w.heap.size+3:=by
 subst hw
 obtain⟨a1,a2,b,l1,l2⟩:=qpd w o1 o2 rfl
 have a3:=heap_alloc_last ((w.alloc o1).alloc o2) o3
 have s2:((w.alloc o1).alloc o2).heap.size=w.heap.size+1+1:=by simp
 have s3:(((w.alloc o1).alloc o2).alloc o3).heap.size=w.heap.size+1+1+1:=by simp
 rw [s2] at a3
 refine⟨?_,?_,a3,b.alloc (by omega) _,by omega,by omega⟩
 . rw [Below.heap_alloc _ _ _ (by omega)]
   exact a1
 rw [Below.heap_alloc _ _ _ (by omega)]
 exact a2
open Classical in
noncomputable def qez(s1:Bool)(xs1:List Int)(e1:Int)(s2:Bool)(xs2:List Int)(e2:Int)(k:Int):Int :=
 if qik s1 xs1 e1/\qik s2 xs2 e2 then (if s2=true∨xs2=[]∨k < 0∨64 < k then 2 else 0) else 8
theorem qg4(w:World)(s1 s2:Bool)(A1 A2:Option Addr)(n1 c1 n2 c2:Nat)(xs1 xs2:List Int)(e1 e2:Int)(h1:qae w 0 w.heap.size .u32 A1 n1 xs1)(h2:qae w 0 w.heap.size .u32 A2 n2 xs2)(k:Int)(q:Int)(h:qez s1 xs1 e1 s2 xs2 e2 k=q) :
  Calls Tryz.prog 132 #[.agg #[.bool s1,.slice A1 n1 c1,.int .i64 e1],.agg #[.bool s2,.slice A2 n2 c2,.int .i64 e2],.int .i64 k] w fun e w'=>e=.returned (.int .i64 q)/\Below w.heap.size w w':=by
 have H:=Lib.hid h
 have HL2:=Lib.hid h2.len
 clear h
 generalize hw:(w.alloc (.cells #[.bool s1,.slice A1 n1 c1,.int .i64 e1] 24)).alloc (.cells #[.bool s2,.slice A2 n2 c2,.int .i64 e2] 24)=w1
 obtain⟨D1,D2,b1,l1,l2⟩:=qpd w _ _ hw
 replace h1:=h1.below b1 (Nat.le_refl _)
 replace h2:=h2.below b1 (Nat.le_refl _)
 have HC1:=Lib.hid (show qyg s1 xs1 e1=qyg s1 xs1 e1 from rfl)
 obtain⟨⟨p0,p1,p2⟩,p3,p4,p5⟩:=qam D1
 by_cases m1:qik s1 xs1 e1
 . by_cases m2:qik s2 xs2 e2
   . have hq:(if s2=true∨xs2=[]∨k < 0∨64 < k then (2:Int) else 0)=q:=by
       have:=H.out
       unfold qez at this
       rwa [if_pos ⟨m1,m2⟩] at this
     have HQ:=Lib.hid hq
     have k1:=Lib.hid (show qyg s1 xs1 e1=0 from if_pos m1)
     have k2:=Lib.hid (show qyg s2 xs2 e2=0 from if_pos m2)
     clear hq m1 m2
     go_enter Tryz.func132,Tryz.ntmps132
     go_wp2_with fail
     try clear hw
     refine (qef w1 s1 A1 n1 c1 xs1 e1 (h1.more (Nat.le_refl _) (by omega)) 0 k1.out).mono ?_
     rintro e w2 ⟨rfl,hB⟩
     have ls2:=hB.size
     replace h2:=h2.below hB (by omega)
     replace D2:=(hB.block _ (by omega)).trans D2
     replace b1:=b1.trans (hB.mono (by omega))
     clear hB p0 p1 p2 p3 p4 p5 D1 h1
     obtain⟨⟨p0,p1,p2⟩,p3,p4,p5⟩:=qam D2
     go_wp2_with fail
     refine (qef w2 s2 A2 n2 c2 xs2 e2 (h2.more (Nat.le_refl _) (by omega)) 0 k2.out).mono ?_
     rintro e w3 ⟨rfl,hB⟩
     replace D2:=(hB.block _ (by omega)).trans D2
     replace b1:=b1.trans (hB.mono (by omega))
     clear hB p0 p1 p2 p3 p4 p5 h2
     obtain⟨⟨p0,p1,p2⟩,p3,p4,p5⟩:=qam D2
     cases s2
     . by_cases hx:n2=0
       . have hq2:q=2:=by
           rw [<-HQ.out,if_pos (.inr (.inl (List.eq_nil_of_length_eq_zero (by rw [HL2.out]; exact hx))))]
         subst hq2
         have hxb:((n2:Int)==0)=true:=by simpa using hx
         go_wp2
         go_ret
         exact⟨rfl,b1⟩
       have hxb:((n2:Int)==0)=false:=by simpa using hx
       have hxs:xs2≠[]:=fun e=>hx (by rw [<-HL2.out,e]; rfl)
       by_cases hk0:k < 0
       . have hq2:q=2:=by rw [<-HQ.out,if_pos (.inr (.inr (.inl hk0)))]
         subst hq2
         go_wp2
         go_ret
         exact⟨rfl,b1⟩
       by_cases hk1:64 < k
       . have hq2:q=2:=by rw [<-HQ.out,if_pos (.inr (.inr (.inr hk1)))]
         subst hq2
         go_wp2
         go_ret
         exact⟨rfl,b1⟩
       have hq2:q=0:=by rw [<-HQ.out,if_neg (by rintro (h | h | h | h); cases h; exact hxs h; exact hk0 h; exact hk1 h)]
       subst hq2
       go_wp2
       go_ret
       exact⟨rfl,b1⟩
     have hq2:q=2:=by rw [<-HQ.out,if_pos (.inl rfl)]
     subst hq2
     go_wp2
     go_ret
     exact⟨rfl,b1⟩
   have hq:8=q:=by
    have:=H.out
    unfold qez at this
    rwa [if_neg (fun h=>m2 h.2)] at this
   subst hq
   have k1:=Lib.hid (show qyg s1 xs1 e1=0 from if_pos m1)
   have k2:=Lib.hid (show qyg s2 xs2 e2=8 from if_neg m2)
   clear m1 m2
   go_enter Tryz.func132,Tryz.ntmps132
   go_wp2_with fail
   try clear hw
   refine (qef w1 s1 A1 n1 c1 xs1 e1 (h1.more (Nat.le_refl _) (by omega)) 0 k1.out).mono ?_
   rintro e w2 ⟨rfl,hB⟩
   have ls2:=hB.size
   replace h2:=h2.below hB (by omega)
   replace D2:=(hB.block _ (by omega)).trans D2
   replace b1:=b1.trans (hB.mono (by omega))
   clear hB p0 p1 p2 p3 p4 p5 D1 h1
   obtain⟨⟨p0,p1,p2⟩,p3,p4,p5⟩:=qam D2
   go_wp2_with fail
   refine (qef w2 s2 A2 n2 c2 xs2 e2 (h2.more (Nat.le_refl _) (by omega)) 8 k2.out).mono ?_
   rintro e w3 ⟨rfl,hB⟩
   replace b1:=b1.trans (hB.mono (by omega))
   clear hB p0 p1 p2 p3 p4 p5 h2
   go_wp2
   go_ret
   exact⟨rfl,b1⟩
 have hq:8=q:=by
  have:=H.out
  unfold qez at this
  rwa [if_neg (fun h=>m1 h.1)] at this
 subst hq
 have k1:=Lib.hid (show qyg s1 xs1 e1=8 from if_neg m1)
 clear m1
 go_enter Tryz.func132,Tryz.ntmps132
 go_wp2_with fail
 try clear hw
 refine (qef w1 s1 A1 n1 c1 xs1 e1 (h1.more (Nat.le_refl _) (by omega)) 8 k1.out).mono ?_
 rintro e w2 ⟨rfl,hB⟩
 replace b1:=b1.trans (hB.mono (by omega))
 clear hB p0 p1 p2 p3 p4 p5
 go_wp2
 go_ret
 exact⟨rfl,b1⟩
theorem qmi{m D:Nat}(h:m < qjq)(hD:D<=1090):2*(m*2^D)<=4294967296^76:=by
 obtain⟨E,hE,hcap⟩:∃ E,E=1280/\qjq=2^E:=⟨qyi,rfl,qht⟩
 rw [hcap] at h
 have h1:m*2^D<=2^E*2^D:=Nat.mul_le_mul_right _ (Nat.le_of_lt h)
 rw [<-Nat.pow_add] at h1
 obtain⟨K,hK⟩:∃ K,K=76:=⟨_,rfl⟩
 have h2:2*2^(E+D)<=2^(32*K):=by
  rw [<-Nat.pow_succ']
  exact Nat.pow_le_pow_right (by decide) (by omega)
 rw [<-hK,b32]
 generalize 2^(32*K)=c at *
 omega
def qfx(W w:World):Prop:=∀ p,p < W.heap.size->w.heap[p]? = W.heap[p]?
theorem qy9{a b:Dn}{k U D:Nat}(h:(a.e<=b.e+k/\U=b.e+k-a.e/\D=0)∨(b.e+k < a.e/\U=0/\D=a.e-(b.e+k))) :
  (qew a b k).1=a.m*2^U/(b.m*2^D)/\((qew a b k).2=0↔a.m*2^U%(b.m*2^D)=0):=by
 unfold qew
 rcases h with ⟨h1,h2,h3⟩|⟨h1,h2,h3⟩
 . have e1:a.m*2^(b.e+k)=a.m*2^U*2^a.e:=by rw [Nat.mul_assoc,<-Nat.pow_add,show U+a.e=b.e+k by omega]
   rw [e1,h3,Nat.pow_zero,Nat.mul_one]
   exact qmv _ _ _
 have e1:b.m*2^a.e=b.m*2^D*2^(b.e+k):=by rw [Nat.mul_assoc,<-Nat.pow_add,show D+(b.e+k)=a.e by omega]
 rw [e1,h2,Nat.pow_zero,Nat.mul_one]
 exact qmv _ _ _
theorem qgl(w:World)(a b:Dn)(ha:a.May)(hb_:b.May)(hb0:b.m≠0)(A1 A2:Option Addr)(n1 c1 n2 c2:Nat)(h1:qae w 0 w.heap.size .u32 A1 n1 (qaf 4294967296 a.m))(h2:qae w 0 w.heap.size .u32 A2 n2 (qaf 4294967296 b.m))(k:Nat)(hk:k<=64)(z:Bool)(hz:decide ((qew a b k).2=0)=z) :
  Calls Tryz.prog 133 #[.agg #[.bool a.neg,.slice A1 n1 c1,.int .i64 a.e],.agg #[.bool b.neg,.slice A2 n2 c2,.int .i64 b.e],.int .i64 k] w fun e w'=>∃ qs,e=.returned (.tuple #[.agg (qat qs),.bool (!z)])/\Below w.heap.size w w'/\qs.length=76/\Dig 4294967296 qs/\num 4294967296 qs=(qew a b k).1:=by
 have hn1:=qek h1 ha
 have hn2:=qek h2 hb_
 have ea:a.e<=1024:=ha.2.1
 have eb:b.e<=1024:=hb_.2.1
 have HZ:=Lib.hid hz
 have HB0:=Lib.hid hb0
 have hbm:=Lib.hid hb_.1
 have CA:=qah 4294967296 a.m (by decide)
 have CB:=qah 4294967296 b.m (by decide)
 have hda:=Lib.hid CA.1
 have hdb:=Lib.hid CB.1
 have hna:=Lib.hid CA.2.2
 have hnb:=Lib.hid CB.2.2
 clear hz hb0 CA CB ha hb_
 obtain⟨hz_,hi81⟩:=zero_of_info Tryz.info157
 have hI:=Lib.hid hi81
 clear hi81
 generalize hw:((w.alloc (.cells #[.bool a.neg,.slice A1 n1 c1,.int .i64 a.e] 24)).alloc (.cells #[.bool b.neg,.slice A2 n2 c2,.int .i64 b.e] 24)).alloc (.cells (qat qas) 157)=w1
 obtain⟨D1,D2,D3,b1,l1,l2⟩:=qcn w _ _ _ hw
 replace h1:=h1.below b1 (Nat.le_refl _)
 replace h2:=h2.below b1 (Nat.le_refl _)
 obtain⟨⟨p0,p1,p2⟩,p3,p4,p5⟩:=qam D1
 obtain⟨⟨q0,q1,q2⟩,q3,q4,q5⟩:=qam D2
 by_cases hle:a.e<=b.e+k
 . obtain⟨U,hU⟩:∃ U,b.e+k-a.e=U:=⟨_,rfl⟩
   have hQ:=qy9 (a:=a) (b:=b) (k:=k) (.inl ⟨hle,hU.symm,rfl⟩)
   have hu:(b.e:Int)+(k:Int)-(a.e:Int)=(U:Int):=by omega
   have hUl:U<=1090:=by omega
   clear hU hle
   have HQ:=Lib.hid hQ
   clear hQ
   go_enter Tryz.func133,Tryz.ntmps133
   go_wp2_with fail
   try clear hw
   clear p0 p1 p2 p3 p4 p5 q0 q1 q2 q3 q4 q5
   refine zB (qfx w1) [11] 13 ?_
   have kp_:qfx w1 w1.drew:=fun _ _=>rfl
   have b2:Below w.heap.size w w1.drew:=b1.drew
   have h1d:qae w1.drew 0 w.heap.size .u32 A1 n1 (qaf 4294967296 a.m):=h1.drewN 1
   have h2d:qae w1.drew 0 w.heap.size .u32 A2 n2 (qaf 4294967296 b.m):=h2.drewN 1
   have ld1:w1.heap.size<=w1.drew.heap.size:=Nat.le_refl _
   generalize w1.drew=v1 at *
   refine zM 4 [0,2,4,6] ?_ ?_
   refine zD 1 (.slice A1 n1 c1) rfl ?ry_1 ?rr_1
   case ry_1 =>
    intro w' h1
    obtain⟨⟨p0,p1,p2⟩,_⟩:=qam ((h1 _ (by omega)).trans D1)
    go_simp
   try simp only [Act.put,zp]
   refine zD 5 (.slice A2 n2 c2) rfl ?sy_1 ?sr_1
   case sy_1 =>
    intro w' h1
    obtain⟨⟨p0,p1,p2⟩,_⟩:=qam ((h1 _ (by omega)).trans D2)
    go_simp
   try simp only [Act.put,zp]
   refine zK 3 rfl fun K hK=>?_
   go_simp
   go_at_call 173
   refine (qfc v1 0 w.heap.size A1 n1 c1 (qaf 4294967296 a.m) U h1d (by omega) hda.out hn1 (by omega) _ rfl).mono ?_
   rintro e v2 ⟨xs,rfl,hB,hxl,hxd,hxn⟩
   have ls2:=hB.size
   have kp2:qfx w1 v2:=fun p hp=>(hB.block p (by omega)).trans (kp_ p hp)
   replace b2:=b2.trans (hB.mono (by omega))
   replace h2d:=h2d.below hB (by omega)
   replace hxn:=Lib.hid hxn
   clear hB kp_ h1d
   refine hK _ _ ⟨fun _ _=>kp2,?_⟩
   clear hK K
   try simp only [Act.put,zp]
   refine zK 7 rfl fun K hK=>?_
   go_simp
   go_at_call 173
   refine (qfc v2 0 w.heap.size A2 n2 c2 (qaf 4294967296 b.m) 0 h2d (by omega) hdb.out hn2 (by omega) _ rfl).mono ?_
   rintro e v3 ⟨ys,rfl,hB,hyl,hyd,hyn⟩
   have ls3:=hB.size
   have kp3:qfx w1 v3:=fun p hp=>(hB.block p (by omega)).trans (kp2 p hp)
   replace b2:=b2.trans (hB.mono (by omega))
   replace hyn:=Lib.hid hyn
   clear hB kp2 h2d
   refine hK _ _ ⟨fun _ _=>kp3,?_⟩
   clear hK K
   try simp only [Act.put,zp]
   have hxn2:num 4294967296 xs=a.m*2^U:=by rw [hxn.out,hna.out]
   have hyn2:num 4294967296 ys=b.m*2^0:=by rw [hyn.out,hnb.out]
   have hy0:0 < num 4294967296 ys:=by
    rw [hyn2]
    exact Nat.mul_pos (Nat.pos_of_ne_zero HB0.out) (Nat.pow_pos (by decide))
   have hyb:2*num 4294967296 ys<=4294967296^76:=by
    rw [hyn2]
    exact qmi hbm.out (by omega)
   have hzz:decide (num 4294967296 xs%num 4294967296 ys=0)=z:=by
    rw [hxn2,hyn2,<-HZ.out]
    exact decide_eq_decide.2 HQ.out.2.symm
   have hqq:=Lib.hid (show num 4294967296 xs/num 4294967296 ys=(qew a b k).1 by rw [hxn2,hyn2,HQ.out.1])
   replace hxl:=Lib.hid hxl
   replace hyl:=Lib.hid hyl
   replace hyb:=Lib.hid hyb
   replace hzz:=Lib.hid hzz
   clear hxn2 hyn2
   refine zK 8 rfl fun K hK=>?_
   go_simp
   go_at_call 172
   refine (qkv v3 xs ys hxl.out hxd hyl.out hyd hy0 hyb.out z hzz.out).mono ?_
   rintro e v4 ⟨qs,rfl,hB,hql,hqd,hqn⟩
   have ls4:=hB.size
   have kp4:qfx w1 v4:=fun p hp=>(hB.block p (by omega)).trans (kp3 p hp)
   replace b2:=b2.trans (hB.mono (by omega))
   replace hqn:=Lib.hid (hqn.trans hqq.out)
   replace hql:=Lib.hid hql
   clear hB kp3
   refine hK _ _ ⟨fun _ _=>kp4,?_⟩
   clear hK K
   try simp only [Act.put,zp]
   refine zM 2 [9,10] ?_ ?_
   have hD3:=(kp4 (w.heap.size+1+1) (by omega)).trans D3
   refine qwz (i:=11) (L:=#[zT,zT,zT,zT,zT,zT,zT,zT,zT,zT,zT,zT,zF]) rfl (by rfl) (by kernel_rfl) (by rfl) ?_
   refine wp_store_row 157 (.tmp 6) (.tmp 30) rfl (w.heap.size+1+1) (qat qs) rfl rfl _ _ hD3 (by rw [hI.out,qau,hql.out]) (by rw [qau,qau,hql.out]; rfl) (qde qs) ⟨fun h=>absurd h (by decide),?_⟩
   try simp only [Act.put,zp]
   have hV:=setRow_heap v4 (w.heap.size+1+1) (qat qas) (qat qs) _ _ hD3
   have hVb:=qcf b2 (show w.heap.size<=w.heap.size+1+1 by omega) (qat qs)
   generalize v4.setRow (w.heap.size+1+1) (qat qs)=V at *
   refine zM 1 [12] ?_ ?_
   refine qa2 (by kernel_rfl) ?_ _
   go_wp2
   exact bodyPost_ret (v:=.tuple #[.agg (qat qs),.bool (!z)]) (qab Tryz.results133 _ _ (w.heap.size+1+1) _ _ _ _ _ rfl rfl hV Tryz.underlying157 rfl (by rw [hI.out,qau,hql.out])) rfl ⟨qs,rfl,hVb,hql.out,hqd,hqn.out⟩
 skip
 obtain⟨D,hD⟩:∃ D,a.e-(b.e+k)=D:=⟨_,rfl⟩
 have hQ:=qy9 (a:=a) (b:=b) (k:=k) (.inr ⟨by omega,rfl,hD.symm⟩)
 have hu:(b.e:Int)+(k:Int)-(a.e:Int)=-(D:Int):=by omega
 have hDp:-(D:Int) < 0:=by omega
 have hDl:D<=1090:=by omega
 have hneg:-(-(D:Int))=(D:Int):=by omega
 clear hD hle
 have HQ:=Lib.hid hQ
 clear hQ
 go_enter Tryz.func133,Tryz.ntmps133
 go_wp2_with fail
 try clear hw
 clear p0 p1 p2 p3 p4 p5 q0 q1 q2 q3 q4 q5
 refine zB (qfx w1) [11] 13 ?_
 have kp_:qfx w1 w1.drew:=fun _ _=>rfl
 have b2:Below w.heap.size w w1.drew:=b1.drew
 have h1d:qae w1.drew 0 w.heap.size .u32 A1 n1 (qaf 4294967296 a.m):=h1.drewN 1
 have h2d:qae w1.drew 0 w.heap.size .u32 A2 n2 (qaf 4294967296 b.m):=h2.drewN 1
 have ld1:w1.heap.size<=w1.drew.heap.size:=Nat.le_refl _
 generalize w1.drew=v1 at *
 refine zM 4 [0,2,4,6] ?_ ?_
 refine zD 1 (.slice A1 n1 c1) rfl ?ry_2 ?rr_2
 case ry_2 =>
  intro w' h1
  obtain⟨⟨p0,p1,p2⟩,_⟩:=qam ((h1 _ (by omega)).trans D1)
  go_simp
 try simp only [Act.put,zp]
 refine zD 5 (.slice A2 n2 c2) rfl ?sy_2 ?sr_2
 case sy_2 =>
  intro w' h1
  obtain⟨⟨p0,p1,p2⟩,_⟩:=qam ((h1 _ (by omega)).trans D2)
  go_simp
 try simp only [Act.put,zp]
 refine zK 3 rfl fun K hK=>?_
 go_simp
 go_at_call 173
 refine (qfc v1 0 w.heap.size A1 n1 c1 (qaf 4294967296 a.m) 0 h1d (by omega) hda.out hn1 (by omega) _ rfl).mono ?_
 rintro e v2 ⟨xs,rfl,hB,hxl,hxd,hxn⟩
 have ls2:=hB.size
 have kp2:qfx w1 v2:=fun p hp=>(hB.block p (by omega)).trans (kp_ p hp)
 replace b2:=b2.trans (hB.mono (by omega))
 replace h2d:=h2d.below hB (by omega)
 replace hxn:=Lib.hid hxn
 clear hB kp_ h1d
 refine hK _ _ ⟨fun _ _=>kp2,?_⟩
 clear hK K
 try simp only [Act.put,zp]
 refine zK 7 rfl fun K hK=>?_
 go_simp
 go_at_call 173
 refine (qfc v2 0 w.heap.size A2 n2 c2 (qaf 4294967296 b.m) D h2d (by omega) hdb.out hn2 (by omega) _ rfl).mono ?_
 rintro e v3 ⟨ys,rfl,hB,hyl,hyd,hyn⟩
 have ls3:=hB.size
 have kp3:qfx w1 v3:=fun p hp=>(hB.block p (by omega)).trans (kp2 p hp)
 replace b2:=b2.trans (hB.mono (by omega))
 replace hyn:=Lib.hid hyn
 clear hB kp2 h2d
 refine hK _ _ ⟨fun _ _=>kp3,?_⟩
 clear hK K
 try simp only [Act.put,zp]
 have hxn2:num 4294967296 xs=a.m*2^0:=by rw [hxn.out,hna.out]
 have hyn2:num 4294967296 ys=b.m*2^D:=by rw [hyn.out,hnb.out]
 have hy0:0 < num 4294967296 ys:=by
  rw [hyn2]
  exact Nat.mul_pos (Nat.pos_of_ne_zero HB0.out) (Nat.pow_pos (by decide))
 have hyb:2*num 4294967296 ys<=4294967296^76:=by
  rw [hyn2]
  exact qmi hbm.out (by omega)
 have hzz:decide (num 4294967296 xs%num 4294967296 ys=0)=z:=by
  rw [hxn2,hyn2,<-HZ.out]
  exact decide_eq_decide.2 HQ.out.2.symm
 have hqq:=Lib.hid (show num 4294967296 xs/num 4294967296 ys=(qew a b k).1 by rw [hxn2,hyn2,HQ.out.1])
 replace hxl:=Lib.hid hxl
 replace hyl:=Lib.hid hyl
 replace hyb:=Lib.hid hyb
 replace hzz:=Lib.hid hzz
 clear hxn2 hyn2
 refine zK 8 rfl fun K hK=>?_
 go_simp
 go_at_call 172
 refine (qkv v3 xs ys hxl.out hxd hyl.out hyd hy0 hyb.out z hzz.out).mono ?_
 rintro e v4 ⟨qs,rfl,hB,hql,hqd,hqn⟩
 have ls4:=hB.size
 have kp4:qfx w1 v4:=fun p hp=>(hB.block p (by omega)).trans (kp3 p hp)
 replace b2:=b2.trans (hB.mono (by omega))
 replace hqn:=Lib.hid (hqn.trans hqq.out)
 replace hql:=Lib.hid hql
 clear hB kp3
 refine hK _ _ ⟨fun _ _=>kp4,?_⟩
 clear hK K
 try simp only [Act.put,zp]
 refine zM 2 [9,10] ?_ ?_
 have hD3:=(kp4 (w.heap.size+1+1) (by omega)).trans D3
 refine qwz (i:=11) (L:=#[zT,zT,zT,zT,zT,zT,zT,zT,zT,zT,zT,zT,zF]) rfl (by rfl) (by kernel_rfl) (by rfl) ?_
 refine wp_store_row 157 (.tmp 6) (.tmp 30) rfl (w.heap.size+1+1) (qat qs) rfl rfl _ _ hD3 (by rw [hI.out,qau,hql.out]) (by rw [qau,qau,hql.out]; rfl) (qde qs) ⟨fun h=>absurd h (by decide),?_⟩
 try simp only [Act.put,zp]
 have hV:=setRow_heap v4 (w.heap.size+1+1) (qat qas) (qat qs) _ _ hD3
 have hVb:=qcf b2 (show w.heap.size<=w.heap.size+1+1 by omega) (qat qs)
 generalize v4.setRow (w.heap.size+1+1) (qat qs)=V at *
 refine zM 1 [12] ?_ ?_
 refine qa2 (by kernel_rfl) ?_ _
 go_wp2
 exact bodyPost_ret (v:=.tuple #[.agg (qat qs),.bool (!z)]) (qab Tryz.results133 _ _ (w.heap.size+1+1) _ _ _ _ _ rfl rfl hV Tryz.underlying157 rfl (by rw [hI.out,qau,hql.out])) rfl ⟨qs,rfl,hVb,hql.out,hqd,hqn.out⟩
end Dy
end Go.Proofs.YtmbppgjhdcmckaaGreatDoor
namespace Go.Proofs.YtmbppgjhdcmckaaGreatDoor
open Go.RowKit
theorem qos{W:World}{g:Nat}{o:Obj}(h:W.heap[g]? = some o):g < W.heap.size:=(Array.getElem?_eq_some_iff.1 h).1
theorem qd8(w:World)(o:Obj)(g:Nat)(h:g=w.heap.size):(w.alloc o).heap[g]? = some o:=by
 subst h
 exact World.alloc_heap_new w o
theorem qb5(w:World)(a b:Nat):(w.drewN a).drewN b=w.drewN (a+b):=by simp [World.drewN,Nat.add_assoc]
namespace Pa
def Sm(a b:List Int):Bool:=a==b
theorem Sm_refl(a:List Int):Sm a a=true:=beq_self_eq_true _
theorem qk3{a b:List Int}(h:a.length≠b.length):Sm a b=false:=by
 unfold Sm
 rw [beq_eq_false_iff_ne]
 exact fun e=>h (by rw [e])
theorem qs7{a b:List Int}{k:Nat}(h:a[k]?.getD 0≠b[k]?.getD 0):Sm a b=false:=by
 unfold Sm
 rw [beq_eq_false_iff_ne]
 exact fun e=>h (by rw [e])
theorem qbh{a b:List Int}{k:Nat}(h1:k < a.length)(h2:k < b.length)(h:a.take k=b.take k)(he:a[k]?.getD 0=b[k]?.getD 0):a.take (k+1)=b.take (k+1):=by
 rw [List.take_succ_eq_append_getElem h1,List.take_succ_eq_append_getElem h2,h]
 rw [List.getElem?_eq_getElem h1,List.getElem?_eq_getElem h2] at he
 simp only [Option.getD_some] at he
 rw [he]
theorem Equal_any(w:World)(lo hi lo' hi':Nat)(A A':Option Addr)(n c n' c':Nat)(xs ys:List Int)(hX:qae w lo hi .u32 A n xs)(hY:qae w lo' hi' .u32 A' n' ys)(r:Bool)(hr:Sm xs ys=r) :
  Calls Tryz.prog 153 #[.slice A n c,.slice A' n' c'] w fun e w'=>e=.returned (.bool r)/\∃ m,w'=w.drewN m:=by
 have HR:=Lib.hid hr
 have HX:=Lib.hid hX.len
 have HY:=Lib.hid hY.len
 have hbx:=hX.big
 have hby:=hY.big
 clear hr
 by_cases hnn:n=n'
 . subst hnn
   go_enter Tryz.func153,Tryz.ntmps153
   go_wp2
   go_loopw [13] (fun iv wr=>∃ k:Nat,iv=.int .i64 k/\k<=n/\Hid (xs.take k=ys.take k)/\∃ m,wr=w.drewN m) (fun iv _=>n-(intOf iv).toNat)
   case atStart=>exact⟨0,rfl,Nat.zero_le _,rfl,0,rfl⟩
   obtain⟨k,rfl,hk,htk,m,rfl⟩:=hrel
   by_cases hlt:k < n
   . obtain⟨b,off,rfl,_,_,hc⟩:=hX.row (by omega)
     obtain⟨b',off',rfl,_,_,hc'⟩:=hY.row (by omega)
     have g1:=(hc k hlt).1
     have g2:=(hc' k hlt).1
     have hk0:(0:Int)<=k:=by omega
     have hkn:(k:Int) < n:=by omega
     have hnx:Hid (xs[k]?.getD 0=ys[k]?.getD 0->xs.take (k+1)=ys.take (k+1)):=fun he=>qbh (by rw [HX.out]; exact hlt) (by rw [HY.out]; exact hlt) htk.out he
     have hno:Hid (xs[k]?.getD 0≠ys[k]?.getD 0->Sm xs ys=false):=fun he=>qs7 he
     clear hc hc'
     generalize xs[k]?.getD 0=x at g1 hnx hno
     generalize ys[k]?.getD 0=y at g2 hnx hno
     by_cases he:x=y
     . subst he
       have hn2:=Lib.hid (hnx.out rfl)
       have hne:(x != x)=false:=by simp
       go_wp2
       go_quiet (fail)
       go_wp2
       go_roundw
       case rel=>exact⟨k+1,by go_num,by omega,hn2,_,rfl⟩
       case measure=>simp [intOf]; omega
     have e2:r=false:=by rw [<-HR.out]; exact hno.out he
     subst e2
     have hne:(x != y)=true:=by simpa using he
     go_wp2
     go_quiet (fail)
     go_wp2
     go_ret
     exact⟨rfl,_,qb5 ..⟩
   obtain rfl:k=n:=by omega
   have e2:r=true:=by
    rw [<-HR.out]
    have:=htk.out
    rw [List.take_of_length_le (by rw [HX.out]; exact Nat.le_refl _),List.take_of_length_le (by rw [HY.out]; exact Nat.le_refl _)] at this
    rw [this]
    exact Sm_refl _
   subst e2
   go_wp2
   go_ret
   exact⟨rfl,m,rfl⟩
 have e2:r=false:=by rw [<-HR.out]; exact qk3 (by rw [HX.out,HY.out]; exact hnn)
 subst e2
 have hne:((n:Int) != n')=true:=by simpa using (show ¬ (n:Int)=n' by omega)
 have hne2:(n != n')=true:=by simpa using hnn
 go_enter Tryz.func153,Tryz.ntmps153
 go_wp2
 go_ret
 exact⟨rfl,0,rfl⟩
end Pa
end Go.Proofs.YtmbppgjhdcmckaaGreatDoor
namespace Go.Proofs.YtmbppgjhdcmckaaGreatDoor
open Go.RowKit
namespace Pa
theorem infoU32:(Tryz.prog.info? 48).map (fun i=>(i.zero,i.size,i.bytes))=some (some (.int .u32 0),1,4):=by kernel_rfl
theorem u32_one(xs:List Int):∀ u∈xs.map (Value.int .u32),u.oneCell'=true:=fun u hu=>by
 obtain⟨x,_,rfl⟩:=List.mem_map.1 hu
 rfl
theorem qnc(w:World)(lo hi lo' hi':Nat)(A A':Option Addr)(n c n' c':Nat)(xs ys:List Int)(hX:qae w lo hi .u32 A n xs)(hY:qae w lo' hi' .u32 A' n' ys)(r:Bool)(hr:Sm xs ys=r) :
  Calls Tryz.prog 93 #[.slice A n c,.slice A' n' c'] w fun e w'=>e=.returned (.bool r)/\∃ m,w'=w.drewN m:=by
 have HR:=Lib.hid hr
 clear hr
 go_enter Tryz.func93,Tryz.ntmps93
 go_wp2_with fail
 refine (Equal_any _ lo hi lo' hi' A A' n c n' c' xs ys hX hY r HR.out).mono ?_
 rintro e w1 ⟨rfl,m,rfl⟩
 go_wp2
 go_ret
 exact⟨rfl,m,rfl⟩
theorem qj6(w:World)(lo hi:Nat)(A:Option Addr)(n c:Nat)(xs:List Int)(hX:qae w lo hi .u32 A n xs)(hhi:hi<=w.heap.size)(hn:n<=1000000) :
  Calls Tryz.prog 96 #[.slice A n c] w fun e w'=>∃ A' c',e=.returned (.slice A' n c')/\n<=c'/\Below w.heap.size w w'/\w'.ownsRow w.heap.size 48 1 (.slice A' n c') n (xs.map (Value.int .u32)):=by
 obtain⟨i0,hi0,hz0,hz1,hz2⟩:=info_parts infoU32
 have HL:=Lib.hid hX.len
 have hbig:=hX.big
 rcases A with _|a
 . by_cases hn:n=0
   . subst hn
     have:=hX.zero rfl
     subst this
     have hnil:=Lib.run_eql_slice_nil (P:=Tryz.prog) w 22 48 none 0 c 0 0 Tryz.underlying22
     go_enter Tryz.func96,Tryz.ntmps96
     go_wp2
     go_ret
     exact⟨none,0,rfl,Nat.le_refl _,Below.refl _ _,World.ownsRow_nil _ _ _ _⟩
   obtain⟨_,_,e,_⟩:=hX.row (by omega)
   cases e
 have hnil:=Lib.run_eql_slice_nil (P:=Tryz.prog) w 22 48 (some a) n c 0 0 Tryz.underlying22
 go_enter Tryz.func96,Tryz.ntmps96
 go_wp2_with (first
  | (at_builtin; refine qag _ rfl (.tmp 5) (.tmp 6) 22 rfl w.heap.size 48 i0 _ 1 4 Tryz.underlying22 hi0 hz0 hz1 hz2 rfl (by decide) _ _ _ rfl (qdl w w.heap.size _ 1 (Nat.le_refl _)) _ _ _ n _ _ rfl (hX.alloc hhi _).raw ?c1 ?c2 ?c3 ?c4 ?_))
 case c1=>exact u32_one _
 case c2=>unfold maxLen; omega
 case c3=>omega
 case c4=>simp
 intro A2 c2 w2 hown2 hgrow2 _
 have hb2:Below w.heap.size w w2:=((Below.refl _ w).alloc (Nat.le_refl _) _).grown hgrow2 (by simp) (fun q hq=>by simp [Value.ownBlock] at hq; omega)
 have hc2:=qd0 hown2
 clear hgrow2
 go_wp2
 go_ret
 exact⟨A2,c2,by simp,hc2,hb2,hown2⟩
structure Dy where
 neg:Bool
 limbs:List Int
 exp:Int
def Dy.same(a b:Dy):Bool:=a.neg==b.neg && (a.exp==b.exp && Sm a.limbs b.limbs)
theorem Dy.same_refl(a:Dy):a.same a=true:=by simp [Dy.same,Sm_refl]
theorem qa0{B:Nat}{w w1:World}(h:Below B w w1)(m:Nat):Below B w (w1.drewN m):=qbg h m
theorem dyadSame_any(w:World)(s s':Bool)(A A':Option Addr)(n c n' c':Nat)(xs ys:List Int)(e e':Int)(hX:qae w 0 w.heap.size .u32 A n xs)(hY:qae w 0 w.heap.size .u32 A' n' ys)(r:Bool)(hr:Dy.same ⟨s,xs,e⟩ ⟨s',ys,e'⟩=r) :
  Calls Tryz.prog 43 #[.agg #[.bool s,.slice A n c,.int .i64 e],.agg #[.bool s',.slice A' n' c',.int .i64 e']] w fun e w'=>e=.returned (.bool r)/\Below w.heap.size w w':=by
 have fin:=((Below.refl w.heap.size w).alloc (Nat.le_refl _) (.cells #[.bool s,.slice A n c,.int .i64 e] 24)).alloc (by simp) (.cells #[.bool s',.slice A' n' c',.int .i64 e'] 24)
 have hX2:=(hX.alloc (Nat.le_refl _) (.cells #[.bool s,.slice A n c,.int .i64 e] 24)).alloc (by simp) (.cells #[.bool s',.slice A' n' c',.int .i64 e'] 24)
 have hY2:=(hY.alloc (Nat.le_refl _) (.cells #[.bool s,.slice A n c,.int .i64 e] 24)).alloc (by simp) (.cells #[.bool s',.slice A' n' c',.int .i64 e'] 24)
 have HR:=Lib.hid hr
 clear hr
 by_cases h1:s=s'
 . subst h1
   have h1':(s==s)=true:=by simp
   by_cases h2:e=e'
   . subst h2
     have h2':(e==e)=true:=by simp
     have hs:Hid (Sm xs ys=r):=by rw [Hid,<-HR.out]; simp [Dy.same]
     go_enter Tryz.func43,Tryz.ntmps43
     go_wp2_with fail
     refine (qnc _ _ _ _ _ A A' n c n' c' xs ys hX2 hY2 r hs.out).mono ?_
     rintro e w1 ⟨rfl,m,rfl⟩
     go_wp2
     go_ret
     exact⟨rfl,qbg fin m⟩
   have h2':(e==e')=false:=by simpa using h2
   have e2:r=false:=by rw [<-HR.out]; simp [Dy.same,h2]
   subst e2
   go_enter Tryz.func43,Tryz.ntmps43
   go_wp2
   go_ret
   exact⟨rfl,fin⟩
 have h1':(s==s')=false:=by simpa using h1
 have e2:r=false:=by rw [<-HR.out]; simp [Dy.same,h1]
 subst e2
 go_enter Tryz.func43,Tryz.ntmps43
 go_wp2
 go_ret
 exact⟨rfl,fin⟩
end Pa
end Go.Proofs.YtmbppgjhdcmckaaGreatDoor