/- (*ratio.wide).form: a walk (printed by a program of mine). -/
import Derived.Deep.Cut
import Derived.Lib.MinMax
import Derived.Test.YtmbppgjhdcmckaaGreatDoorBj06
import Derived.Laws.StructEq
set_option maxHeartbeats 102400000
set_option maxRecDepth 100000
namespace Go.Proofs.YtmbppgjhdcmckaaGreatDoor
open Go.RowKit
namespace Dy
open Dp
theorem qco{w:World}{g:Nat}{x y z:Value}{t:TypeId}(h:w.heap[g]? = some (.cells #[x,y,z] t (0,0)))(a b c:Value):∃ U,((w.setCell ⟨g,0,none⟩ a).setCell ⟨g,1,none⟩ b).setCell ⟨g,2,none⟩ c=U/\U.heap[g]? = some (.cells #[a,b,c] t (0,0))/\(∀ w0 B,Below B w0 w->B<=g->Below B w0 U)/\(∀ j,j≠g->U.heap[j]? = w.heap[j]?)/\U.heap.size<=w.heap.size/\w.heap.size<=U.heap.size:=by
 refine⟨_,rfl,by simp [World.setCell,Array.getElem?_modify,h],fun w0 B hb hg=>((hb.setCell hg _).setCell hg _).setCell hg _,fun j hj=>qav _ hj _ _ _,by simp [World.setCell],by simp [World.setCell]⟩
theorem qaq{w w':World}{lo hi n:Nat}{k:IntKind}{A:Option Addr}{xs:List Int}(h:qae w lo hi k A n xs)(hk:∀ b,lo<=b->b < hi->w'.heap[b]? = w.heap[b]?):qae w' lo hi k A n xs :=
 ⟨h.len,h.wf,h.big,fun h0=>by
  obtain⟨b,off,e,h1,h2,hc⟩:=h.row h0
  have h3:=hk b h1 h2
  exact⟨b,off,e,h1,h2,fun j hj=>⟨by rw [World.cell?_of_block h3]; exact (hc j hj).1,by rw [World.frozen?_of_block h3]; exact (hc j hj).2⟩⟩⟩
theorem qga{P:Program}{o:Oper}{a:Act}{w:World}{K:Act->World->Prop}{Q:Exit->Act->World->Prop}(s x:Operand)(t:TypeId)
  (ho:o.op=.call { callee:=.builtin .append,args:=#[s,x],argTypes:=#[t,t] })
  (base:Nat) (e:TypeId) (i:TypeInfo) (z:Value) (size bytes:Nat) (ht:P.underlying t=some (.slice e)) (hi:P.info? e=some i) (hz:i.zero=some z)
  (hsize:i.size=size) (hby:i.bytes=bytes) (hzs:z.cells.size=size) (hsz:0 < size)
  (v:Value) (n:Nat) (xs:List Value) (hs:a.eval s=v) (hown:w.ownsRow base e size v n xs)
  (lo hi':Nat) (A:Option Addr) (m c:Nat) (news:List Value) (hx:a.eval x=.slice A m c) (hr:Raw w lo hi' A (m*size) news) (h1:∀ u∈news,u.oneCell'=true)
  (h63:n+m<=maxLen) (hbytes:(n+m)*bytes<=140737488355328) (hbase:base<=w.heap.size)
  (h:∀ A' c' w',w'.ownsRow base e size (.slice A' (n+m) c') (n+m) (xs++news)->w.grownBy w' v.ownBlock->((Value.slice A' (n+m) c').ownBlock=v.ownBlock∨(Value.slice A' (n+m) c').ownBlock=some w.heap.size) ->
   K (a.put o.dst (.slice A' (n+m) c')) w'):Oper.wp P o a w K Q:=by
 obtain⟨A',c',w',hr,h2,h3,h5⟩:=qcv (P:=P) w base t o.type e i z size bytes ht hi hz hsize hby hzs hsz v n xs hown lo hi' A m c news hr h1 h63 hbytes hbase
 unfold Oper.wp execOp
 simp only [ho,resolve,invoke,builtin,Sem.run_bind,Sem.run_pure,Result.andThen_ok,List.map_toArray,List.map_cons,List.map_nil,hs,hx,hr]
 exact h A' c' w' h2 h3 h5
theorem qxu{N j:Nat}(h:N%2^j=0)(h2:N/2^j%2=0):N%2^(j+1)=0:=by
 have h1:=Nat.div_add_mod N (2^j)
 have h3:=Nat.div_add_mod (N/2^j) 2
 rw [h,Nat.add_zero] at h1
 rw [h2,Nat.add_zero] at h3
 rw [<-h1,<-h3,<-Nat.mul_assoc,Nat.pow_succ]
 exact Nat.mul_mod_right _ _
theorem qhr{w:World}{lo hi:Nat}{k:IntKind}{b o n:Nat}{x:Int}{xs:List Int}(h:qae w lo hi k (some ⟨b,o,none⟩) n (x::xs)):qae w lo hi k (some ⟨b,o+1,none⟩) (n-1) xs:=by
 have hn:n=xs.length+1:=by rw [<-h.len]; rfl
 obtain⟨b',off,e,h1,h2,hc⟩:=h.row (by omega)
 injection e with e
 injection e with e1 e2
 subst e1 e2
 refine⟨by omega,fun y hy=>h.wf y (List.mem_cons_of_mem _ hy),by have:=h.big; omega,fun _=>⟨b,o+1,rfl,h1,h2,fun j hj=>?_⟩⟩
 have:=hc (j+1) (by omega)
 rw [show o+(j+1)=o+1+j by omega] at this
 simpa using this
def qra(W w:World):Prop:=∀ p,p < W.heap.size->w.heap[p]? = W.heap[p]?
theorem qms{P:Program}(w:World)(ts:Array TypeId)(t:TypeId)(x0 x1:Int)(h:x0<=x1) :
  (Builtin.min_ ts t #[.int .i64 x0,.int .i64 x1]).run P w=.ok (.int .i64 x0) w:=by
 have e:¬ x1 < x0:=by omega
 simp [Builtin.min_,Builtin.min2,e]
theorem qlj{w:World}{g:Nat}{v:Value}{e:TypeId}(h:w.heap[g]? = some (.cells #[v] e (0,0))):w.ownsRow g e 1 (.slice (some ⟨g,0,none⟩) 1 1) 1 [v] :=
 ⟨by simp,.inr ⟨g,1,#[v],rfl,Nat.le_refl _,h,by simp,by simp [maxLen],by simp,by simp⟩⟩
theorem qm2{l:List Int}{i t x:Nat}(hi:i<=t)(ht:t < l.length)(hx:l[t]?.getD 0=(x:Int)):(part l i t).map (Value.int .u32)++[Value.int .u32 (x:Int)]=(part l i (t+1)).map (Value.int .u32):=by
 have e:part l i (t+1)=part l i t++[(x:Int)]:=by
  unfold part
  rw [List.take_add_one,List.drop_append_of_le_length (by simp; omega)]
  congr 1
  rw [List.getElem?_eq_getElem ht] at hx ⊢
  simpa using hx
 rw [e,List.map_append]
 rfl
theorem qqv{l:List Int}(h:Dig 4294967296 l):∀ x∈l,IntKind.u32.min<=x/\x<=IntKind.u32.max:=fun x hx=>by
 have h3:=h x hx
 have h4:0<=x/\x<=4294967295:=by omega
 simpa [IntKind.min,IntKind.max,IntKind.signed,IntKind.bits] using h4
theorem qc4(w:World)(g:Nat)(ws:List Int)(hW:qbj w g ws)(s:Bool)(k:Nat)(hk:k<=64)(r:Dn)(code:Int)(h:qa4 s (num 4294967296 ws) k=(r,code)) :
  Calls Tryz.prog 135 #[.pointer (some ⟨g,0,none⟩),.bool s,.int .i64 k] w (qb0 w r code):=by
 have H:=Lib.hid h
 clear h
 obtain⟨N,hN⟩:∃ N,num 4294967296 ws=N:=⟨_,rfl⟩
 rw [hN] at H
 have HN:=Lib.hid hN
 have HWL:=Lib.hid hW.len
 have HWD:=Lib.hid hW.dig
 have hgw:=hW.lt
 clear hN
 obtain⟨i0,hi0,hz0,hz1,hz2⟩:=info_parts infoU32
 generalize hw:w.alloc (.cells #[.bool false,.slice none 0 0,.int .i64 0] 24)=w1
 have hZ:w1.heap[w.heap.size]? = some (.cells #[.bool false,.slice none 0 0,.int .i64 0] 24 (0,0)):=by rw [<-hw]; exact heap_alloc_last _ _
 have hb:Below w.heap.size w w1:=by rw [<-hw]; exact (Below.refl _ w).alloc (Nat.le_refl _) _
 have l1:w.heap.size < w1.heap.size:=by rw [<-hw]; simp
 have hW1:qbj w1 g ws:=hW.of_heap (hb.block g hgw)
 clear hW
 go_enter Tryz.func135,Tryz.ntmps135
 go_wp2_with fail
 try clear hw
 refine (qi9 w1 g ws hW1).mono ?_
 rintro e w2 ⟨n,rfl,hn,hn2,rfl⟩
 rw [HN.out] at hn
 have HLn:=Lib.hid hn
 clear hn
 by_cases h0:n=0
 . have hN0:N=0:=by
     rcases HLn.out with ⟨h1,_⟩|⟨h1,_⟩
     . exact h1
     omega
   have hrc:=H.out
   rw [hN0,qoy] at hrc
   injection hrc with hr hc
   subst hr hc
   subst h0
   obtain⟨⟨z0,z1,z2⟩,z3,z4,z5⟩:=qam hZ
   obtain⟨U,hU,hX,hbU,hfU,s1,s2⟩:=qco hZ (.bool false) (.slice none 0 0) (.int .i64 0)
   go_wp2
   try rw [hU]
   clear hU z0 z1 z2 z3 z4 z5
   obtain⟨⟨z0,z1,z2⟩,_⟩:=qam hX
   exact bodyPost_ret (v:=.tuple #[.agg #[.bool false,.slice none 0 0,.int .i64 0],.int .i64 0]) (by simp [results,Tryz.results135,go_sem,z0,z1,z2]) rfl ⟨none,0,0,rfl,Nat.le_refl _,hbU _ _ hb (Nat.le_refl _),qae.nil_ ..⟩
 have hN0:Hid (N≠0):=Lib.hid (fun e=>by
  rcases HLn.out with ⟨_,h1⟩|⟨_,h1,_⟩
  . exact h0 h1
  have:=Nat.pow_pos (n:=n-1) (show 0 < 2 by decide)
  omega)
 have hz9:((n:Int)==0)=false:=by simpa using h0
 go_wp2
 go_loopw [9] (fun iv wr=>∃ j:Nat,iv=.int .i64 j/\j<=k/\Hid (N%2^j=0)/\wr=w2) (fun iv _=>k-(intOf iv).toNat)
 case atStart=>exact⟨0,rfl,Nat.zero_le _,Lib.hid (by simp [Nat.mod_one]),rfl⟩
 obtain⟨j,rfl,hj,hmod,rfl⟩:=hrel
 by_cases hjk:j < k
 . obtain⟨p,hp,hp2⟩:=qa3 (by decide) HWD.out (j/32)
   have g1:=hW1.cell (j:=j/32) (by omega)
   rw [hp] at g1
   obtain⟨b,hbb⟩:∃ b,N/2^j%2=b:=⟨_,rfl⟩
   have hand:=qwb p (j%32) b hp2 ((qqy HWD.out hp).trans (by rw [HN.out]; exact hbb))
   have HBB:=Lib.hid hbb
   have hq1:(j:Int)/32 < 76:=by omega
   have hq2:(0:Int)<=(j:Int)/32:=by omega
   clear hp hbb
   by_cases hb0:b=0
   . subst hb0
     have hm2:=Lib.hid (qxu hmod.out HBB.out)
     go_wp2
     go_roundw
     case rel=>exact⟨j+1,by first | rfl | go_num,by omega,hm2,by first | rfl | trivial⟩
     case measure=>first | (simp [intOf]; done) | (simp [intOf]; omega)
   have hb1:b=1:=by have:=HBB.out; omega
   subst hb1
   have HO:Hid (j=k∨N/2^j%2=1):=Lib.hid (.inr HBB.out)
   clear hb0 HBB
   obtain⟨M,hM⟩:∃ M,N/2^j=M:=⟨_,rfl⟩
   have hNM:N=M*2^j:=by
    have h1:=Nat.div_add_mod N (2^j)
    rw [hmod.out,Nat.add_zero,hM] at h1
    rw [Nat.mul_comm]
    exact h1.symm
   obtain⟨n0,n1,n2⟩:=HLn.out.resolve_left (fun h=>hN0.out h.1)
   have hform:=qnh (s:=s) hNM hN0.out hj (by rw [<-hM]; exact HO.out) (by omega)
   rw [H.out] at hform
   have hjn:j < n:=by
    have h1:2^j<=N:=by
     rw [hNM]
     rcases Nat.eq_zero_or_pos M with h|h
     . exact absurd (by rw [hNM,h,Nat.zero_mul]) hN0.out
     exact Nat.le_mul_of_pos_left _ h
    exact (Nat.pow_lt_pow_iff_right (by decide)).1 (Nat.lt_of_le_of_lt h1 n2)
   have hM1:2^(n-1-j)<=M:=by
    have h1:2^(n-1-j)*2^j<=M*2^j:=by
     rw [<-Nat.pow_add,show n-1-j+j=n-1 by omega,<-hNM]
     exact n1
    exact Nat.le_of_mul_le_mul_right h1 (Nat.pow_pos (by decide))
   have hM2:M < 2^(n-j):=by
    have h1:M*2^j < 2^(n-j)*2^j:=by
     rw [<-Nat.pow_add,show n-j+j=n by omega,<-hNM]
     exact n2
    exact Nat.lt_of_mul_lt_mul_right h1
   have HF:=Lib.hid hform
   have HM1:=Lib.hid hM1
   have HM2:=Lib.hid hM2
   have HM:=Lib.hid hM
   obtain⟨E,hE,hcap⟩:∃ E,E=1280/\qjq=2^E:=⟨qyi,rfl,qht⟩
   have HC:=Lib.hid hcap
   clear hform hM1 hM2 hM hNM hcap n1 n2 n0
   by_cases hov:1280 < n-j
   . have hge:¬ M < qjq:=by
      rw [HC.out]
      have h1:=HM1.out
      have h2:=Nat.pow_le_pow_right (show 0 < 2 by decide) (show E<=n-1-j by omega)
      generalize 2^E=c at *
      omega
     have hrc:=HF.out
     rw [if_neg hge] at hrc
     injection hrc with hr hc
     subst hr hc
     clear hge
     have f5:(1280:Int) < (n:Int)-(j:Int):=by omega
     obtain⟨⟨z0,z1,z2⟩,z3,z4,z5⟩:=qam hZ
     obtain⟨U,hU,hX,hbU,hfU,s1,s2⟩:=qco hZ (.bool false) (.slice none 0 0) (.int .i64 0)
     go_wp2
     try rw [hU]
     clear hU z0 z1 z2 z3 z4 z5
     obtain⟨⟨z0,z1,z2⟩,_⟩:=qam hX
     have hQ:=hbU _ _ hb (Nat.le_refl _)
     exact bodyPost_ret (v:=.tuple #[.agg #[.bool false,.slice none 0 0,.int .i64 0],.int .i64 10]) (by simp [results,Tryz.results135,go_sem,z0,z1,z2]) rfl ⟨none,0,0,rfl,Nat.le_refl _,hQ,qae.nil_ ..⟩
   have hlt:M < qjq:=by
    rw [HC.out]
    have h1:=HM2.out
    have h2:=Nat.pow_le_pow_right (show 0 < 2 by decide) (show n-j<=E by omega)
    generalize 2^E=c at *
    omega
   have hrc:=HF.out
   rw [if_pos hlt] at hrc
   injection hrc with hr hc
   subst hr hc
   have hlt40:M < 4294967296^40:=by
    rw [b32,show 32*40=E by omega,<-HC.out]
    exact hlt
   have HL40:=Lib.hid hlt40
   clear hlt hlt40
   have f5:¬ (1280:Int) < (n:Int)-(j:Int):=by omega
   go_upto_region 9 with fail
   obtain⟨lo,hlo⟩:∃ lo,j/32=lo:=⟨_,rfl⟩
   obtain⟨hi,hhi⟩:∃ hi,(n+31)/32=hi:=⟨_,rfl⟩
   obtain⟨rj,hrj⟩:∃ rj,j%32=rj:=⟨_,rfl⟩
   obtain⟨ee,hee⟩:∃ ee,k-j=ee:=⟨_,rfl⟩
   have hlohi:lo < hi:=by omega
   have hhi76:hi<=76:=by omega
   have hlen41:hi-lo<=41:=by omega
   have hrj32:rj < 32:=by omega
   obtain⟨q1,q2,q3,q4⟩:=qqg HWD.out (by rw [HWL.out]; exact hhi76) HN.out HLn.out hN0.out hhi hlohi
   have Q1:=Lib.hid q1
   have Q2:=Lib.hid q2
   have Q3:=Lib.hid q3
   have Q4:=Lib.hid q4
   have Q5:Hid (N/4294967296^lo/2^rj=M):=Lib.hid (by rw [<-hrj,qkp hlo]; exact HM.out)
   have f1:(j:Int)/32=(lo:Int):=by omega
   have f2:((n:Int)+31)/32=(hi:Int):=by omega
   have f3:(j:Int)%32=(rj:Int):=by omega
   have f4:(k:Int)-(j:Int)=(ee:Int):=by omega
   have hrr:Hid (32*(hi-1) < n/\32*lo+rj=j):=Lib.hid (by omega)
   clear q1 q2 q3 q4 hlo hhi hrj
   have HEE:=Lib.hid hee
   clear hee
   obtain⟨nl,hnl⟩:∃ nl,hi-lo=nl:=⟨_,rfl⟩
   have HNL:=Lib.hid hnl
   rw [hnl] at Q2 hlen41
   clear hnl
   obtain⟨w3,hw3⟩:∃ W:World,W=wr:=⟨_,rfl⟩
   subst hw3
   go_wp2_with fail
   go_loopw [10,11] (fun lv iv wx=>∃ i:Nat,iv=.int .i64 i/\lo<=i/\i<=hi/\wx.ownsRow w3.heap.size 48 1 lv (i-lo) ((part ws lo i).map (Value.int .u32))/\Below w3.heap.size w3 wx) (fun _ iv _=>hi-(intOf iv).toNat)
   case atStart=>exact⟨lo,by first | rfl | (rw [f1]; done) | (congr 1; omega),Nat.le_refl _,by omega,by rw [qgo,Nat.sub_self]; exact⟨rfl,.inl ⟨rfl,rfl⟩⟩,Below.refl _ _⟩
   case round =>
    obtain⟨i,rfl,hi1,hi2,hown,hb2⟩:=hrel
    have hsz:=hb2.size
    have hW2:qbj wr g ws:=hW1.of_heap (hb2.block g (by omega))
    by_cases hlt:i < hi
    . obtain⟨x,hx,hx2⟩:=qa3 (by decide) HWD.out i
      have g1:=hW2.cell (j:=i) (by omega)
      rw [hx] at g1
      have HX:=Lib.hid hx
      clear hx
      go_wp2_with (first
       | (at_builtin; refine qag _ rfl (.tmp 54) (.tmp 60) 22 rfl w3.heap.size 48 i0 (.int .u32 0) 1 4 Tryz.underlying22 hi0 hz0 hz1 hz2 rfl (by decide) _ _ _ rfl (hown.alloc _) _ _ _ 1 1 [.int .u32 (x:Int)] rfl (qei _ _ _ _) ?c1 ?c2 ?c3 ?c4 ?_))
      case c1=>intro u hu; simp at hu; subst hu; rfl
      case c2=>unfold maxLen; omega
      case c3=>omega
      case c4=>simp; omega
      intro A2 c2 wz hown2 hgrow2 _
      have hb3:Below w3.heap.size w3 wz:=(hb2.alloc hb2.size _).grown hgrow2 (by simp; omega) (fun q hq=>(hown.lt q hq).1)
      rw [qm2 hi1 (by rw [HWL.out]; omega) HX.out] at hown2
      clear hown hgrow2 hb2
      go_wp2
      go_roundw
      case rel=>exact⟨i+1,by first | rfl | go_num,by omega,by omega,by rw [show i+1-lo=i-lo+1 by omega]; exact hown2,hb3⟩
      case measure=>first | (simp [intOf]; done) | (simp [intOf]; omega)
    have hih:i=hi:=by omega
    rw [hih,HNL.out] at hown
    obtain⟨Al,cl,rfl,hncl,hcm⟩:=qbb hown
    have hI:=qae.of_own hown (qqv Q4.out) (by omega)
    have hnl0:0 < nl:=by have:=HNL.out; omega
    have hZ2:=(hb2.block _ l1).trans hZ
    have hbw:=hb.trans (hb2.mono (by omega))
    clear hW2 hW1 hZ hb2 hb
    by_cases h40:nl<=40
    . clear hown
      go_wp2_with fail
      refine (qg8 wr Al nl cl (part ws lo hi) (hI.more (Nat.zero_le _) (Nat.le_refl _)) ⟨by rw [Q2.out]; exact h40,Q3.out⟩ Q4.out hnl0 hncl rj hrj32 M (by rw [Q1.out]; exact Q5.out)).mono ?_
      rintro e w5 ⟨A5,m5,rfl,hB,hm5,hI5⟩
      replace hZ2:=(hB.block _ (by omega)).trans hZ2
      replace hbw:=hbw.trans (hB.mono (by omega))
      have hs5:=hB.size
      clear hB hI
      obtain⟨⟨z0,z1,z2⟩,z3,z4,z5⟩:=qam hZ2
      obtain⟨U,hU,hX,hbU,hfU,s1,s2⟩:=qco hZ2 (.bool s) (.slice A5 m5 m5) (.int .i64 ee)
      go_wp2
      try rw [hU]
      clear hU z0 z1 z2 z3 z4 z5
      obtain⟨⟨z0,z1,z2⟩,_⟩:=qam hX
      have hQ:=hbU _ _ hbw (Nat.le_refl _)
      exact bodyPost_ret (v:=.tuple #[.agg #[.bool s,.slice A5 m5 m5,.int .i64 ee],.int .i64 0]) (by simp [results,Tryz.results135,go_sem,z0,z1,z2]) rfl ⟨A5,m5,m5,by rw [HEE.out],Nat.le_refl _,hQ,(qaq hI5 (fun b h1 h2=>hfU b (by omega))).more (by omega) (by omega)⟩
    have hrj0:0 < rj:=by
     have h1:=hrr.out
     have h2:=HNL.out
     omega
    have h41:nl=41:=by omega
    subst h41
    obtain⟨gl,rfl,hgl1,hgl2,_⟩:=qiv.of_own hown (by omega)
    obtain⟨x0,x1,l2,hl2⟩:∃ x0 x1 l2,part ws lo hi=x0::x1::l2:=by
     have hl:=Q2.out
     match h:part ws lo hi,hl with
     | a::b::t,_=>exact⟨a,b,t,rfl⟩
    rw [hl2] at hI Q1 Q2 Q3 Q4
    have hd0:=Q4.out x0 (by simp)
    have hd1:=Q4.out x1 (by simp)
    obtain⟨y0,rfl⟩:∃ y:Nat,x0=y:=⟨x0.toNat,by omega⟩
    obtain⟨y1,rfl⟩:∃ y:Nat,x1=y:=⟨x1.toNat,by omega⟩
    have hI2:=qhr hI
    have hm2:qn5 ((y1:Int)::l2):=⟨by have:=Q2.out; simp at this ⊢; omega,fun hne=>by
     have:=Q3.out (by simp)
     rwa [List.getLast_cons hne] at this⟩
    have hdg2:Dig 4294967296 ((y1:Int)::l2):=fun x hx=>Q4.out x (List.mem_cons_of_mem _ hx)
    obtain⟨T,hT⟩:∃ T,num 4294967296 ((y1:Int)::l2)/2^rj=T:=⟨_,rfl⟩
    obtain⟨fl1,fl2,fl3⟩:=qhs (x:=y0) (y:=y1) (by omega) hrj0 hrj32
    have hsplit:num 4294967296 ((y0:Int)::(y1:Int)::l2)=y0+4294967296*num 4294967296 ((y1:Int)::l2):=by simp [num]
    have hsplit2:num 4294967296 ((y1:Int)::l2)=y1+4294967296*num 4294967296 l2:=by simp [num]
    obtain⟨f,hf⟩:∃ f,y0/2^rj+y1*2^(32-rj)%4294967296=f:=⟨_,rfl⟩
    have hMf:M=f+4294967296*T:=by
     have e1:=Q1.out
     have e2:=Q5.out
     rw [<-e1] at e2
     have e3:=qv6 (num 4294967296 ((y0:Int)::(y1:Int)::l2)) rj hrj32
     have e4:num 4294967296 ((y0:Int)::(y1:Int)::l2)%4294967296=y0:=by rw [hsplit]; omega
     have e5:num 4294967296 ((y0:Int)::(y1:Int)::l2)/4294967296=num 4294967296 ((y1:Int)::l2):=by rw [hsplit]; omega
     have e6:num 4294967296 ((y1:Int)::l2)%4294967296=y1:=by rw [hsplit2]; omega
     rw [e4,e5,e6,<-fl3,hf,e2] at e3
     have e7:M/4294967296=T:=by
      rw [<-e2,<-hT,<-e5,Nat.div_div_eq_div_mul,Nat.div_div_eq_div_mul,Nat.mul_comm]
     omega
    have hflt:f < 4294967296:=by
     rw [<-hf,fl3]
     exact Nat.mod_lt _ (by decide)
    have hT0:T≠0:=by
     intro h
     have h1:=HM1.out
     have h2:=Nat.pow_le_pow_right (show 0 < 2 by decide) (show 32<=n-1-j by have:=hrr.out; have:=HNL.out; omega)
     rw [hMf,h] at h1
     omega
    have hcm1:=qky hflt hT0
    rw [<-hMf] at hcm1
    have hlen:=qe6 HL40.out
    rw [hcm1] at hlen
    have HCM:=Lib.hid hcm1
    have HTT:=Lib.hid hT
    have hcl1:¬ cl=1:=by omega
    clear hMf hcm1 hT hsplit hsplit2 fl3 hown
    go_wp2_with fail
    refine (qg8 wr (some ⟨gl,1,none⟩) 40 (cl-1) ((y1:Int)::l2) (hI2.more (Nat.zero_le _) (Nat.le_refl _)) hm2 hdg2 (by decide) (by omega) rj hrj32 T HTT.out).mono ?_
    rintro e w5 ⟨A5,m5,rfl,hB,hm5,hI5⟩
    have hs5:=hB.size
    replace hZ2:=(hB.block _ (by omega)).trans hZ2
    replace hbw:=hbw.trans (hB.mono (by omega))
    replace hI:=hI.below hB (Nat.le_refl _)
    clear hB hI2
    have hm5':m5+1<=40:=by
     have:=hI5.len
     simp at hlen
     omega
    obtain⟨a0,ha0⟩:∃ a0,y0/2^rj=a0:=⟨_,rfl⟩
    obtain⟨c32,hc32⟩:∃ c,32-rj=c:=⟨_,rfl⟩
    rw [hc32] at fl1 fl2 hf
    obtain⟨b0,hb0⟩:∃ b0,y1*2^c32%4294967296=b0:=⟨_,rfl⟩
    rw [ha0] at fl2 hf
    rw [hb0] at fl1 hf
    have hw2:(j:Int).tmod 32=(rj:Int):=by rw [Int.tmod_eq_emod_of_nonneg (by omega)]; exact f3
    have hw3:(y0:Int)/2^rj=(a0:Int):=by rw [<-ha0]; push_cast; rfl
    have hw4:(32:Int)-(rj:Int)=(c32:Int):=by omega
    have hw5:(y1:Int)*2^c32%4294967296=(b0:Int):=by
     have e0:((y1:Int)*2^c32)=((y1*2^c32:Nat):Int):=by push_cast; rfl
     rw [e0]
     omega
    have hw6:IntKind.u32.wrap ((y1:Int)*2^c32)=(b0:Int):=by rw [IntKind.wrap_u32]; exact hw5
    have hw10:IntKind.i64.wrap (c32:Int)=(c32:Int):=by rw [IntKind.wrap_i64]; omega
    have hw7:bits .or .u32 (a0:Int) (b0:Int)=(f:Int):=by
     rw [u32_or_nat _ _ (by omega) (by omega),Nat.or_comm,nat_join c32 b0 a0 fl1 fl2,Nat.add_comm,hf]
    have hw8:(0:Int)<=(c32:Int):=by omega
    have hw9:(0:Int)<=(rj:Int):=by omega
    clear ha0 hc32 hb0 hf fl1 fl2
    go_wp2_with fail
    refine zB (qra w5) [] 18 ?_
    have kp_:qra w5 w5.drew:=fun _ _=>rfl
    have hgl3:gl < w5.heap.size:=by omega
    have hc0:w5.cell? ⟨gl,0,none⟩=some (.int .u32 y0):=by
     obtain⟨b',off',e,h1,h2,hc⟩:=hI.row (by decide)
     injection e with e
     injection e with e1 e2
     subst e1 e2
     simpa using (hc 0 (by decide)).1
    have hc1:w5.cell? ⟨gl,1,none⟩=some (.int .u32 y1):=by
     obtain⟨b',off',e,h1,h2,hc⟩:=hI.row (by decide)
     injection e with e
     injection e with e1 e2
     subst e1 e2
     simpa using (hc 1 (by decide)).1
    have hI5d:=hI5.drewN 1
    have hZ2d:w5.drew.heap[w.heap.size]? = some (.cells #[.bool false,.slice none 0 0,.int .i64 0] 24 (0,0)):=hZ2
    have bd5:Below w5.heap.size w5 w5.drew:=(Below.refl _ _).drew
    have lv1:w5.heap.size<=w5.drew.heap.size:=Nat.le_refl _
    have lv2:w5.drew.heap.size<=w5.heap.size:=Nat.le_refl _
    replace hI5d:qae w5.drew wr.heap.size w5.heap.size .u32 A5 m5 (qaf 4294967296 T):=hI5d
    generalize w5.drew=v5 at *
    refine zM 2 [0,1] ?_ ?_
    refine zD 2 (.int .u32 y0) rfl ?ry_1 ?rr_1
    case ry_1 =>
     intro w' h1
     have c_:=(World.cell?_of_block (h1 gl hgl3)).trans hc0
     go_simp
    try simp only [Act.put,zp]
    refine zM 5 [3,4,5,6,7] ?_ ?_
    refine zD 8 (.int .u32 y1) rfl ?sy_1 ?sr_1
    case sy_1 =>
     intro w' h1
     have c_:=(World.cell?_of_block (h1 gl hgl3)).trans hc1
     go_simp
    try simp only [Act.put,zp]
    refine zM 6 [9,10,11,12,13,15] ?_ ?_
    refine zK 14 rfl fun K hK=>?_
    go_simp
    have hX6:(v5.alloc (.cells #[.int .u32 (f:Int)] 48)).heap[v5.heap.size]? = some (.cells #[.int .u32 (f:Int)] 48 (0,0)):=heap_alloc_last v5 _
    have hB6:Below w5.heap.size w5 (v5.alloc (.cells #[.int .u32 (f:Int)] 48)):=bd5.alloc lv1 _
    have hI6:qae (v5.alloc (.cells #[.int .u32 (f:Int)] 48)) wr.heap.size w5.heap.size .u32 A5 m5 (qaf 4294967296 T):=hI5d.alloc lv1 _
    have hs6:v5.heap.size < (v5.alloc (.cells #[.int .u32 (f:Int)] 48)).heap.size:=by rw [World.size_alloc]; exact Nat.lt_succ_self _
    generalize v5.alloc (.cells #[.int .u32 (f:Int)] 48)=w6 at *
    refine hK _ _ ⟨fun _ _ p hp=>hB6.block p hp,?_⟩
    clear hK K kp_ hc0 hc1
    try simp only [Act.put,zp]
    refine zK 16 rfl fun K hK=>?_
    refine qga (.tmp 100) (.tmp 101) 22 rfl v5.heap.size 48 i0 (.int .u32 0) 1 4 Tryz.underlying22 hi0 hz0 hz1 hz2 rfl (by decide) (.slice (some ⟨v5.heap.size,0,none⟩) 1 1) 1 [.int .u32 (f:Int)] rfl (qlj hX6) _ _ A5 m5 m5 _ rfl hI6.raw (fun u hu=>by
     obtain⟨x,_,rfl⟩:=List.mem_map.1 hu
     rfl) (by unfold maxLen; omega) (by omega) (by omega) ?_
    intro A7 c7 w7 hown7 hg7 hob7
    have hB7:Below w5.heap.size w5 w7:=hB6.grown hg7 (by omega) (fun q hq=>by cases hq; exact lv1)
    refine hK _ _ ⟨fun _ _ p hp=>hB7.block p hp,?_⟩
    clear hK K
    try simp only [Act.put,zp]
    refine zM 1 [17] ?_ ?_
    refine qa2 (by kernel_rfl) ?_ _
    have hs7:=hB7.size
    replace hZ2:=(hB7.block _ (by omega)).trans hZ2
    replace hbw:=hbw.trans (hB7.mono (by omega))
    rw [show ([Value.int .u32 (f:Int)]++(qaf 4294967296 T).map (Value.int .u32))=(qaf 4294967296 M).map (Value.int .u32) by rw [HCM.out]; rfl] at hown7
    have hI7:=qae.of_own hown7 (qqv (qah 4294967296 M (by decide)).1) (by omega)
    have hnc7:=qd0 hown7
    clear hown7 hg7 hob7 hB7 hB6 hX6 hI5 hI5d hI6 hI bd5
    obtain⟨m7,hm7⟩:∃ m7,1+m5=m7:=⟨_,rfl⟩
    rw [hm7] at hI7 hnc7 ⊢
    have hm40:m7<=40:=by omega
    clear hm7 hw2 hw3 hw4 hw5 hw6 hw7 hw8 hw9 hw10
    have hmin:∀ W:World,(Builtin.min_ #[3,3] 3 #[.int .i64 m7,.int .i64 40]).run Tryz.prog W=.ok (.int .i64 m7) W:=fun W=>qms W _ _ _ _ (by omega)
    obtain⟨⟨z0,z1,z2⟩,z3,z4,z5⟩:=qam hZ2
    obtain⟨U,hU,hX,hbU,hfU,s1,s2⟩:=qco hZ2 (.bool s) (.slice A7 m7 c7) (.int .i64 ee)
    go_wp2
    try rw [hU]
    clear hU z0 z1 z2 z3 z4 z5
    obtain⟨⟨z0,z1,z2⟩,_⟩:=qam hX
    have hQ:=hbU _ _ hbw (Nat.le_refl _)
    exact bodyPost_ret (v:=.tuple #[.agg #[.bool s,.slice A7 m7 c7,.int .i64 ee],.int .i64 0]) (by simp [results,Tryz.results135,go_sem,z0,z1,z2]) rfl ⟨A7,m7,c7,by rw [HEE.out],hnc7,hQ,(qaq hI7 (fun b h1 h2=>hfU b (by omega))).more (by omega) (by omega)⟩
   skip
 have HO:Hid (j=k∨N/2^j%2=1):=Lib.hid (.inl (by omega))
 obtain⟨M,hM⟩:∃ M,N/2^j=M:=⟨_,rfl⟩
 have hNM:N=M*2^j:=by
  have h1:=Nat.div_add_mod N (2^j)
  rw [hmod.out,Nat.add_zero,hM] at h1
  rw [Nat.mul_comm]
  exact h1.symm
 obtain⟨n0,n1,n2⟩:=HLn.out.resolve_left (fun h=>hN0.out h.1)
 have hform:=qnh (s:=s) hNM hN0.out hj (by rw [<-hM]; exact HO.out) (by omega)
 rw [H.out] at hform
 have hjn:j < n:=by
  have h1:2^j<=N:=by
   rw [hNM]
   rcases Nat.eq_zero_or_pos M with h|h
   . exact absurd (by rw [hNM,h,Nat.zero_mul]) hN0.out
   exact Nat.le_mul_of_pos_left _ h
  exact (Nat.pow_lt_pow_iff_right (by decide)).1 (Nat.lt_of_le_of_lt h1 n2)
 have hM1:2^(n-1-j)<=M:=by
  have h1:2^(n-1-j)*2^j<=M*2^j:=by
   rw [<-Nat.pow_add,show n-1-j+j=n-1 by omega,<-hNM]
   exact n1
  exact Nat.le_of_mul_le_mul_right h1 (Nat.pow_pos (by decide))
 have hM2:M < 2^(n-j):=by
  have h1:M*2^j < 2^(n-j)*2^j:=by
   rw [<-Nat.pow_add,show n-j+j=n by omega,<-hNM]
   exact n2
  exact Nat.lt_of_mul_lt_mul_right h1
 have HF:=Lib.hid hform
 have HM1:=Lib.hid hM1
 have HM2:=Lib.hid hM2
 have HM:=Lib.hid hM
 obtain⟨E,hE,hcap⟩:∃ E,E=1280/\qjq=2^E:=⟨qyi,rfl,qht⟩
 have HC:=Lib.hid hcap
 clear hform hM1 hM2 hM hNM hcap n1 n2 n0
 by_cases hov:1280 < n-j
 . have hge:¬ M < qjq:=by
    rw [HC.out]
    have h1:=HM1.out
    have h2:=Nat.pow_le_pow_right (show 0 < 2 by decide) (show E<=n-1-j by omega)
    generalize 2^E=c at *
    omega
   have hrc:=HF.out
   rw [if_neg hge] at hrc
   injection hrc with hr hc
   subst hr hc
   clear hge
   have f5:(1280:Int) < (n:Int)-(j:Int):=by omega
   obtain⟨⟨z0,z1,z2⟩,z3,z4,z5⟩:=qam hZ
   obtain⟨U,hU,hX,hbU,hfU,s1,s2⟩:=qco hZ (.bool false) (.slice none 0 0) (.int .i64 0)
   go_wp2
   try rw [hU]
   clear hU z0 z1 z2 z3 z4 z5
   obtain⟨⟨z0,z1,z2⟩,_⟩:=qam hX
   have hQ:=hbU _ _ hb (Nat.le_refl _)
   exact bodyPost_ret (v:=.tuple #[.agg #[.bool false,.slice none 0 0,.int .i64 0],.int .i64 10]) (by simp [results,Tryz.results135,go_sem,z0,z1,z2]) rfl ⟨none,0,0,rfl,Nat.le_refl _,hQ,qae.nil_ ..⟩
 have hlt:M < qjq:=by
  rw [HC.out]
  have h1:=HM2.out
  have h2:=Nat.pow_le_pow_right (show 0 < 2 by decide) (show n-j<=E by omega)
  generalize 2^E=c at *
  omega
 have hrc:=HF.out
 rw [if_pos hlt] at hrc
 injection hrc with hr hc
 subst hr hc
 have hlt40:M < 4294967296^40:=by
  rw [b32,show 32*40=E by omega,<-HC.out]
  exact hlt
 have HL40:=Lib.hid hlt40
 clear hlt hlt40
 have f5:¬ (1280:Int) < (n:Int)-(j:Int):=by omega
 go_upto_region 9 with fail
 obtain⟨lo,hlo⟩:∃ lo,j/32=lo:=⟨_,rfl⟩
 obtain⟨hi,hhi⟩:∃ hi,(n+31)/32=hi:=⟨_,rfl⟩
 obtain⟨rj,hrj⟩:∃ rj,j%32=rj:=⟨_,rfl⟩
 obtain⟨ee,hee⟩:∃ ee,k-j=ee:=⟨_,rfl⟩
 have hlohi:lo < hi:=by omega
 have hhi76:hi<=76:=by omega
 have hlen41:hi-lo<=41:=by omega
 have hrj32:rj < 32:=by omega
 obtain⟨q1,q2,q3,q4⟩:=qqg HWD.out (by rw [HWL.out]; exact hhi76) HN.out HLn.out hN0.out hhi hlohi
 have Q1:=Lib.hid q1
 have Q2:=Lib.hid q2
 have Q3:=Lib.hid q3
 have Q4:=Lib.hid q4
 have Q5:Hid (N/4294967296^lo/2^rj=M):=Lib.hid (by rw [<-hrj,qkp hlo]; exact HM.out)
 have f1:(j:Int)/32=(lo:Int):=by omega
 have f2:((n:Int)+31)/32=(hi:Int):=by omega
 have f3:(j:Int)%32=(rj:Int):=by omega
 have f4:(k:Int)-(j:Int)=(ee:Int):=by omega
 have hrr:Hid (32*(hi-1) < n/\32*lo+rj=j):=Lib.hid (by omega)
 clear q1 q2 q3 q4 hlo hhi hrj
 have HEE:=Lib.hid hee
 clear hee
 obtain⟨nl,hnl⟩:∃ nl,hi-lo=nl:=⟨_,rfl⟩
 have HNL:=Lib.hid hnl
 rw [hnl] at Q2 hlen41
 clear hnl
 obtain⟨w3,hw3⟩:∃ W:World,W=wr:=⟨_,rfl⟩
 subst hw3
 go_wp2_with fail
 go_loopw [10,11] (fun lv iv wx=>∃ i:Nat,iv=.int .i64 i/\lo<=i/\i<=hi/\wx.ownsRow w3.heap.size 48 1 lv (i-lo) ((part ws lo i).map (Value.int .u32))/\Below w3.heap.size w3 wx) (fun _ iv _=>hi-(intOf iv).toNat)
 case atStart=>exact⟨lo,by first | rfl | (rw [f1]; done) | (congr 1; omega),Nat.le_refl _,by omega,by rw [qgo,Nat.sub_self]; exact⟨rfl,.inl ⟨rfl,rfl⟩⟩,Below.refl _ _⟩
 case round =>
  obtain⟨i,rfl,hi1,hi2,hown,hb2⟩:=hrel
  have hsz:=hb2.size
  have hW2:qbj wr g ws:=hW1.of_heap (hb2.block g (by omega))
  by_cases hlt:i < hi
  . obtain⟨x,hx,hx2⟩:=qa3 (by decide) HWD.out i
    have g1:=hW2.cell (j:=i) (by omega)
    rw [hx] at g1
    have HX:=Lib.hid hx
    clear hx
    go_wp2_with (first
     | (at_builtin; refine qag _ rfl (.tmp 54) (.tmp 60) 22 rfl w3.heap.size 48 i0 (.int .u32 0) 1 4 Tryz.underlying22 hi0 hz0 hz1 hz2 rfl (by decide) _ _ _ rfl (hown.alloc _) _ _ _ 1 1 [.int .u32 (x:Int)] rfl (qei _ _ _ _) ?c1 ?c2 ?c3 ?c4 ?_))
    case c1=>intro u hu; simp at hu; subst hu; rfl
    case c2=>unfold maxLen; omega
    case c3=>omega
    case c4=>simp; omega
    intro A2 c2 wz hown2 hgrow2 _
    have hb3:Below w3.heap.size w3 wz:=(hb2.alloc hb2.size _).grown hgrow2 (by simp; omega) (fun q hq=>(hown.lt q hq).1)
    rw [qm2 hi1 (by rw [HWL.out]; omega) HX.out] at hown2
    clear hown hgrow2 hb2
    go_wp2
    go_roundw
    case rel=>exact⟨i+1,by first | rfl | go_num,by omega,by omega,by rw [show i+1-lo=i-lo+1 by omega]; exact hown2,hb3⟩
    case measure=>first | (simp [intOf]; done) | (simp [intOf]; omega)
  have hih:i=hi:=by omega
  rw [hih,HNL.out] at hown
  obtain⟨Al,cl,rfl,hncl,hcm⟩:=qbb hown
  have hI:=qae.of_own hown (qqv Q4.out) (by omega)
  have hnl0:0 < nl:=by have:=HNL.out; omega
  have hZ2:=(hb2.block _ l1).trans hZ
  have hbw:=hb.trans (hb2.mono (by omega))
  clear hW2 hW1 hZ hb2 hb
  by_cases h40:nl<=40
  . clear hown
    go_wp2_with fail
    refine (qg8 wr Al nl cl (part ws lo hi) (hI.more (Nat.zero_le _) (Nat.le_refl _)) ⟨by rw [Q2.out]; exact h40,Q3.out⟩ Q4.out hnl0 hncl rj hrj32 M (by rw [Q1.out]; exact Q5.out)).mono ?_
    rintro e w5 ⟨A5,m5,rfl,hB,hm5,hI5⟩
    replace hZ2:=(hB.block _ (by omega)).trans hZ2
    replace hbw:=hbw.trans (hB.mono (by omega))
    have hs5:=hB.size
    clear hB hI
    obtain⟨⟨z0,z1,z2⟩,z3,z4,z5⟩:=qam hZ2
    obtain⟨U,hU,hX,hbU,hfU,s1,s2⟩:=qco hZ2 (.bool s) (.slice A5 m5 m5) (.int .i64 ee)
    go_wp2
    try rw [hU]
    clear hU z0 z1 z2 z3 z4 z5
    obtain⟨⟨z0,z1,z2⟩,_⟩:=qam hX
    have hQ:=hbU _ _ hbw (Nat.le_refl _)
    exact bodyPost_ret (v:=.tuple #[.agg #[.bool s,.slice A5 m5 m5,.int .i64 ee],.int .i64 0]) (by simp [results,Tryz.results135,go_sem,z0,z1,z2]) rfl ⟨A5,m5,m5,by rw [HEE.out],Nat.le_refl _,hQ,(qaq hI5 (fun b h1 h2=>hfU b (by omega))).more (by omega) (by omega)⟩
  have hrj0:0 < rj:=by
   have h1:=hrr.out
   have h2:=HNL.out
   omega
  have h41:nl=41:=by omega
  subst h41
  obtain⟨gl,rfl,hgl1,hgl2,_⟩:=qiv.of_own hown (by omega)
  obtain⟨x0,x1,l2,hl2⟩:∃ x0 x1 l2,part ws lo hi=x0::x1::l2:=by
   have hl:=Q2.out
   match h:part ws lo hi,hl with
   | a::b::t,_=>exact⟨a,b,t,rfl⟩
  rw [hl2] at hI Q1 Q2 Q3 Q4
  have hd0:=Q4.out x0 (by simp)
  have hd1:=Q4.out x1 (by simp)
  obtain⟨y0,rfl⟩:∃ y:Nat,x0=y:=⟨x0.toNat,by omega⟩
  obtain⟨y1,rfl⟩:∃ y:Nat,x1=y:=⟨x1.toNat,by omega⟩
  have hI2:=qhr hI
  have hm2:qn5 ((y1:Int)::l2):=⟨by have:=Q2.out; simp at this ⊢; omega,fun hne=>by
   have:=Q3.out (by simp)
   rwa [List.getLast_cons hne] at this⟩
  have hdg2:Dig 4294967296 ((y1:Int)::l2):=fun x hx=>Q4.out x (List.mem_cons_of_mem _ hx)
  obtain⟨T,hT⟩:∃ T,num 4294967296 ((y1:Int)::l2)/2^rj=T:=⟨_,rfl⟩
  obtain⟨fl1,fl2,fl3⟩:=qhs (x:=y0) (y:=y1) (by omega) hrj0 hrj32
  have hsplit:num 4294967296 ((y0:Int)::(y1:Int)::l2)=y0+4294967296*num 4294967296 ((y1:Int)::l2):=by simp [num]
  have hsplit2:num 4294967296 ((y1:Int)::l2)=y1+4294967296*num 4294967296 l2:=by simp [num]
  obtain⟨f,hf⟩:∃ f,y0/2^rj+y1*2^(32-rj)%4294967296=f:=⟨_,rfl⟩
  have hMf:M=f+4294967296*T:=by
   have e1:=Q1.out
   have e2:=Q5.out
   rw [<-e1] at e2
   have e3:=qv6 (num 4294967296 ((y0:Int)::(y1:Int)::l2)) rj hrj32
   have e4:num 4294967296 ((y0:Int)::(y1:Int)::l2)%4294967296=y0:=by rw [hsplit]; omega
   have e5:num 4294967296 ((y0:Int)::(y1:Int)::l2)/4294967296=num 4294967296 ((y1:Int)::l2):=by rw [hsplit]; omega
   have e6:num 4294967296 ((y1:Int)::l2)%4294967296=y1:=by rw [hsplit2]; omega
   rw [e4,e5,e6,<-fl3,hf,e2] at e3
   have e7:M/4294967296=T:=by
    rw [<-e2,<-hT,<-e5,Nat.div_div_eq_div_mul,Nat.div_div_eq_div_mul,Nat.mul_comm]
   omega
  have hflt:f < 4294967296:=by
   rw [<-hf,fl3]
   exact Nat.mod_lt _ (by decide)
  have hT0:T≠0:=by
   intro h
   have h1:=HM1.out
   have h2:=Nat.pow_le_pow_right (show 0 < 2 by decide) (show 32<=n-1-j by have:=hrr.out; have:=HNL.out; omega)
   rw [hMf,h] at h1
   omega
  have hcm1:=qky hflt hT0
  rw [<-hMf] at hcm1
  have hlen:=qe6 HL40.out
  rw [hcm1] at hlen
  have HCM:=Lib.hid hcm1
  have HTT:=Lib.hid hT
  have hcl1:¬ cl=1:=by omega
  clear hMf hcm1 hT hsplit hsplit2 fl3 hown
  go_wp2_with fail
  refine (qg8 wr (some ⟨gl,1,none⟩) 40 (cl-1) ((y1:Int)::l2) (hI2.more (Nat.zero_le _) (Nat.le_refl _)) hm2 hdg2 (by decide) (by omega) rj hrj32 T HTT.out).mono ?_
  rintro e w5 ⟨A5,m5,rfl,hB,hm5,hI5⟩
  have hs5:=hB.size
  replace hZ2:=(hB.block _ (by omega)).trans hZ2
  replace hbw:=hbw.trans (hB.mono (by omega))
  replace hI:=hI.below hB (Nat.le_refl _)
  clear hB hI2
  have hm5':m5+1<=40:=by
   have:=hI5.len
   simp at hlen
   omega
  obtain⟨a0,ha0⟩:∃ a0,y0/2^rj=a0:=⟨_,rfl⟩
  obtain⟨c32,hc32⟩:∃ c,32-rj=c:=⟨_,rfl⟩
  rw [hc32] at fl1 fl2 hf
  obtain⟨b0,hb0⟩:∃ b0,y1*2^c32%4294967296=b0:=⟨_,rfl⟩
  rw [ha0] at fl2 hf
  rw [hb0] at fl1 hf
  have hw2:(j:Int).tmod 32=(rj:Int):=by rw [Int.tmod_eq_emod_of_nonneg (by omega)]; exact f3
  have hw3:(y0:Int)/2^rj=(a0:Int):=by rw [<-ha0]; push_cast; rfl
  have hw4:(32:Int)-(rj:Int)=(c32:Int):=by omega
  have hw5:(y1:Int)*2^c32%4294967296=(b0:Int):=by
   have e0:((y1:Int)*2^c32)=((y1*2^c32:Nat):Int):=by push_cast; rfl
   rw [e0]
   omega
  have hw6:IntKind.u32.wrap ((y1:Int)*2^c32)=(b0:Int):=by rw [IntKind.wrap_u32]; exact hw5
  have hw10:IntKind.i64.wrap (c32:Int)=(c32:Int):=by rw [IntKind.wrap_i64]; omega
  have hw7:bits .or .u32 (a0:Int) (b0:Int)=(f:Int):=by
   rw [u32_or_nat _ _ (by omega) (by omega),Nat.or_comm,nat_join c32 b0 a0 fl1 fl2,Nat.add_comm,hf]
  have hw8:(0:Int)<=(c32:Int):=by omega
  have hw9:(0:Int)<=(rj:Int):=by omega
  clear ha0 hc32 hb0 hf fl1 fl2
  go_wp2_with fail
  refine zB (qra w5) [] 18 ?_
  have kp_:qra w5 w5.drew:=fun _ _=>rfl
  have hgl3:gl < w5.heap.size:=by omega
  have hc0:w5.cell? ⟨gl,0,none⟩=some (.int .u32 y0):=by
   obtain⟨b',off',e,h1,h2,hc⟩:=hI.row (by decide)
   injection e with e
   injection e with e1 e2
   subst e1 e2
   simpa using (hc 0 (by decide)).1
  have hc1:w5.cell? ⟨gl,1,none⟩=some (.int .u32 y1):=by
   obtain⟨b',off',e,h1,h2,hc⟩:=hI.row (by decide)
   injection e with e
   injection e with e1 e2
   subst e1 e2
   simpa using (hc 1 (by decide)).1
  have hI5d:=hI5.drewN 1
  have hZ2d:w5.drew.heap[w.heap.size]? = some (.cells #[.bool false,.slice none 0 0,.int .i64 0] 24 (0,0)):=hZ2
  have bd5:Below w5.heap.size w5 w5.drew:=(Below.refl _ _).drew
  have lv1:w5.heap.size<=w5.drew.heap.size:=Nat.le_refl _
  have lv2:w5.drew.heap.size<=w5.heap.size:=Nat.le_refl _
  replace hI5d:qae w5.drew wr.heap.size w5.heap.size .u32 A5 m5 (qaf 4294967296 T):=hI5d
  generalize w5.drew=v5 at *
  refine zM 2 [0,1] ?_ ?_
  refine zD 2 (.int .u32 y0) rfl ?ry_2 ?rr_2
  case ry_2 =>
   intro w' h1
   have c_:=(World.cell?_of_block (h1 gl hgl3)).trans hc0
   go_simp
  try simp only [Act.put,zp]
  refine zM 5 [3,4,5,6,7] ?_ ?_
  refine zD 8 (.int .u32 y1) rfl ?sy_2 ?sr_2
  case sy_2 =>
   intro w' h1
   have c_:=(World.cell?_of_block (h1 gl hgl3)).trans hc1
   go_simp
  try simp only [Act.put,zp]
  refine zM 6 [9,10,11,12,13,15] ?_ ?_
  refine zK 14 rfl fun K hK=>?_
  go_simp
  have hX6:(v5.alloc (.cells #[.int .u32 (f:Int)] 48)).heap[v5.heap.size]? = some (.cells #[.int .u32 (f:Int)] 48 (0,0)):=heap_alloc_last v5 _
  have hB6:Below w5.heap.size w5 (v5.alloc (.cells #[.int .u32 (f:Int)] 48)):=bd5.alloc lv1 _
  have hI6:qae (v5.alloc (.cells #[.int .u32 (f:Int)] 48)) wr.heap.size w5.heap.size .u32 A5 m5 (qaf 4294967296 T):=hI5d.alloc lv1 _
  have hs6:v5.heap.size < (v5.alloc (.cells #[.int .u32 (f:Int)] 48)).heap.size:=by rw [World.size_alloc]; exact Nat.lt_succ_self _
  generalize v5.alloc (.cells #[.int .u32 (f:Int)] 48)=w6 at *
  refine hK _ _ ⟨fun _ _ p hp=>hB6.block p hp,?_⟩
  clear hK K kp_ hc0 hc1
  try simp only [Act.put,zp]
  refine zK 16 rfl fun K hK=>?_
  refine qga (.tmp 100) (.tmp 101) 22 rfl v5.heap.size 48 i0 (.int .u32 0) 1 4 Tryz.underlying22 hi0 hz0 hz1 hz2 rfl (by decide) (.slice (some ⟨v5.heap.size,0,none⟩) 1 1) 1 [.int .u32 (f:Int)] rfl (qlj hX6) _ _ A5 m5 m5 _ rfl hI6.raw (fun u hu=>by
   obtain⟨x,_,rfl⟩:=List.mem_map.1 hu
   rfl) (by unfold maxLen; omega) (by omega) (by omega) ?_
  intro A7 c7 w7 hown7 hg7 hob7
  have hB7:Below w5.heap.size w5 w7:=hB6.grown hg7 (by omega) (fun q hq=>by cases hq; exact lv1)
  refine hK _ _ ⟨fun _ _ p hp=>hB7.block p hp,?_⟩
  clear hK K
  try simp only [Act.put,zp]
  refine zM 1 [17] ?_ ?_
  refine qa2 (by kernel_rfl) ?_ _
  have hs7:=hB7.size
  replace hZ2:=(hB7.block _ (by omega)).trans hZ2
  replace hbw:=hbw.trans (hB7.mono (by omega))
  rw [show ([Value.int .u32 (f:Int)]++(qaf 4294967296 T).map (Value.int .u32))=(qaf 4294967296 M).map (Value.int .u32) by rw [HCM.out]; rfl] at hown7
  have hI7:=qae.of_own hown7 (qqv (qah 4294967296 M (by decide)).1) (by omega)
  have hnc7:=qd0 hown7
  clear hown7 hg7 hob7 hB7 hB6 hX6 hI5 hI5d hI6 hI bd5
  obtain⟨m7,hm7⟩:∃ m7,1+m5=m7:=⟨_,rfl⟩
  rw [hm7] at hI7 hnc7 ⊢
  have hm40:m7<=40:=by omega
  clear hm7 hw2 hw3 hw4 hw5 hw6 hw7 hw8 hw9 hw10
  have hmin:∀ W:World,(Builtin.min_ #[3,3] 3 #[.int .i64 m7,.int .i64 40]).run Tryz.prog W=.ok (.int .i64 m7) W:=fun W=>qms W _ _ _ _ (by omega)
  obtain⟨⟨z0,z1,z2⟩,z3,z4,z5⟩:=qam hZ2
  obtain⟨U,hU,hX,hbU,hfU,s1,s2⟩:=qco hZ2 (.bool s) (.slice A7 m7 c7) (.int .i64 ee)
  go_wp2
  try rw [hU]
  clear hU z0 z1 z2 z3 z4 z5
  obtain⟨⟨z0,z1,z2⟩,_⟩:=qam hX
  have hQ:=hbU _ _ hbw (Nat.le_refl _)
  exact bodyPost_ret (v:=.tuple #[.agg #[.bool s,.slice A7 m7 c7,.int .i64 ee],.int .i64 0]) (by simp [results,Tryz.results135,go_sem,z0,z1,z2]) rfl ⟨A7,m7,c7,by rw [HEE.out],hnc7,hQ,(qaq hI7 (fun b h1 h2=>hfU b (by omega))).more (by omega) (by omega)⟩
 skip
theorem qwe(xs ys:List Int):∀ (n:Nat),xs.length=n->ys.length=n->((List.range n).all fun i=>xs.getD i 0==ys.getD i 0)=(xs==ys)
 | n,hx,hy=>by
  subst hx
  revert ys
  induction xs with
  | nil=>intro ys hy; have:ys=[]:=List.eq_nil_of_length_eq_zero hy; subst this; rfl
  | cons x xs ih =>
   intro ys hy
   cases ys with
   | nil=>simp at hy
   | cons y ys =>
    have h:=ih ys (by simpa using hy)
    rw [List.length_cons,List.range_succ_eq_map,List.all_cons,List.all_map]
    simp only [List.getD_cons_zero,Function.comp_def,List.getD_cons_succ,h]
    simp [List.cons_beq_cons]
theorem qid{P:Program}(w:World)(d:Nat)(t e:TypeId)(n:Nat)(ht:P.underlying t=some (.array n e))(he:P.underlying e=some (.int .u32))(hsz:∀ w,(sizeOf e).run P w=.ok 1 w)
  (xs ys:List Int) (hx:xs.length=n) (hy:ys.length=n) :
  (Op.equalIn (d+2) t (.agg (qat xs)) (.agg (qat ys))).run P w=.ok (xs==ys) w:=by
 rw [<-qwe xs ys n hx hy,List.range_eq_range',Op.equalIn]
 simp only [Sem.run_bind,run_underlying ht,Result.andThen_ok,hsz,Std.Legacy.Range.forIn_eq_forIn_range',Std.Legacy.Range.size,Nat.sub_zero,Nat.add_sub_cancel,Nat.div_one]
 have hl:∀ i∈List.range' 0 n 1,i < n:=fun i hi=>by simpa using (List.mem_range'_1.1 hi).2
 generalize List.range' 0 n 1=l at hl ⊢
 induction l with
 | nil=>simp
 | cons i l ih =>
  have hi:i < n:=hl i (by simp)
  have px:(Go.part e (qat xs) (i*1)).run P w=.ok (.int .u32 (xs.getD i 0)) w:=by
   simp [Go.part,isAgg,run_underlying he,qat,List.getD,List.getElem?_eq_getElem (show i < xs.length by omega)]
  have py:(Go.part e (qat ys) (i*1)).run P w=.ok (.int .u32 (ys.getD i 0)) w:=by
   simp [Go.part,isAgg,run_underlying he,qat,List.getD,List.getElem?_eq_getElem (show i < ys.length by omega)]
  have pe:(Op.equalIn (d+1) e (.int .u32 (xs.getD i 0)) (.int .u32 (ys.getD i 0))).run P w=.ok (xs.getD i 0==ys.getD i 0) w :=
   run_equalIn_int w d e .u32 .u32 _ _ he
  simp only [List.forIn_cons,Sem.run_bind,px,py,pe,Result.andThen_ok,List.all_cons]
  cases hb:(xs.getD i 0==ys.getD i 0)
  . simp
  simp only [Bool.not_true,Bool.false_eq_true,if_false,Sem.run_pure,Result.andThen_ok,Bool.true_and]
  exact ih fun j hj=>hl j (by simp [hj])
theorem qrm{vs:List Int}(hl:vs.length=76)(hd:Dig 4294967296 vs):(vs==qas)=decide (num 4294967296 vs=0):=by
 have hz:num 4294967296 qas=0:=qe0 _ _
 have hzd:Dig 4294967296 qas:=qea 76
 by_cases h:num 4294967296 vs=0
 . have he:vs=qas:=by
     apply List.ext_getElem
     . rw [hl]; simp [qas]
     intro j h1 h2
     have k1:=qvt (by decide) hd j
     have k2:=qvt (by decide) hzd j
     rw [h] at k1
     rw [hz] at k2
     rw [List.getElem?_eq_getElem h1] at k1
     rw [List.getElem?_eq_getElem h2] at k2
     simp only [Option.getD_some] at k1 k2
     rw [k1,k2]
   simp [he,hz]
 have he:vs≠qas:=fun e=>h (by rw [e]; exact hz)
 simp [h,he]
theorem qvk(w:World)(vs:List Int)(hl:vs.length=76)(hd:Dig 4294967296 vs)(r:Bool)(hr:decide (num 4294967296 vs=0)=r) :
  (Op.equalIn 10000 157 (.agg (qat vs)) (.agg (qat qas))).run Tryz.prog w=.ok r w:=by
 rw [<-hr,<-qrm hl hd]
 exact qid w 9998 157 48 76 Tryz.underlying157 Tryz.underlying48 (fun w=>by kernel_rfl) vs qas hl (by simp [qas])
theorem qpc:Tryz.prog.built 157 []=some (qat qas):=by
 have h1:=Tryz.info157
 have h2:=infoU32
 unfold Program.built
 cases hi:Tryz.prog.info? 157 with
 | none=>rw [hi] at h1; cases h1
 | some it =>
  cases hj:Tryz.prog.info? 48 with
  | none=>rw [hj] at h2; cases h2
  | some ie =>
   rw [hi] at h1
   simp only [Option.map_some,Option.some.injEq,Prod.mk.injEq] at h1
   rw [Tryz.underlying157]
   simp only [h1.1,hj]
   rfl
theorem qss{ev:Operand->Value}{op:Oper}{W:World}(ho:op.op=.build 157 #[]):(execOp ev op).run Tryz.prog W=.ok (.value (.agg (qat qas))) W:=by
 have e:((#[]:Array (Nat×Operand)).map fun (i,x)=>(i,ev x)).toList=[]:=by simp
 have hm:Tryz.prog.built 157 ((#[]:Array (Nat×Operand)).map fun (i,x)=>(i,ev x)).toList=some (qat qas):=by rw [e]; exact qpc
 unfold execOp
 simp only [ho,Sem.run_bind,run_build W 157 _ (qat qas) hm,Result.andThen_ok,Sem.run_pure]
theorem q1i{w:World}{g:Nat}{ws:List Int}(h:qbj w g ws):w.rangeAt g 0 (ws.map (Value.int .u32)):=fun j v hv=>by
 have hj:j < 76:=by
  have:=(List.getElem?_eq_some_iff.1 hv).1
  simpa [h.len] using this
 have hc:=h.cell hj
 rw [Nat.zero_add,hc,<-hv]
 simp [List.getElem?_eq_getElem (show j < ws.length by rw [h.len]; exact hj)]
end Dy
end Go.Proofs.YtmbppgjhdcmckaaGreatDoor