/- A number under way as a dyad: a walk. -/
import Derived.Test.YtmbppgjhdcmckaaGreatDoorBj04
set_option maxHeartbeats 102400000
set_option maxRecDepth 100000
namespace Go.Proofs.YtmbppgjhdcmckaaGreatDoor
open Go.RowKit
namespace Dy
open Dp
theorem qkc(ws:List Int)(hl:ws.length=74)(i:Nat)(h:i < 74)(d:Int)(hd:ws[i]?.getD 0=d)(w:World) :
  (Instr.index 166 (.agg (qat ws)) (.int .i64 i)).run Tryz.prog w=.ok (.int .u32 d) w:=by
 have hg:=qeh ws (j:=i) (by omega)
 rw [hd] at hg
 have hu:=run_underlying Tryz.underlying166 w
 have hlt:(i:Int) < 74:=by omega
 generalize qat ws=C at *
 simp only [Instr.index]
 go_simp
theorem qam{w:World}{g:Nat}{x y z:Value}{t:TypeId}(h:w.heap[g]? = some (.cells #[x,y,z] t (0,0))) :
  (w.cell? ⟨g,0,none⟩=some x/\w.cell? ⟨g,1,none⟩=some y/\w.cell? ⟨g,2,none⟩=some z)/\(w.frozen? ⟨g,0,none⟩=false/\w.frozen? ⟨g,1,none⟩=false/\w.frozen? ⟨g,2,none⟩=false) :=
 ⟨⟨cell_of_row w g 0 _ t _ h,cell_of_row w g 1 _ t _ h,cell_of_row w g 2 _ t _ h⟩,frozen_of_row w g 0 _ t h,frozen_of_row w g 1 _ t h,frozen_of_row w g 2 _ t h⟩
theorem qqx{w:World}{g:Nat}{x y z:Value}{t:TypeId}(h:w.heap[g]? = some (.cells #[x,y,z] t (0,0)))(a b c:Value) :
  (((w.setCell ⟨g,0,none⟩ a).setCell ⟨g,1,none⟩ b).setCell ⟨g,2,none⟩ c).heap[g]? = some (.cells #[a,b,c] t (0,0)):=by
 have h1:=heap_setCell_same w g 0 _ _ a h
 have h2:=heap_setCell_same _ g 1 _ _ b h1
 have h3:=heap_setCell_same _ g 2 _ _ c h2
 exact h3
theorem qav(w:World){g k:Nat}(h:k≠g)(a b c:Value):(((w.setCell ⟨g,0,none⟩ a).setCell ⟨g,1,none⟩ b).setCell ⟨g,2,none⟩ c).heap[k]? = w.heap[k]? :=
 (heap_setCell_other _ _ _ _ h).trans ((heap_setCell_other _ _ _ _ h).trans (heap_setCell_other _ _ _ _ h))
theorem Sum.lt{w:World}{g:Nat}{s:Bool}{L:Value}{ex:Int}{ws:List Int}(h:Sum w g s L ex ws):g < w.heap.size:=(Array.getElem?_eq_some_iff.1 h.blk).1
structure Tab(w:World):Prop where
 at_:TabAt 0 Lib.deBruijn32tab w
theorem Tab.keep{w w':World}(h:Tab w)(hh:w'.heap[0]? = w.heap[0]?):Tab w':=⟨fun j hj=>(World.cell?_of_block (w:=w) hh).trans (h.at_ j hj)⟩
theorem Tab.lt{w:World}(h:Tab w):0 < w.heap.size:=block_lt_of_cell (h.at_ 0 (by decide))
theorem Tab.alloc{w:World}(h:Tab w)(o:Obj):Tab (w.alloc o):=h.keep (Below.heap_alloc _ _ _ h.lt)
theorem Tab.below{B:Nat}{w w':World}(h:Tab w)(hb:Below B w w')(hB:0 < B):Tab w':=h.keep (hb.block 0 hB)
theorem qka{ws:List Int}{i x lo hi:Nat}(hx:ws[i]?.getD 0=(x:Int))(hx0:x=0)(h:qyv (num 4294967296 (ws.take i)) lo hi):qyv (num 4294967296 (ws.take (i+1))) lo hi:=by
 rw [qbh,hx,hx0]
 simpa using h
theorem qkb{ws:List Int}{i x lo hi:Nat}(hd:Dig 4294967296 ws)(hx:ws[i]?.getD 0=(x:Int))(hx0:x≠0)(hx2:x < 4294967296)(h:qyv (num 4294967296 (ws.take i)) lo hi) :
  qyv (num 4294967296 (ws.take (i+1))) (if hi=0 then 32*i+Lib.ctz 32 x else lo) (32*i+Lib.bitLen x):=by
 rw [qbh,hx,Int.toNat_natCast]
 obtain⟨l1,l2,l3,l4⟩:=qhq x hx0 hx2
 exact qvm h (qfz (by decide) hd i) l2 l3 l1 (qml x hx0 hx2).1
theorem qib{ops:Array Oper}{rest:List Oper}{op:Oper}{a:Act}{w:World}{Q:Exit->Act->World->Prop}(hgd:op.guard=none)(x:Operand)(ho:op.op=.load 166 x)
  (b o:Nat) (hx:a.eval x=.pointer (some ⟨b,o,none⟩)) (ws:List Int) (hR:Row w b o ws)
  (h:wpList Tryz.prog ops Q rest (a.put op.dst (.agg (qat ws))) w):wpList Tryz.prog ops Q (op::rest) a w :=
 wpList_load_mid hgd 166 x ho b o hx (ws.map (Value.int .u32)) (.array 74 48) (qtv hR) Tryz.underlying166 rfl (by rw [(zero_of_info Tryz.info166).2]; simp [hR.len]) h
theorem infoU32:(Tryz.prog.info? 48).map (fun i=>(i.zero,i.size,i.bytes))=some (some (.int .u32 0),1,4):=by kernel_rfl
theorem qqm(n:Nat)(hn:n<=1000000)(W:World):(Instr.makeSlice 22 (.int .i64 n) (.int .i64 n)).run Tryz.prog W=.ok (.slice (some ⟨W.heap.size,0,none⟩) n n) (W.alloc (.cells (qat (List.replicate n 0)) 48)):=by
 obtain⟨i0,hi0,hz0,hz1,hz2⟩:=info_parts infoU32
 have:=run_make (P:=Tryz.prog) W 22 48 i0 (.int .u32 0) Tryz.underlying22 hi0 hz0 .i64 .i64 n n (by omega) (Int.le_refl _) (by rw [hz2]; omega) (by omega)
 rw [hz1,Int.toNat_natCast,Nat.mul_one] at this
 have e:madeCells (Value.int .u32 0).cells n=qat (List.replicate n 0):=by
  unfold madeCells qat
  apply Array.ext'
  simp [Value.cells,Nat.mod_one]
  rw [List.map_const',List.length_range]
 rw [e] at this
 exact this
theorem qgw{ev:Operand->Value}{op:Oper}{W:World}(x:Operand)(ho:op.op=.makeSlice 22 x x)(n:Nat)(hx:ev x=.int .i64 n)(hn:n<=1000000)(q:Nat)(hq:W.heap.size=q) :
  (execOp ev op).run Tryz.prog W=.ok (.value (.slice (some ⟨q,0,none⟩) n n)) (W.alloc (.cells (qat (List.replicate n 0)) 48)):=by
 subst hq
 unfold execOp
 simp only [ho,hx,Sem.run_bind,Sem.run_pure,Result.andThen_ok,qqm n hn W]
theorem qea(n:Nat):Dig 4294967296 (List.replicate n 0):=fun x hx=>by
 have:=List.eq_of_mem_replicate hx
 omega
theorem qad{w:World}{lo hi:Nat}{k:IntKind}{A:Option Addr}{n:Nat}{xs:List Int}(h:qae w lo hi k A n xs){p:Addr}(hp:p.block < lo∨hi<=p.block)(u:Value):qae (w.setCell p u) lo hi k A n xs :=
 ⟨h.len,h.wf,h.big,fun hn=>by
  obtain⟨b,off,e,h1,h2,hc⟩:=h.row hn
  exact⟨b,off,e,h1,h2,fun j hj=>⟨(World.cell?_setCell_other w p _ u (fun e=>by subst e; simp at hp; omega)).trans (hc j hj).1,(World.frozen?_setCell ..).trans (hc j hj).2⟩⟩⟩
structure Mid(w wr:World)(g p q:Nat)(s:Bool)(L:Value)(ex:Nat)(ws:List Int)(nn:Nat)(e:Int)(M i:Nat)(ds:List Int):Prop where
 hP:wr.heap[p]? = some (.cells #[.bool s,.slice (some ⟨q,0,none⟩) nn nn,.int .i64 e] 24 (0,0))
 hQ:wr.heap[q]? = some (.cells (qat ds) 48 (0,0))
 hR:wr.heap[w.heap.size]? = some (.cells #[.bool false,.slice none 0 0,.int .i64 0] 24 (0,0))
 hS:Sum wr g s L ex ws
 hB:Below w.heap.size w wr
 lp:p < wr.heap.size
 lq:q < wr.heap.size
 len:ds.length=nn
 done:∀ j,j < i->ds[j]?.getD 0=((M/4294967296^j%4294967296:Nat):Int)
 dig:Dig 4294967296 ds
 pq:p≠q
 gq:g < q
 wp:w.heap.size < p
 wq:w.heap.size < q
section
variable {w wr:World} {g p q:Nat} {s:Bool} {L:Value} {ex:Nat} {ws:List Int} {nn:Nat} {e:Int} {M i:Nat} {ds:List Int}
theorem Mid.drew(h:Mid w wr g p q s L ex ws nn e M i ds):Mid w wr.drew g p q s L ex ws nn e M i ds:=⟨h.hP,h.hQ,h.hR,h.hS.of_heap rfl,h.hB.drew,h.lp,h.lq,h.len,h.done,h.dig,h.pq,h.gq,h.wp,h.wq⟩
theorem Mid.alloc(h:Mid w wr g p q s L ex ws nn e M i ds)(o:Obj):Mid w (wr.alloc o) g p q s L ex ws nn e M i ds :=
 ⟨(Below.heap_alloc _ _ _ h.lp).trans h.hP,(Below.heap_alloc _ _ _ h.lq).trans h.hQ,(Below.heap_alloc _ _ _ (Nat.lt_trans h.wp h.lp)).trans h.hR,h.hS.of_heap (Below.heap_alloc _ _ _ h.hS.lt),h.hB.alloc h.hB.size o,by have:=h.lp; simp; omega,by have:=h.lq; simp; omega,h.len,h.done,h.dig,h.pq,h.gq,h.wp,h.wq⟩
theorem Mid.cell(h:Mid w wr g p q s L ex ws nn e M i ds){j:Nat}(hj:j < nn):wr.cell? ⟨q,j,none⟩=some (.int .u32 (ds[j]?.getD 0)):=by
 rw [cell_of_row wr q j _ _ _ h.hQ]
 exact qeh ds (by rw [h.len]; exact hj)
theorem Mid.free(h:Mid w wr g p q s L ex ws nn e M i ds)(j:Nat):wr.frozen? ⟨q,j,none⟩=false:=frozen_of_row wr q j _ _ h.hQ
theorem Mid.set(h:Mid w wr g p q s L ex ws nn e M i ds){d:Nat}(hi:i < nn)(hd:d < 4294967296)(hv:d=M/4294967296^i%4294967296):Mid w (wr.setCell ⟨q,i,none⟩ (.int .u32 d)) g p q s L ex ws nn e M (i+1) (ds.set i (d:Int)) :=
 ⟨(heap_setCell_other _ _ _ _ h.pq).trans h.hP,by rw [heap_setCell_same wr q i _ _ _ h.hQ,qin],(heap_setCell_other _ _ _ _ (Nat.ne_of_lt h.wq)).trans h.hR,h.hS.of_heap (heap_setCell_other _ _ _ _ (Nat.ne_of_lt h.gq)),
  h.hB.setCell (Nat.le_of_lt h.wq) _,by have:=h.lp; simpa [World.setCell] using this,by have:=h.lq; simpa [World.setCell] using this,by rw [List.length_set,h.len],fun j hj=>by
   by_cases hji:j=i
   . subst hji
     rw [List.getElem?_set_self (by rw [h.len]; exact hi),<-hv]
     rfl
   rw [qlb _ _ (fun e=>hji e.symm)]
   exact h.done j (by omega),qf4 h.dig i d hd,h.pq,h.gq,h.wp,h.wq⟩
theorem Mid.ints(h:Mid w wr g p q s L ex ws nn e M nn ds){hi:Nat}(h1:M < 2^hi)(h2:2^(hi-1)<=M)(h0:0 < hi)(hn:(hi+31)/32=nn)(hnn:nn<=1000):qae wr (w.heap.size+1) wr.heap.size .u32 (some ⟨q,0,none⟩) nn (qaf 4294967296 M):=by
 have hc:ds=qaf 4294967296 M:=qnv (by decide) (by rw [h.len]; exact h.done)
  (by rw [h.len,qmy]; exact Nat.lt_of_lt_of_le h1 (Nat.pow_le_pow_right (by decide) (by omega)))
  (fun _=>by rw [h.len,qmy]; exact Nat.le_trans (Nat.pow_le_pow_right (by decide) (by omega)) h2)
 rw [<-hc]
 refine⟨h.len,fun x hx=>?_,by omega,fun _=>⟨q,0,rfl,h.wq,h.lq,fun j hj=>⟨by rw [Nat.zero_add]; exact h.cell hj,by rw [Nat.zero_add]; exact h.free j⟩⟩⟩
 have h3:=h.dig x hx
 have h4:0<=x/\x<=4294967295:=by omega
 simpa [IntKind.min,IntKind.max,IntKind.signed,IntKind.bits] using h4
end
def qb0(w:World)(r:Dn)(code:Int)(e:Ending)(w':World):Prop :=
 ∃ A n c,e=.returned (.tuple #[.agg #[.bool r.neg,.slice A n c,.int .i64 r.e],.int .i64 code])/\n<=c/\Below w.heap.size w w'/\qae w' w.heap.size w'.heap.size .u32 A n (qaf 4294967296 r.m)
theorem qx6(w:World)(g:Nat)(hg:g < w.heap.size)(s:Bool)(L:Value)(ex:Nat)(hex:ex<=3000)(ws:List Int)(hS:Sum w g s L ex ws)(hT:Tab w)(r:Dn)(code:Int)(h:qa4 s (num 4294967296 ws) ex=(r,code)) :
  Calls Tryz.prog 139 #[.pointer (some ⟨g,0,none⟩)] w (qb0 w r code):=by
 have H:=Lib.hid h
 have hS1:=hS.of_heap (w':=w.alloc (.cells #[.bool false,.slice none 0 0,.int .i64 0] 24)) (Below.heap_alloc _ _ _ hg)
 have hT1:=hT.alloc (.cells #[.bool false,.slice none 0 0,.int .i64 0] 24)
 have hI:=Lib.hid (zero_of_info Tryz.info166).2
 have hwl:=Lib.hid hS.len
 clear h
 go_enter Tryz.func139,Tryz.ntmps139
 go_wp2_with (first
  | (refine qib rfl (.tmp 12) rfl g 3 rfl ws hS1.row ?_))
 go_loopw [4,5,6,7,14] (fun lv hv _ _ iv wr=>∃ i lo hi:Nat,lv=.int .i64 lo/\hv=.int .i64 hi/\iv=.int .i64 i/\i<=74/\lo<=2400/\hi<=2400/\Hid (qyv (num 4294967296 (ws.take i)) lo hi)/\wr=w.alloc (.cells #[.bool false,.slice none 0 0,.int .i64 0] 24)) (fun _ _ _ _ iv _=>74-(intOf iv).toNat)
 case atStart=>exact⟨0,0,0,rfl,rfl,rfl,by omega,by omega,by omega,qvl,rfl⟩
 obtain⟨i,lo,hi,rfl,rfl,rfl,hi74,hlo,hhi,hends,rfl⟩:=hrel
 by_cases hlt:i < 74
 . obtain⟨x,hx,hx2⟩:=qa3 (by decide) hS1.dig i
   have hidx:=qkc ws hwl.out i hlt _ hx
   have HX:=Lib.hid hx
   clear hx
   by_cases hx0:x=0
   . have hE:=Lib.hid (qka HX.out hx0 hends.out)
     subst hx0
     go_wp2
     go_roundw
     case rel=>exact⟨i+1,lo,hi,rfl,rfl,by go_num,by omega,hlo,hhi,hE,by trivial⟩
     case measure=>simp [intOf]; omega
   have hE:=qkb hS1.dig HX.out hx0 hx2 hends.out
   have htz:=(qml x hx0 hx2).2
   have hln:=(qhq x hx0 hx2).2.2.2
   have hne:((x:Int) != 0)=true:=by simpa using hx0
   have hx3:(x:Int)<=4294967295:=by omega
   by_cases hi0:hi=0
   . subst hi0
     rw [if_pos rfl] at hE
     have HE:=Lib.hid hE
     clear hE
     go_wp2_with fail
     refine (qyo _ x hx2 hx0 hT1.at_).mono ?_
     rintro e w1 ⟨rfl,rfl⟩
     go_wp2_with fail
     refine (qj3 _ x (by omega) hx3).mono ?_
     rintro e w1 ⟨rfl,rfl⟩
     rw [Int.toNat_natCast]
     go_wp2
     go_roundw
     case rel=>exact⟨i+1,32*i+Lib.ctz 32 x,32*i+Lib.bitLen x,by congr 1,by congr 1,by go_num,by omega,by omega,by omega,HE,by trivial⟩
     case measure=>simp [intOf]; omega
   rw [if_neg hi0] at hE
   have HE:=Lib.hid hE
   have hi1:((hi:Int)==0)=false:=by simpa using hi0
   clear hE
   go_wp2_with fail
   refine (qj3 _ x (by omega) hx3).mono ?_
   rintro e w1 ⟨rfl,rfl⟩
   rw [Int.toNat_natCast]
   go_wp2
   go_roundw
   case rel=>exact⟨i+1,lo,32*i+Lib.bitLen x,rfl,by congr 1,by go_num,by omega,by omega,by omega,HE,by trivial⟩
   case measure=>simp [intOf]; omega
 obtain rfl:i=74:=by omega
 have hE:=hends.out
 rw [List.take_of_length_le (by rw [hwl.out]; exact Nat.le_refl _)] at hE
 have HE:=Lib.hid hE
 clear hE hends
 by_cases hi0:hi=0
 . subst hi0
   have hz:r=Dn.zero/\code=0:=by
    have h1:=H.out
    rcases HE.out with ⟨h2,_,_⟩|⟨h2,_⟩
    . rw [h2] at h1
      simp only [qa4,if_true] at h1
      injection h1 with h3 h4
      exact⟨h3.symm,h4.symm⟩
    omega
   obtain⟨rfl,rfl⟩:=hz
   go_wp2
   refine bodyPost_ret (v:=.tuple #[.agg #[.bool false,.slice none 0 0,.int .i64 0],.int .i64 0]) (by simp [results,Tryz.results139,go_sem]) rfl ⟨none,0,0,rfl,Nat.le_refl _,(Below.refl _ _).alloc (Nat.le_refl _) _,qae.nil_ ..⟩
 obtain⟨m0,m1,m2,m3⟩:=qx5 (s:=s) (k:=ex) HE.out hi0
 rw [H.out] at m3
 have hi1:((hi:Int)==0)=false:=by simpa using hi0
 obtain⟨q0,q1,q2⟩:=hS1.head
 obtain⟨mn,hmn⟩:∃ mn,min lo ex=mn:=⟨_,rfl⟩
 rw [hmn] at m0 m1 m2 m3
 have hcase:(ex < lo/\mn=ex)∨(¬ ex < lo/\mn=lo):=by omega
 have M0:=Lib.hid m0
 have M1:=Lib.hid m1
 have M2:=Lib.hid m2
 have M3:=Lib.hid m3
 clear m0 m1 m2 m3 hmn
 rcases hcase with ⟨hc,he⟩|⟨hc,he⟩
 . have he2:=he.symm
   subst he2
   by_cases hov:hi-ex<=1280
   . by_cases hov2:ex-ex<=1024
     . have hz:r=⟨s,num 4294967296 ws/2^ex,ex-ex⟩/\code=0:=by
         have h1:=M3.out
         rw [if_pos ⟨hov,hov2⟩] at h1
         injection h1 with h3 h4
         exact⟨h3,h4⟩
       obtain⟨rfl,rfl⟩:=hz
       have ht:(hi:Int)-ex<=1280:=by have:=M0.out; omega
       have ht2:(ex:Int)-ex<=1024:=by have:=M0.out; omega
       have ht3:0<=(hi:Int)-ex:=by have:=M0.out; omega
       go_wp2
       have hen:((hi:Int)-ex+31)/32=((hi-ex+31)/32:Nat):=by have:=M0.out; omega
       obtain⟨nn,hnn⟩:∃ nn,(hi-ex+31)/32=nn:=⟨_,rfl⟩
       rw [hnn] at hen
       have HNN:=Lib.hid hnn
       have hn40:nn<=40:=by omega
       clear hnn
       obtain⟨D,hD⟩:∃ D,hi-ex=D:=⟨_,rfl⟩
       obtain⟨F,hF⟩:∃ F,D+31=F:=⟨_,rfl⟩
       obtain⟨E,hE⟩:∃ E,ex-ex=E:=⟨_,rfl⟩
       have h14:IntKind.i64.wrap ((hi:Int)-ex)=D:=by rw [IntWalk.i64_in _ (by omega)]; omega
       have h15:IntKind.i64.wrap ((D:Int)+31)=F:=by rw [IntWalk.i64_in _ (by omega)]; omega
       have h16:(F:Int).tdiv 32=nn:=by rw [Int.tdiv_eq_ediv_of_nonneg (by omega)]; omega
       have h17:IntKind.i64.wrap (nn:Int)=nn:=IntWalk.i64_in _ (by omega)
       have h18:IntKind.i64.wrap 0=0:=rfl
       have h11:IntKind.i64.wrap ((ex:Int)-ex)=E:=by rw [IntWalk.i64_in _ (by omega)]; omega
       have HE2:=Lib.hid hE
       clear hD hF hE hen
       generalize hw1:w.alloc (.cells #[.bool false,.slice none 0 0,.int .i64 0] 24)=w1 at *
       refine zB (fun w'=>w'.heap[g]? = w1.heap[g]?) [20] 21 ?_
       have hSS:w1.drew.heap[g]? = w1.heap[g]? := rfl
       refine zM 4 [0,1,2,3] ?_ ?_
       refine zD 4 (.bool s) rfl ?hyA ?restA
       case hyA =>
        intro w' h1
        have k:=(hS1.of_heap h1).head.1
        go_simp
       try simp only [Act.put,zp]
       refine zM 4 [5,6,7,8] ?_ ?_
       refine zD 9 (.int .i64 ex) rfl ?hyB ?restB
       case hyB =>
        intro w' h1
        have k:=(hS1.of_heap h1).head.2.2
        go_simp
       try simp only [Act.put,zp]
       refine zM 7 [10,11,12,13,14,15,16] ?_ ?_
       refine qi0 (i:=17) (j:=19) (Li:=#[zT,zT,zT,zT,zT,zT,zT,zT,zT,zT,zT,zT,zT,zT,zT,zT,zT,zT,zF,zF,zF]) (Lj:=#[zT,zT,zT,zT,zT,zT,zT,zT,zT,zT,zT,zT,zT,zT,zT,zT,zT,zF,zF,zT,zF]) rfl rfl (by rfl) (by rfl) (by kernel_rfl) (by rfl) (by rfl) (fun K hK=>?hwA1) (fun K hK=>?hwB1)
       case hwA1 =>
        refine qf9 (qgw (.tmp 74) (by rfl) nn (by rfl) (by omega) w1.heap.size rfl) ?_
        refine hK _ _ ⟨fun _ h=>(Below.heap_alloc _ _ _ hS1.lt).trans h,?_⟩
        clear hK K
        try simp only [Act.put,zp]
        refine zM 1 [18] ?_ ?_
        refine zK 19 rfl fun K hK=>?_
        go_simp
        refine hK _ _ ⟨fun _ h=>(Below.heap_alloc _ _ _ (by have:=hS1.lt; simp; omega)).trans h,?_⟩
        clear hK K
        try simp only [Act.put,zp]
        obtain⟨hs1,hs2,hs3⟩:w.heap.size+1=w1.heap.size/\g < w1.heap.size/\w.heap.size < w1.heap.size:=⟨by rw [<-hw1]; simp,hS1.lt,by rw [<-hw1]; simp⟩
        have hP:((w1.alloc (.cells (qat (List.replicate nn 0)) 48)).alloc (.cells #[.bool false,.slice none 0 0,.int .i64 0] 24)).drew.heap[w1.heap.size+1]? = some (.cells #[.bool false,.slice none 0 0,.int .i64 0] 24 (0,0)):=heap_alloc2_new _ _ _
        have hQ:((w1.alloc (.cells (qat (List.replicate nn 0)) 48)).alloc (.cells #[.bool false,.slice none 0 0,.int .i64 0] 24)).drew.heap[w1.heap.size]? = some (.cells (qat (List.replicate nn 0)) 48 (0,0)):=heap_alloc2_old _ _ _
        have hold:∀ k,k < w1.heap.size->((w1.alloc (.cells (qat (List.replicate nn 0)) 48)).alloc (.cells #[.bool false,.slice none 0 0,.int .i64 0] 24)).drew.heap[k]? = w1.heap[k]? := fun k hk=>(Below.heap_alloc _ _ _ (by simp; omega)).trans (Below.heap_alloc _ _ _ hk)
        have hB:Below w.heap.size w ((w1.alloc (.cells (qat (List.replicate nn 0)) 48)).alloc (.cells #[.bool false,.slice none 0 0,.int .i64 0] 24)).drew:=by
         rw [<-hw1]
         exact ((((Below.refl _ w).alloc (Nat.le_refl _) _).alloc (by simp) _).alloc (by simp; omega) _).drew
        have hsz:w1.heap.size+1 < ((w1.alloc (.cells (qat (List.replicate nn 0)) 48)).alloc (.cells #[.bool false,.slice none 0 0,.int .i64 0] 24)).drew.heap.size:=by simp [World.drew]
        have hS3:=hS1.of_heap (hold g hs2)
        have hR:=(hold w.heap.size hs3).trans (show w1.heap[w.heap.size]? = some (.cells #[.bool false,.slice none 0 0,.int .i64 0] 24 (0,0)) by rw [<-hw1]; exact heap_alloc_last _ _)
        generalize ((w1.alloc (.cells (qat (List.replicate nn 0)) 48)).alloc (.cells #[.bool false,.slice none 0 0,.int .i64 0] 24)).drew=W2 at *
        clear hold
        have hP':=qam hP
        obtain⟨⟨b0,b1,b2⟩,b3,b4,b5⟩:=hP'
        refine zK 20 rfl fun K hK=>?_
        go_simp
        refine hK _ _ ⟨fun h=>absurd h (by decide),qa2 (by kernel_rfl) ?_ _⟩
        clear hK K
        have hM:Mid w (((W2.setCell ⟨w1.heap.size+1,0,none⟩ (.bool s)).setCell ⟨w1.heap.size+1,1,none⟩ (.slice (some ⟨w1.heap.size,0,none⟩) nn nn)).setCell ⟨w1.heap.size+1,2,none⟩ (.int .i64 0)) g (w1.heap.size+1) (w1.heap.size) s L ex ws nn 0 (num 4294967296 ws/2^ex) 0 (List.replicate nn 0) :=
         ⟨qqx hP _ _ _,(qav W2 (by omega) _ _ _).trans hQ,(qav W2 (by omega) _ _ _).trans hR,hS3.of_heap (qav W2 (by omega) _ _ _),
          ((hB.setCell (by simp; omega) _).setCell (by simp; omega) _).setCell (by simp; omega) _,by simp [World.setCell]; omega,by simp [World.setCell]; omega,by simp,fun j hj=>absurd hj (by omega),qea nn,by omega,by omega,by omega,by omega⟩
        generalize ((W2.setCell ⟨w1.heap.size+1,0,none⟩ (.bool s)).setCell ⟨w1.heap.size+1,1,none⟩ (.slice (some ⟨w1.heap.size,0,none⟩) nn nn)).setCell ⟨w1.heap.size+1,2,none⟩ (.int .i64 0)=W3 at *
        have HM:=Lib.hid hM
        obtain⟨⟨c0,c1,c2⟩,c3,c4,c5⟩:=qam hM.hP
        clear hM hP hQ hR hS3 hB hsz b0 b1 b2 b3 b4 b5 hSS
        go_wp2
        go_loopw [9,80] (fun _ iv wr=>∃ i:Nat,∃ ds:List Int,iv=.int .i64 i/\i<=nn/\Mid w wr g (w1.heap.size+1) (w1.heap.size) s L ex ws nn 0 (num 4294967296 ws/2^ex) i ds) (fun _ iv _=>nn-(intOf iv).toNat)
        case atStart=>exact⟨0,_,rfl,by omega,HM.out⟩
        obtain⟨i,ds,rfl,hin,hM⟩:=hrel
        clear HM c0 c1 c2 c3 c4 c5
        by_cases hlt:i < nn
        . obtain⟨⟨c0,c1,c2⟩,c3,c4,c5⟩:=qam hM.hP
          go_wp2
          have hSS:wr.drew.heap[w1.heap.size+1]? = wr.heap[w1.heap.size+1]? := rfl
          have hi0:(0:Int)<=i:=by omega
          have hi1:(i:Int) < nn:=by omega
          refine zB (fun w'=>w'.heap[w1.heap.size+1]? = wr.heap[w1.heap.size+1]?) [8] 9 ?_
          refine zM 1 [0] ?_ ?_
          refine zD 1 (.slice (some ⟨w1.heap.size,0,none⟩) nn nn) rfl ?hyCA1 ?restCA1
          case hyCA1 =>
           intro w' h1
           have k:=(qam (h1.trans hM.hP)).1.2.1
           go_simp
          try simp only [Act.put,zp]
          refine zM 4 [2,3,4,5] ?_ ?_
          refine zK 6 rfl fun K hK=>?_
          obtain⟨d,hd⟩:∃ d,num 4294967296 ws/2^ex/4294967296^i%4294967296=d:=⟨_,rfl⟩
          have hd2:d < 4294967296:=by rw [<-hd]; exact Nat.mod_lt _ (by decide)
          have HD:=Lib.hid hd
          clear hd
          have hMd:=hM.drew
          go_simp
          go_at_call 180
          refine (qq0 wr.drew g hMd.hS.lt ws hMd.hS.row i ex _ _ rfl rfl (by omega) (by omega) d HD.out).mono ?_
          rintro e w' ⟨rfl,rfl⟩
          have hMa:=hMd.alloc (.cells #[.pointer (some ⟨g,0,none⟩)] 163)
          refine hK _ _ ⟨fun _ _=>hMa.hP.trans hM.hP.symm,?_⟩
          clear hK K
          generalize wr.drew.alloc (.cells #[.pointer (some ⟨g,0,none⟩)] 163)=W5 at *
          try simp only [Act.put,zp]
          refine zM 1 [7] ?_ ?_
          have e1:=hMa.cell hlt
          have e2:=hMa.free i
          refine zK 8 rfl fun K hK=>?_
          go_simp
          refine hK _ _ ⟨fun h=>absurd h (by decide),qa2 (by kernel_rfl) ?_ _⟩
          clear hK K
          have hM2:=hMa.set hlt hd2 HD.out.symm
          generalize W5.setCell ⟨w1.heap.size,i,none⟩ (.int .u32 d)=W6 at *
          go_wp2
          go_roundw
          case rel=>exact⟨i+1,_,by go_num,by omega,hM2⟩
          case measure=>simp [intOf]; omega
        obtain rfl:i=nn:=by omega
        have hI3:=hM.ints (hi:=hi-ex) M1.out M2.out (by have:=M0.out; omega) HNN.out (by omega)
        have hB3:=hM.hB
        have hsz3:=hM.lp
        obtain⟨⟨c0,c1,c2⟩,c3,c4,c5⟩:=qam hM.hP
        obtain⟨⟨d0,d1,d2⟩,d3,d4,d5⟩:=qam hM.hR
        clear hM
        go_wp2
        refine bodyPost_ret (v:=.tuple #[.agg #[.bool s,.slice (some ⟨w1.heap.size,0,none⟩) i i,.int .i64 0],.int .i64 0]) (by simp [results,Tryz.results139,go_sem,d0,d1,d2]) rfl ⟨some ⟨w1.heap.size,0,none⟩,i,i,?_,Nat.le_refl _,?_,?_⟩
        . have h:=HE2.out
          simp
        . exact ((hB3.setCell (Nat.le_refl _) _).setCell (Nat.le_refl _) _).setCell (Nat.le_refl _) _
        refine qae.more (lo:=w.heap.size+1) (hi:=wr.heap.size) ?_ (Nat.le_succ _) (by simp [World.setCell])
        exact qad (qad (qad hI3 (.inl (by simp)) _) (.inl (by simp)) _) (.inl (by simp)) _
       case hwB1 =>
        go_simp
        refine hK _ _ ⟨fun _ h=>(Below.heap_alloc _ _ _ hS1.lt).trans h,?_⟩
        clear hK K
        try simp only [Act.put,zp]
        refine zK 17 rfl fun K hK=>?_
        refine qf9 (qgw (.tmp 74) (by rfl) nn (by rfl) (by omega) (w1.heap.size+1) (by simp [World.drew])) ?_
        refine hK _ _ ⟨fun _ h=>(Below.heap_alloc _ _ _ (by have:=hS1.lt; simp [World.drew]; omega)).trans h,?_⟩
        clear hK K
        try simp only [Act.put,zp]
        refine zM 1 [18] ?_ ?_
        change qa5 _ _ _ _ _ _ _ _ _ ((w1.alloc (.cells #[.bool false,.slice none 0 0,.int .i64 0] 24)).alloc (.cells (qat (List.replicate nn 0)) 48)).drew
        obtain⟨hs1,hs2,hs3⟩:w.heap.size+1=w1.heap.size/\g < w1.heap.size/\w.heap.size < w1.heap.size:=⟨by rw [<-hw1]; simp,hS1.lt,by rw [<-hw1]; simp⟩
        have hP:((w1.alloc (.cells #[.bool false,.slice none 0 0,.int .i64 0] 24)).alloc (.cells (qat (List.replicate nn 0)) 48)).drew.heap[w1.heap.size]? = some (.cells #[.bool false,.slice none 0 0,.int .i64 0] 24 (0,0)):=heap_alloc2_old _ _ _
        have hQ:((w1.alloc (.cells #[.bool false,.slice none 0 0,.int .i64 0] 24)).alloc (.cells (qat (List.replicate nn 0)) 48)).drew.heap[w1.heap.size+1]? = some (.cells (qat (List.replicate nn 0)) 48 (0,0)):=heap_alloc2_new _ _ _
        have hold:∀ k,k < w1.heap.size->((w1.alloc (.cells #[.bool false,.slice none 0 0,.int .i64 0] 24)).alloc (.cells (qat (List.replicate nn 0)) 48)).drew.heap[k]? = w1.heap[k]? := fun k hk=>(Below.heap_alloc _ _ _ (by simp; omega)).trans (Below.heap_alloc _ _ _ hk)
        have hB:Below w.heap.size w ((w1.alloc (.cells #[.bool false,.slice none 0 0,.int .i64 0] 24)).alloc (.cells (qat (List.replicate nn 0)) 48)).drew:=by
         rw [<-hw1]
         exact ((((Below.refl _ w).alloc (Nat.le_refl _) _).alloc (by simp) _).alloc (by simp; omega) _).drew
        have hsz:w1.heap.size+1 < ((w1.alloc (.cells #[.bool false,.slice none 0 0,.int .i64 0] 24)).alloc (.cells (qat (List.replicate nn 0)) 48)).drew.heap.size:=by simp [World.drew]
        have hS3:=hS1.of_heap (hold g hs2)
        have hR:=(hold w.heap.size hs3).trans (show w1.heap[w.heap.size]? = some (.cells #[.bool false,.slice none 0 0,.int .i64 0] 24 (0,0)) by rw [<-hw1]; exact heap_alloc_last _ _)
        generalize ((w1.alloc (.cells #[.bool false,.slice none 0 0,.int .i64 0] 24)).alloc (.cells (qat (List.replicate nn 0)) 48)).drew=W2 at *
        clear hold
        have hP':=qam hP
        obtain⟨⟨b0,b1,b2⟩,b3,b4,b5⟩:=hP'
        refine zK 20 rfl fun K hK=>?_
        go_simp
        refine hK _ _ ⟨fun h=>absurd h (by decide),qa2 (by kernel_rfl) ?_ _⟩
        clear hK K
        have hM:Mid w (((W2.setCell ⟨w1.heap.size,0,none⟩ (.bool s)).setCell ⟨w1.heap.size,1,none⟩ (.slice (some ⟨w1.heap.size+1,0,none⟩) nn nn)).setCell ⟨w1.heap.size,2,none⟩ (.int .i64 0)) g (w1.heap.size) (w1.heap.size+1) s L ex ws nn 0 (num 4294967296 ws/2^ex) 0 (List.replicate nn 0) :=
         ⟨qqx hP _ _ _,(qav W2 (by omega) _ _ _).trans hQ,(qav W2 (by omega) _ _ _).trans hR,hS3.of_heap (qav W2 (by omega) _ _ _),
          ((hB.setCell (by simp; omega) _).setCell (by simp; omega) _).setCell (by simp; omega) _,by simp [World.setCell]; omega,by simp [World.setCell]; omega,by simp,fun j hj=>absurd hj (by omega),qea nn,by omega,by omega,by omega,by omega⟩
        generalize ((W2.setCell ⟨w1.heap.size,0,none⟩ (.bool s)).setCell ⟨w1.heap.size,1,none⟩ (.slice (some ⟨w1.heap.size+1,0,none⟩) nn nn)).setCell ⟨w1.heap.size,2,none⟩ (.int .i64 0)=W3 at *
        have HM:=Lib.hid hM
        obtain⟨⟨c0,c1,c2⟩,c3,c4,c5⟩:=qam hM.hP
        clear hM hP hQ hR hS3 hB hsz b0 b1 b2 b3 b4 b5 hSS
        go_wp2
        go_loopw [9,80] (fun _ iv wr=>∃ i:Nat,∃ ds:List Int,iv=.int .i64 i/\i<=nn/\Mid w wr g (w1.heap.size) (w1.heap.size+1) s L ex ws nn 0 (num 4294967296 ws/2^ex) i ds) (fun _ iv _=>nn-(intOf iv).toNat)
        case atStart=>exact⟨0,_,rfl,by omega,HM.out⟩
        obtain⟨i,ds,rfl,hin,hM⟩:=hrel
        clear HM c0 c1 c2 c3 c4 c5
        by_cases hlt:i < nn
        . obtain⟨⟨c0,c1,c2⟩,c3,c4,c5⟩:=qam hM.hP
          go_wp2
          have hSS:wr.drew.heap[w1.heap.size]? = wr.heap[w1.heap.size]? := rfl
          have hi0:(0:Int)<=i:=by omega
          have hi1:(i:Int) < nn:=by omega
          refine zB (fun w'=>w'.heap[w1.heap.size]? = wr.heap[w1.heap.size]?) [8] 9 ?_
          refine zM 1 [0] ?_ ?_
          refine zD 1 (.slice (some ⟨w1.heap.size+1,0,none⟩) nn nn) rfl ?hyCB1 ?restCB1
          case hyCB1 =>
           intro w' h1
           have k:=(qam (h1.trans hM.hP)).1.2.1
           go_simp
          try simp only [Act.put,zp]
          refine zM 4 [2,3,4,5] ?_ ?_
          refine zK 6 rfl fun K hK=>?_
          obtain⟨d,hd⟩:∃ d,num 4294967296 ws/2^ex/4294967296^i%4294967296=d:=⟨_,rfl⟩
          have hd2:d < 4294967296:=by rw [<-hd]; exact Nat.mod_lt _ (by decide)
          have HD:=Lib.hid hd
          clear hd
          have hMd:=hM.drew
          go_simp
          go_at_call 180
          refine (qq0 wr.drew g hMd.hS.lt ws hMd.hS.row i ex _ _ rfl rfl (by omega) (by omega) d HD.out).mono ?_
          rintro e w' ⟨rfl,rfl⟩
          have hMa:=hMd.alloc (.cells #[.pointer (some ⟨g,0,none⟩)] 163)
          refine hK _ _ ⟨fun _ _=>hMa.hP.trans hM.hP.symm,?_⟩
          clear hK K
          generalize wr.drew.alloc (.cells #[.pointer (some ⟨g,0,none⟩)] 163)=W5 at *
          try simp only [Act.put,zp]
          refine zM 1 [7] ?_ ?_
          have e1:=hMa.cell hlt
          have e2:=hMa.free i
          refine zK 8 rfl fun K hK=>?_
          go_simp
          refine hK _ _ ⟨fun h=>absurd h (by decide),qa2 (by kernel_rfl) ?_ _⟩
          clear hK K
          have hM2:=hMa.set hlt hd2 HD.out.symm
          generalize W5.setCell ⟨w1.heap.size+1,i,none⟩ (.int .u32 d)=W6 at *
          go_wp2
          go_roundw
          case rel=>exact⟨i+1,_,by go_num,by omega,hM2⟩
          case measure=>simp [intOf]; omega
        obtain rfl:i=nn:=by omega
        have hI3:=hM.ints (hi:=hi-ex) M1.out M2.out (by have:=M0.out; omega) HNN.out (by omega)
        have hB3:=hM.hB
        have hsz3:=hM.lp
        obtain⟨⟨c0,c1,c2⟩,c3,c4,c5⟩:=qam hM.hP
        obtain⟨⟨d0,d1,d2⟩,d3,d4,d5⟩:=qam hM.hR
        clear hM
        go_wp2
        refine bodyPost_ret (v:=.tuple #[.agg #[.bool s,.slice (some ⟨w1.heap.size+1,0,none⟩) i i,.int .i64 0],.int .i64 0]) (by simp [results,Tryz.results139,go_sem,d0,d1,d2]) rfl ⟨some ⟨w1.heap.size+1,0,none⟩,i,i,?_,Nat.le_refl _,?_,?_⟩
        . have h:=HE2.out
          simp
        . exact ((hB3.setCell (Nat.le_refl _) _).setCell (Nat.le_refl _) _).setCell (Nat.le_refl _) _
        refine qae.more (lo:=w.heap.size+1) (hi:=wr.heap.size) ?_ (Nat.le_succ _) (by simp [World.setCell])
        exact qad (qad (qad hI3 (.inl (by simp)) _) (.inl (by simp)) _) (.inl (by simp)) _
     exact absurd (by omega) hov2
   have hz:r=Dn.zero/\code=10:=by
    have h1:=M3.out
    rw [if_neg (by omega)] at h1
    injection h1 with h3 h4
    exact⟨h3,h4⟩
   obtain⟨rfl,rfl⟩:=hz
   have ht:(1280:Int) < (hi:Int)-ex:=by have:=M0.out; omega
   go_wp2
   refine bodyPost_ret (v:=.tuple #[.agg #[.bool false,.slice none 0 0,.int .i64 0],.int .i64 10]) (by simp [results,Tryz.results139,go_sem]) rfl ⟨none,0,0,rfl,Nat.le_refl _,(Below.refl _ _).alloc (Nat.le_refl _) _,qae.nil_ ..⟩
 have he2:=he.symm
 subst he2
 by_cases hov:hi-lo<=1280
 . by_cases hov2:ex-lo<=1024
   . have hz:r=⟨s,num 4294967296 ws/2^lo,ex-lo⟩/\code=0:=by
       have h1:=M3.out
       rw [if_pos ⟨hov,hov2⟩] at h1
       injection h1 with h3 h4
       exact⟨h3,h4⟩
     obtain⟨rfl,rfl⟩:=hz
     have ht:(hi:Int)-lo<=1280:=by have:=M0.out; omega
     have ht2:(ex:Int)-lo<=1024:=by have:=M0.out; omega
     have ht3:0<=(hi:Int)-lo:=by have:=M0.out; omega
     go_wp2
     have hen:((hi:Int)-lo+31)/32=((hi-lo+31)/32:Nat):=by have:=M0.out; omega
     obtain⟨nn,hnn⟩:∃ nn,(hi-lo+31)/32=nn:=⟨_,rfl⟩
     rw [hnn] at hen
     have HNN:=Lib.hid hnn
     have hn40:nn<=40:=by omega
     clear hnn
     obtain⟨D,hD⟩:∃ D,hi-lo=D:=⟨_,rfl⟩
     obtain⟨F,hF⟩:∃ F,D+31=F:=⟨_,rfl⟩
     obtain⟨E,hE⟩:∃ E,ex-lo=E:=⟨_,rfl⟩
     have h14:IntKind.i64.wrap ((hi:Int)-lo)=D:=by rw [IntWalk.i64_in _ (by omega)]; omega
     have h15:IntKind.i64.wrap ((D:Int)+31)=F:=by rw [IntWalk.i64_in _ (by omega)]; omega
     have h16:(F:Int).tdiv 32=nn:=by rw [Int.tdiv_eq_ediv_of_nonneg (by omega)]; omega
     have h17:IntKind.i64.wrap (nn:Int)=nn:=IntWalk.i64_in _ (by omega)
     have h18:IntKind.i64.wrap 0=0:=rfl
     have h11:IntKind.i64.wrap ((ex:Int)-lo)=E:=by rw [IntWalk.i64_in _ (by omega)]; omega
     have HE2:=Lib.hid hE
     clear hD hF hE hen
     generalize hw1:w.alloc (.cells #[.bool false,.slice none 0 0,.int .i64 0] 24)=w1 at *
     refine zB (fun w'=>w'.heap[g]? = w1.heap[g]?) [20] 21 ?_
     have hSS:w1.drew.heap[g]? = w1.heap[g]? := rfl
     refine zM 4 [0,1,2,3] ?_ ?_
     refine zD 4 (.bool s) rfl ?hyA2 ?restA2
     case hyA2 =>
      intro w' h1
      have k:=(hS1.of_heap h1).head.1
      go_simp
     try simp only [Act.put,zp]
     refine zM 4 [5,6,7,8] ?_ ?_
     refine zD 9 (.int .i64 ex) rfl ?hyB2 ?restB2
     case hyB2 =>
      intro w' h1
      have k:=(hS1.of_heap h1).head.2.2
      go_simp
     try simp only [Act.put,zp]
     refine zM 7 [10,11,12,13,14,15,16] ?_ ?_
     refine qi0 (i:=17) (j:=19) (Li:=#[zT,zT,zT,zT,zT,zT,zT,zT,zT,zT,zT,zT,zT,zT,zT,zT,zT,zT,zF,zF,zF]) (Lj:=#[zT,zT,zT,zT,zT,zT,zT,zT,zT,zT,zT,zT,zT,zT,zT,zT,zT,zF,zF,zT,zF]) rfl rfl (by rfl) (by rfl) (by kernel_rfl) (by rfl) (by rfl) (fun K hK=>?hwA2) (fun K hK=>?hwB2)
     case hwA2 =>
      refine qf9 (qgw (.tmp 74) (by rfl) nn (by rfl) (by omega) w1.heap.size rfl) ?_
      refine hK _ _ ⟨fun _ h=>(Below.heap_alloc _ _ _ hS1.lt).trans h,?_⟩
      clear hK K
      try simp only [Act.put,zp]
      refine zM 1 [18] ?_ ?_
      refine zK 19 rfl fun K hK=>?_
      go_simp
      refine hK _ _ ⟨fun _ h=>(Below.heap_alloc _ _ _ (by have:=hS1.lt; simp; omega)).trans h,?_⟩
      clear hK K
      try simp only [Act.put,zp]
      obtain⟨hs1,hs2,hs3⟩:w.heap.size+1=w1.heap.size/\g < w1.heap.size/\w.heap.size < w1.heap.size:=⟨by rw [<-hw1]; simp,hS1.lt,by rw [<-hw1]; simp⟩
      have hP:((w1.alloc (.cells (qat (List.replicate nn 0)) 48)).alloc (.cells #[.bool false,.slice none 0 0,.int .i64 0] 24)).drew.heap[w1.heap.size+1]? = some (.cells #[.bool false,.slice none 0 0,.int .i64 0] 24 (0,0)):=heap_alloc2_new _ _ _
      have hQ:((w1.alloc (.cells (qat (List.replicate nn 0)) 48)).alloc (.cells #[.bool false,.slice none 0 0,.int .i64 0] 24)).drew.heap[w1.heap.size]? = some (.cells (qat (List.replicate nn 0)) 48 (0,0)):=heap_alloc2_old _ _ _
      have hold:∀ k,k < w1.heap.size->((w1.alloc (.cells (qat (List.replicate nn 0)) 48)).alloc (.cells #[.bool false,.slice none 0 0,.int .i64 0] 24)).drew.heap[k]? = w1.heap[k]? := fun k hk=>(Below.heap_alloc _ _ _ (by simp; omega)).trans (Below.heap_alloc _ _ _ hk)
      have hB:Below w.heap.size w ((w1.alloc (.cells (qat (List.replicate nn 0)) 48)).alloc (.cells #[.bool false,.slice none 0 0,.int .i64 0] 24)).drew:=by
       rw [<-hw1]
       exact ((((Below.refl _ w).alloc (Nat.le_refl _) _).alloc (by simp) _).alloc (by simp; omega) _).drew
      have hsz:w1.heap.size+1 < ((w1.alloc (.cells (qat (List.replicate nn 0)) 48)).alloc (.cells #[.bool false,.slice none 0 0,.int .i64 0] 24)).drew.heap.size:=by simp [World.drew]
      have hS3:=hS1.of_heap (hold g hs2)
      have hR:=(hold w.heap.size hs3).trans (show w1.heap[w.heap.size]? = some (.cells #[.bool false,.slice none 0 0,.int .i64 0] 24 (0,0)) by rw [<-hw1]; exact heap_alloc_last _ _)
      generalize ((w1.alloc (.cells (qat (List.replicate nn 0)) 48)).alloc (.cells #[.bool false,.slice none 0 0,.int .i64 0] 24)).drew=W2 at *
      clear hold
      have hP':=qam hP
      obtain⟨⟨b0,b1,b2⟩,b3,b4,b5⟩:=hP'
      refine zK 20 rfl fun K hK=>?_
      go_simp
      refine hK _ _ ⟨fun h=>absurd h (by decide),qa2 (by kernel_rfl) ?_ _⟩
      clear hK K
      have hM:Mid w (((W2.setCell ⟨w1.heap.size+1,0,none⟩ (.bool s)).setCell ⟨w1.heap.size+1,1,none⟩ (.slice (some ⟨w1.heap.size,0,none⟩) nn nn)).setCell ⟨w1.heap.size+1,2,none⟩ (.int .i64 E)) g (w1.heap.size+1) (w1.heap.size) s L ex ws nn E (num 4294967296 ws/2^lo) 0 (List.replicate nn 0) :=
       ⟨qqx hP _ _ _,(qav W2 (by omega) _ _ _).trans hQ,(qav W2 (by omega) _ _ _).trans hR,hS3.of_heap (qav W2 (by omega) _ _ _),
        ((hB.setCell (by simp; omega) _).setCell (by simp; omega) _).setCell (by simp; omega) _,by simp [World.setCell]; omega,by simp [World.setCell]; omega,by simp,fun j hj=>absurd hj (by omega),qea nn,by omega,by omega,by omega,by omega⟩
      generalize ((W2.setCell ⟨w1.heap.size+1,0,none⟩ (.bool s)).setCell ⟨w1.heap.size+1,1,none⟩ (.slice (some ⟨w1.heap.size,0,none⟩) nn nn)).setCell ⟨w1.heap.size+1,2,none⟩ (.int .i64 E)=W3 at *
      have HM:=Lib.hid hM
      obtain⟨⟨c0,c1,c2⟩,c3,c4,c5⟩:=qam hM.hP
      clear hM hP hQ hR hS3 hB hsz b0 b1 b2 b3 b4 b5 hSS
      go_wp2
      go_loopw [9,80] (fun _ iv wr=>∃ i:Nat,∃ ds:List Int,iv=.int .i64 i/\i<=nn/\Mid w wr g (w1.heap.size+1) (w1.heap.size) s L ex ws nn E (num 4294967296 ws/2^lo) i ds) (fun _ iv _=>nn-(intOf iv).toNat)
      case atStart=>exact⟨0,_,rfl,by omega,HM.out⟩
      obtain⟨i,ds,rfl,hin,hM⟩:=hrel
      clear HM c0 c1 c2 c3 c4 c5
      by_cases hlt:i < nn
      . obtain⟨⟨c0,c1,c2⟩,c3,c4,c5⟩:=qam hM.hP
        go_wp2
        have hSS:wr.drew.heap[w1.heap.size+1]? = wr.heap[w1.heap.size+1]? := rfl
        have hi0:(0:Int)<=i:=by omega
        have hi1:(i:Int) < nn:=by omega
        refine zB (fun w'=>w'.heap[w1.heap.size+1]? = wr.heap[w1.heap.size+1]?) [8] 9 ?_
        refine zM 1 [0] ?_ ?_
        refine zD 1 (.slice (some ⟨w1.heap.size,0,none⟩) nn nn) rfl ?hyCA2 ?restCA2
        case hyCA2 =>
         intro w' h1
         have k:=(qam (h1.trans hM.hP)).1.2.1
         go_simp
        try simp only [Act.put,zp]
        refine zM 4 [2,3,4,5] ?_ ?_
        refine zK 6 rfl fun K hK=>?_
        obtain⟨d,hd⟩:∃ d,num 4294967296 ws/2^lo/4294967296^i%4294967296=d:=⟨_,rfl⟩
        have hd2:d < 4294967296:=by rw [<-hd]; exact Nat.mod_lt _ (by decide)
        have HD:=Lib.hid hd
        clear hd
        have hMd:=hM.drew
        go_simp
        go_at_call 180
        refine (qq0 wr.drew g hMd.hS.lt ws hMd.hS.row i lo _ _ rfl rfl (by omega) (by omega) d HD.out).mono ?_
        rintro e w' ⟨rfl,rfl⟩
        have hMa:=hMd.alloc (.cells #[.pointer (some ⟨g,0,none⟩)] 163)
        refine hK _ _ ⟨fun _ _=>hMa.hP.trans hM.hP.symm,?_⟩
        clear hK K
        generalize wr.drew.alloc (.cells #[.pointer (some ⟨g,0,none⟩)] 163)=W5 at *
        try simp only [Act.put,zp]
        refine zM 1 [7] ?_ ?_
        have e1:=hMa.cell hlt
        have e2:=hMa.free i
        refine zK 8 rfl fun K hK=>?_
        go_simp
        refine hK _ _ ⟨fun h=>absurd h (by decide),qa2 (by kernel_rfl) ?_ _⟩
        clear hK K
        have hM2:=hMa.set hlt hd2 HD.out.symm
        generalize W5.setCell ⟨w1.heap.size,i,none⟩ (.int .u32 d)=W6 at *
        go_wp2
        go_roundw
        case rel=>exact⟨i+1,_,by go_num,by omega,hM2⟩
        case measure=>simp [intOf]; omega
      obtain rfl:i=nn:=by omega
      have hI3:=hM.ints (hi:=hi-lo) M1.out M2.out (by have:=M0.out; omega) HNN.out (by omega)
      have hB3:=hM.hB
      have hsz3:=hM.lp
      obtain⟨⟨c0,c1,c2⟩,c3,c4,c5⟩:=qam hM.hP
      obtain⟨⟨d0,d1,d2⟩,d3,d4,d5⟩:=qam hM.hR
      clear hM
      go_wp2
      refine bodyPost_ret (v:=.tuple #[.agg #[.bool s,.slice (some ⟨w1.heap.size,0,none⟩) i i,.int .i64 E],.int .i64 0]) (by simp [results,Tryz.results139,go_sem,d0,d1,d2]) rfl ⟨some ⟨w1.heap.size,0,none⟩,i,i,?_,Nat.le_refl _,?_,?_⟩
      . have h:=HE2.out
        rw [h]
      . exact ((hB3.setCell (Nat.le_refl _) _).setCell (Nat.le_refl _) _).setCell (Nat.le_refl _) _
      refine qae.more (lo:=w.heap.size+1) (hi:=wr.heap.size) ?_ (Nat.le_succ _) (by simp [World.setCell])
      exact qad (qad (qad hI3 (.inl (by simp)) _) (.inl (by simp)) _) (.inl (by simp)) _
     case hwB2 =>
      go_simp
      refine hK _ _ ⟨fun _ h=>(Below.heap_alloc _ _ _ hS1.lt).trans h,?_⟩
      clear hK K
      try simp only [Act.put,zp]
      refine zK 17 rfl fun K hK=>?_
      refine qf9 (qgw (.tmp 74) (by rfl) nn (by rfl) (by omega) (w1.heap.size+1) (by simp [World.drew])) ?_
      refine hK _ _ ⟨fun _ h=>(Below.heap_alloc _ _ _ (by have:=hS1.lt; simp [World.drew]; omega)).trans h,?_⟩
      clear hK K
      try simp only [Act.put,zp]
      refine zM 1 [18] ?_ ?_
      change qa5 _ _ _ _ _ _ _ _ _ ((w1.alloc (.cells #[.bool false,.slice none 0 0,.int .i64 0] 24)).alloc (.cells (qat (List.replicate nn 0)) 48)).drew
      obtain⟨hs1,hs2,hs3⟩:w.heap.size+1=w1.heap.size/\g < w1.heap.size/\w.heap.size < w1.heap.size:=⟨by rw [<-hw1]; simp,hS1.lt,by rw [<-hw1]; simp⟩
      have hP:((w1.alloc (.cells #[.bool false,.slice none 0 0,.int .i64 0] 24)).alloc (.cells (qat (List.replicate nn 0)) 48)).drew.heap[w1.heap.size]? = some (.cells #[.bool false,.slice none 0 0,.int .i64 0] 24 (0,0)):=heap_alloc2_old _ _ _
      have hQ:((w1.alloc (.cells #[.bool false,.slice none 0 0,.int .i64 0] 24)).alloc (.cells (qat (List.replicate nn 0)) 48)).drew.heap[w1.heap.size+1]? = some (.cells (qat (List.replicate nn 0)) 48 (0,0)):=heap_alloc2_new _ _ _
      have hold:∀ k,k < w1.heap.size->((w1.alloc (.cells #[.bool false,.slice none 0 0,.int .i64 0] 24)).alloc (.cells (qat (List.replicate nn 0)) 48)).drew.heap[k]? = w1.heap[k]? := fun k hk=>(Below.heap_alloc _ _ _ (by simp; omega)).trans (Below.heap_alloc _ _ _ hk)
      have hB:Below w.heap.size w ((w1.alloc (.cells #[.bool false,.slice none 0 0,.int .i64 0] 24)).alloc (.cells (qat (List.replicate nn 0)) 48)).drew:=by
       rw [<-hw1]
       exact ((((Below.refl _ w).alloc (Nat.le_refl _) _).alloc (by simp) _).alloc (by simp; omega) _).drew
      have hsz:w1.heap.size+1 < ((w1.alloc (.cells #[.bool false,.slice none 0 0,.int .i64 0] 24)).alloc (.cells (qat (List.replicate nn 0)) 48)).drew.heap.size:=by simp [World.drew]
      have hS3:=hS1.of_heap (hold g hs2)
      have hR:=(hold w.heap.size hs3).trans (show w1.heap[w.heap.size]? = some (.cells #[.bool false,.slice none 0 0,.int .i64 0] 24 (0,0)) by rw [<-hw1]; exact heap_alloc_last _ _)
      generalize ((w1.alloc (.cells #[.bool false,.slice none 0 0,.int .i64 0] 24)).alloc (.cells (qat (List.replicate nn 0)) 48)).drew=W2 at *
      clear hold
      have hP':=qam hP
      obtain⟨⟨b0,b1,b2⟩,b3,b4,b5⟩:=hP'
      refine zK 20 rfl fun K hK=>?_
      go_simp
      refine hK _ _ ⟨fun h=>absurd h (by decide),qa2 (by kernel_rfl) ?_ _⟩
      clear hK K
      have hM:Mid w (((W2.setCell ⟨w1.heap.size,0,none⟩ (.bool s)).setCell ⟨w1.heap.size,1,none⟩ (.slice (some ⟨w1.heap.size+1,0,none⟩) nn nn)).setCell ⟨w1.heap.size,2,none⟩ (.int .i64 E)) g (w1.heap.size) (w1.heap.size+1) s L ex ws nn E (num 4294967296 ws/2^lo) 0 (List.replicate nn 0) :=
       ⟨qqx hP _ _ _,(qav W2 (by omega) _ _ _).trans hQ,(qav W2 (by omega) _ _ _).trans hR,hS3.of_heap (qav W2 (by omega) _ _ _),
        ((hB.setCell (by simp; omega) _).setCell (by simp; omega) _).setCell (by simp; omega) _,by simp [World.setCell]; omega,by simp [World.setCell]; omega,by simp,fun j hj=>absurd hj (by omega),qea nn,by omega,by omega,by omega,by omega⟩
      generalize ((W2.setCell ⟨w1.heap.size,0,none⟩ (.bool s)).setCell ⟨w1.heap.size,1,none⟩ (.slice (some ⟨w1.heap.size+1,0,none⟩) nn nn)).setCell ⟨w1.heap.size,2,none⟩ (.int .i64 E)=W3 at *
      have HM:=Lib.hid hM
      obtain⟨⟨c0,c1,c2⟩,c3,c4,c5⟩:=qam hM.hP
      clear hM hP hQ hR hS3 hB hsz b0 b1 b2 b3 b4 b5 hSS
      go_wp2
      go_loopw [9,80] (fun _ iv wr=>∃ i:Nat,∃ ds:List Int,iv=.int .i64 i/\i<=nn/\Mid w wr g (w1.heap.size) (w1.heap.size+1) s L ex ws nn E (num 4294967296 ws/2^lo) i ds) (fun _ iv _=>nn-(intOf iv).toNat)
      case atStart=>exact⟨0,_,rfl,by omega,HM.out⟩
      obtain⟨i,ds,rfl,hin,hM⟩:=hrel
      clear HM c0 c1 c2 c3 c4 c5
      by_cases hlt:i < nn
      . obtain⟨⟨c0,c1,c2⟩,c3,c4,c5⟩:=qam hM.hP
        go_wp2
        have hSS:wr.drew.heap[w1.heap.size]? = wr.heap[w1.heap.size]? := rfl
        have hi0:(0:Int)<=i:=by omega
        have hi1:(i:Int) < nn:=by omega
        refine zB (fun w'=>w'.heap[w1.heap.size]? = wr.heap[w1.heap.size]?) [8] 9 ?_
        refine zM 1 [0] ?_ ?_
        refine zD 1 (.slice (some ⟨w1.heap.size+1,0,none⟩) nn nn) rfl ?hyCB2 ?restCB2
        case hyCB2 =>
         intro w' h1
         have k:=(qam (h1.trans hM.hP)).1.2.1
         go_simp
        try simp only [Act.put,zp]
        refine zM 4 [2,3,4,5] ?_ ?_
        refine zK 6 rfl fun K hK=>?_
        obtain⟨d,hd⟩:∃ d,num 4294967296 ws/2^lo/4294967296^i%4294967296=d:=⟨_,rfl⟩
        have hd2:d < 4294967296:=by rw [<-hd]; exact Nat.mod_lt _ (by decide)
        have HD:=Lib.hid hd
        clear hd
        have hMd:=hM.drew
        go_simp
        go_at_call 180
        refine (qq0 wr.drew g hMd.hS.lt ws hMd.hS.row i lo _ _ rfl rfl (by omega) (by omega) d HD.out).mono ?_
        rintro e w' ⟨rfl,rfl⟩
        have hMa:=hMd.alloc (.cells #[.pointer (some ⟨g,0,none⟩)] 163)
        refine hK _ _ ⟨fun _ _=>hMa.hP.trans hM.hP.symm,?_⟩
        clear hK K
        generalize wr.drew.alloc (.cells #[.pointer (some ⟨g,0,none⟩)] 163)=W5 at *
        try simp only [Act.put,zp]
        refine zM 1 [7] ?_ ?_
        have e1:=hMa.cell hlt
        have e2:=hMa.free i
        refine zK 8 rfl fun K hK=>?_
        go_simp
        refine hK _ _ ⟨fun h=>absurd h (by decide),qa2 (by kernel_rfl) ?_ _⟩
        clear hK K
        have hM2:=hMa.set hlt hd2 HD.out.symm
        generalize W5.setCell ⟨w1.heap.size+1,i,none⟩ (.int .u32 d)=W6 at *
        go_wp2
        go_roundw
        case rel=>exact⟨i+1,_,by go_num,by omega,hM2⟩
        case measure=>simp [intOf]; omega
      obtain rfl:i=nn:=by omega
      have hI3:=hM.ints (hi:=hi-lo) M1.out M2.out (by have:=M0.out; omega) HNN.out (by omega)
      have hB3:=hM.hB
      have hsz3:=hM.lp
      obtain⟨⟨c0,c1,c2⟩,c3,c4,c5⟩:=qam hM.hP
      obtain⟨⟨d0,d1,d2⟩,d3,d4,d5⟩:=qam hM.hR
      clear hM
      go_wp2
      refine bodyPost_ret (v:=.tuple #[.agg #[.bool s,.slice (some ⟨w1.heap.size+1,0,none⟩) i i,.int .i64 E],.int .i64 0]) (by simp [results,Tryz.results139,go_sem,d0,d1,d2]) rfl ⟨some ⟨w1.heap.size+1,0,none⟩,i,i,?_,Nat.le_refl _,?_,?_⟩
      . have h:=HE2.out
        rw [h]
      . exact ((hB3.setCell (Nat.le_refl _) _).setCell (Nat.le_refl _) _).setCell (Nat.le_refl _) _
      refine qae.more (lo:=w.heap.size+1) (hi:=wr.heap.size) ?_ (Nat.le_succ _) (by simp [World.setCell])
      exact qad (qad (qad hI3 (.inl (by simp)) _) (.inl (by simp)) _) (.inl (by simp)) _
   have hz:r=Dn.zero/\code=10:=by
    have h1:=M3.out
    rw [if_neg (by omega)] at h1
    injection h1 with h3 h4
    exact⟨h3,h4⟩
   obtain⟨rfl,rfl⟩:=hz
   have ht:(hi:Int)-lo<=1280:=by have:=M0.out; omega
   have ht2:(1024:Int) < (ex:Int)-lo:=by have:=M0.out; omega
   go_wp2
   refine bodyPost_ret (v:=.tuple #[.agg #[.bool false,.slice none 0 0,.int .i64 0],.int .i64 10]) (by simp [results,Tryz.results139,go_sem]) rfl ⟨none,0,0,rfl,Nat.le_refl _,(Below.refl _ _).alloc (Nat.le_refl _) _,qae.nil_ ..⟩
 have hz:r=Dn.zero/\code=10:=by
  have h1:=M3.out
  rw [if_neg (by omega)] at h1
  injection h1 with h3 h4
  exact⟨h3,h4⟩
 obtain⟨rfl,rfl⟩:=hz
 have ht:(1280:Int) < (hi:Int)-lo:=by have:=M0.out; omega
 go_wp2
 refine bodyPost_ret (v:=.tuple #[.agg #[.bool false,.slice none 0 0,.int .i64 0],.int .i64 10]) (by simp [results,Tryz.results139,go_sem]) rfl ⟨none,0,0,rfl,Nat.le_refl _,(Below.refl _ _).alloc (Nat.le_refl _) _,qae.nil_ ..⟩
end Dy
end Go.Proofs.YtmbppgjhdcmckaaGreatDoor
namespace Go.Proofs.YtmbppgjhdcmckaaGreatDoor
open Go.RowKit
namespace Dy
open Dp
theorem qni(off:Nat):∀ (vs old pre post:List Value) (k:Nat),old.length=vs.length->pre.length=off+k ->
  (vs.zipIdx k).foldl (fun (cs:Array Value) (x:Value×Nat)=>cs.setIfInBounds (off+x.2) x.1) (pre++(old++post)).toArray=(pre++(vs++post)).toArray
 | [],old,pre,post,k,h,_=>by
  have:old=[]:=List.eq_nil_of_length_eq_zero h
  subst this
  rfl
 | v::vs,[],pre,post,k,h,_=>by simp at h
 | v::vs,u::old,pre,post,k,h,hk=>by
  have ih:=qni off vs old (pre++[v]) post (k+1) (by simpa using h) (by simp; omega)
  simp only [List.zipIdx_cons,List.foldl_cons]
  have e:((pre++(u::old++post)).toArray.setIfInBounds (off+k) v)=(pre++[v]++(old++post)).toArray:=by
   rw [<-hk]
   simp
  rw [e,ih]
  simp
theorem qqu(place:Nat->Option (Nat×Nat))(i off:Nat)(v:Array Value)(pre old post:List Value)(rest:List (Nat×Value))(hp:place i=some (off,v.size))(h1:old.length=v.size)(h2:pre.length=off) :
  Instr.fill place (pre++(old++post)).toArray ((i,.agg v)::rest)=Instr.fill place (pre++(v.toList++post)).toArray rest:=by
 have hf:=qni off v.toList old pre post 0 (by simpa using h1) (by omega)
 have hc:(Value.agg v).cells=v:=rfl
 have hz:(v.zipIdx.foldl (fun (cs:Array Value) (x:Value×Nat)=>cs.setIfInBounds (off+x.2) x.1) (pre++(old++post)).toArray)=(pre++(v.toList++post)).toArray:=by
  rw [<-hf,<-Array.foldl_toList,Array.toList_zipIdx]
 simp only [Instr.fill,hp,hc]
 rw [if_neg (by simp; omega),hz]
theorem Tryz.info168:(Tryz.prog.info? 168).map (·.zero)=some (some (.agg (#[.bool false,.slice none 0 0,.int .i64 0]++qat qdr))):=by kernel_rfl
theorem qrw:(Tryz.prog.underlying 168).map (fun d=>match d with
  | .struct fields=>fields.toList.mapM (fun f=>(Tryz.prog.info? f.type).map fun i=>(f.offset,i.size))
  | _=>none)=some (some [(0,3),(3,74)]):=by kernel_rfl
theorem qvz(s:Bool)(L:Value)(ex:Int)(ws:List Int)(hl:ws.length=74) :
  Tryz.prog.built 168 [(0,.agg #[.bool s,L,.int .i64 ex]),(1,.agg (qat ws))]=some (#[.bool s,L,.int .i64 ex]++qat ws):=by
 have h1:=Tryz.info168
 have h2:=qrw
 unfold Program.built
 cases hi:Tryz.prog.info? 168 with
 | none=>rw [hi] at h1; cases h1
 | some it =>
  cases hu:Tryz.prog.underlying 168 with
  | none=>rw [hu] at h2; cases h2
  | some d =>
   rw [hi] at h1
   rw [hu] at h2
   simp only [Option.map_some,Option.some.injEq] at h1 h2
   cases d<;>first
    | (simp only at h2; cases h2; done)
    | skip
   simp only at h2 ⊢
   rw [h1,h2]
   simp only
   have e0:(Value.agg (#[.bool false,.slice none 0 0,.int .i64 0]++qat qdr)).cells=(([]:List Value)++([Value.bool false,Value.slice none 0 0,Value.int .i64 0]++qdr.map (Value.int .u32))).toArray:=by
    simp [Value.cells,qat]
   have hz74:(qdr.map (Value.int .u32)).length=74:=by simp [qdr]
   rw [e0,qqu _ 0 0 #[.bool s,L,.int .i64 ex] [] [Value.bool false,Value.slice none 0 0,Value.int .i64 0] _ _ (by rfl) (by rfl) (by rfl)]
   have e1:(([]:List Value)++((#[.bool s,L,.int .i64 ex]:Array Value).toList++qdr.map (Value.int .u32))).toArray=([Value.bool s,L,Value.int .i64 ex]++(qdr.map (Value.int .u32)++[])).toArray:=by simp
   rw [e1,qqu _ 1 3 (qat ws) [Value.bool s,L,Value.int .i64 ex] (qdr.map (Value.int .u32)) [] _ (by rw [qau,hl]; rfl) (by rw [qau,hl,hz74]) (by rfl)]
   simp [Instr.fill,qat]
theorem qo0{P:Program}{ev:Operand->Value}{op:Oper}{W:World}(t:TypeId)(i j:Nat)(x y:Operand)(ho:op.op=.build t #[(i,x),(j,y)])(vx vy:Value)(hx:ev x=vx)(hy:ev y=vy)(cells:Array Value)(h:P.built t [(i,vx),(j,vy)]=some cells) :
  (execOp ev op).run P W=.ok (.value (.agg cells)) W:=by
 have hm:P.built t ((#[(i,x),(j,y)]:Array (Nat×Operand)).map fun (i,x)=>(i,ev x)).toList=some cells:=by
  rw [<-h,<-hx,<-hy]
  simp
 unfold execOp
 simp only [ho,Sem.run_bind,run_build W t _ cells hm,Result.andThen_ok,Sem.run_pure]
theorem q1o(w:World)(lo hi:Nat)(s:Bool)(A:Option Addr)(n c:Nat)(xs:List Int)(ex k:Nat)(hX:qae w lo hi .u32 A n xs)(hhi:hi<=w.heap.size)(hd:Dig 4294967296 xs)(hn:n<=40)(he:ex<=2000)(hk:k<=1024)(kk:Int)(hkk:kk=(ex:Int)+k) :
  Calls Tryz.prog 138 #[.agg #[.bool s,.slice A n c,.int .i64 ex],.int .i64 kk] w fun e w'=>∃ g ws,e=.returned (.pointer (some ⟨g,0,none⟩))/\Below w.heap.size w w'/\w.heap.size<=g/\g < w'.heap.size/\Sum w' g s (.slice none 0 0) kk ws/\num 4294967296 ws=num 4294967296 xs*2^k:=by
 have HK:=Lib.hid hkk
 have hX2:=hX.alloc hhi (.cells #[.bool s,.slice A n c,.int .i64 ex] 24)
 generalize hw1:w.alloc (.cells #[.bool s,.slice A n c,.int .i64 ex] 24)=w1 at *
 have hbx:w1.heap[w.heap.size]? = some (.cells #[.bool s,.slice A n c,.int .i64 ex] 24 (0,0)):=by rw [<-hw1]; exact heap_alloc_last _ _
 have hs1:w1.heap.size=w.heap.size+1:=by rw [<-hw1]; simp
 have HS1:=Lib.hid hs1
 have hB1:Below w.heap.size w w1:=by rw [<-hw1]; exact (Below.refl _ w).alloc (Nat.le_refl _) _
 clear hkk hs1
 go_enter Tryz.func138,Tryz.ntmps138
 go_wp2
 clear hw1
 have hSS:w1.drew.heap[w.heap.size]? = w1.heap[w.heap.size]? := rfl
 refine zB (fun w'=>w'.heap[w.heap.size]? = w1.heap[w.heap.size]?) [] 10 ?_
 refine zM 1 [0] ?_ ?_
 refine zD 1 (.bool s) rfl ?hyA ?restA
 case hyA =>
  intro w' h1
  have k:=(qam (h1.trans hbx)).1.1
  go_simp
 try simp only [Act.put,zp]
 refine zM 2 [2,3] ?_ ?_
 refine zD 4 (.agg #[.bool s,.slice A n c,.int .i64 ex]) rfl ?hyB ?restB
 case hyB =>
  intro w' h1
  obtain⟨⟨k1,k2,k3⟩,_⟩:=qam (h1.trans hbx)
  go_simp
 try simp only [Act.put,zp]
 refine zM 1 [5] ?_ ?_
 refine zK 6 rfl fun K hK=>?_
 go_simp
 go_at_call 177
 refine (qtk w1.drew lo hi s A n c xs ex k (hX2.drewN 1) (by show hi<=w1.heap.size; have:=HS1.out; omega) hd hn he hk kk HK.out).mono ?_
 rintro e w2 ⟨ws,rfl,hB2,hl,hdw,hnum⟩
 have hB2':Below w1.heap.size w1 w2:=(Below.refl _ w1).drew.trans hB2
 have hbx2:=(hB2'.block w.heap.size (by have:=HS1.out; omega)).trans hbx
 have hs2:=hB2'.size
 refine hK _ _ ⟨fun _ _=>hB2'.block w.heap.size (by have:=HS1.out; omega),?_⟩
 clear hK K
 try simp only [Act.put,zp]
 have hbld:=qvz s (.slice none 0 0) kk ws hl
 refine qzz (i:=7) (L:=#[zT,zT,zT,zT,zT,zT,zT,zT,zF,zF]) (v:=.agg (#[.bool s,.slice none 0 0,.int .i64 kk]++qat ws)) rfl (by rfl) (by kernel_rfl) (by kernel_rfl) (by kernel_rfl) (fun _ _ _ h=>h) (by rfl) (fun W=>qo0 168 0 1 (.tmp 8) (.tmp 11) (by rfl) _ _ (by rfl) (by rfl) _ hbld) ?_
 try simp only [Act.put,zp]
 clear hbld
 generalize hC:#[Value.bool s,.slice none 0 0,.int .i64 kk]++qat ws=C at *
 refine zK 8 rfl fun K hK=>?_
 go_simp
 refine hK _ _ ⟨fun _ h=>(Below.heap_alloc _ _ _ (by have:=HS1.out; omega)).trans h,?_⟩
 clear hK K
 try simp only [Act.put,zp]
 refine zM 1 [9] ?_ ?_
 refine qa2 (by kernel_rfl) ?_ _
 go_wp2
 go_ret
 refine⟨w2.heap.size,ws,rfl,((hB1.trans (hB2'.mono (by have:=HS1.out; omega))).alloc (by have:=HS1.out; omega) _),by have:=HS1.out; omega,by simp,⟨?_,hl,hdw⟩,hnum⟩
 rw [heap_alloc_last,hC]
theorem qek{w:World}{lo hi:Nat}{A:Option Addr}{n:Nat}{a:Dn}(h:qae w lo hi .u32 A n (qaf 4294967296 a.m))(ha:a.May):n<=40:=by
 have h1:=(qgy ha).1.1
 have h2:=h.len
 omega
end Dy
end Go.Proofs.YtmbppgjhdcmckaaGreatDoor