/- The parts of two masses, together: the iterator's contract (printed by a program of mine). -/
import Derived.Test.YtmbppgjhdcmckaaGreatDoorBj11
set_option maxHeartbeats 102400000
set_option maxRecDepth 100000
namespace Go.Proofs.YtmbppgjhdcmckaaGreatDoor
open Go.RowKit
namespace Ma
attribute [local go_sem] Oper.semAt_some
theorem qaw{W:World}{g:Nat}{o:Obj}(h:W.heap[g]? = some o):g < W.heap.size:=(Array.getElem?_eq_some_iff.1 h).1
theorem qb1{w:World}{g:Nat}{x:Value}{t:TypeId}(h:w.heap[g]? = some (.cells #[x] t (0,0))):w.cell? ⟨g,0,none⟩=some x/\w.frozen? ⟨g,0,none⟩=false :=
 ⟨cell_of_row w g 0 _ t _ h,frozen_of_row w g 0 _ t h⟩
def qx8(ma mb:Nat)(k:Nat):Array Value:=#[.pointer (some ⟨ma,3*k,none⟩),.pointer (some ⟨mb,3*k,none⟩)]
def Two(ga gb ma mb:Nat)(W:World):Prop:=W.heap[ga]? = some (.cells #[.pointer (some ⟨ma,0,none⟩)] 185 (0,0))/\W.heap[gb]? = some (.cells #[.pointer (some ⟨mb,0,none⟩)] 185 (0,0))
def Nxt(pre:List Nat)(x:Nat):Prop:=x < 4/\pre=List.range x
def Pre(pre:List Nat):Prop:=pre=[0]∨pre=[0,1]∨pre=[0,1,2]∨pre=[0,1,2,3]
theorem qst(W:World):W.grownBy W.drew none:=⟨rfl,rfl,rfl,Nat.le_refl _,fun _ _ _=>rfl⟩
theorem qud(m l ga gb ma mb:Nat)(J Jx:List Nat->(Nat->Prop)->World->Prop)(gl:Nat)(hJ:qwo gl J)
  (hY:∀ pre x O W1,Nxt pre x->J pre O W1->pre.length < 4->YieldAt Fence.wide (m-1) Tryz.prog l (qx8 ma mb x) W1 fun e W' =>
   (e=.returned (.bool true)/\∃ O',J (pre++[x]) O' W'/\qfr O O' W1 W')∨(e=.returned (.bool false)/\∃ O',Jx (pre++[x]) O' W'/\qfr O O' W1 W'))
  (O0:Nat->Prop) (W:World) (hS:Two ga gb ma mb W) (ha0:¬ O0 ga) (hb0:¬ O0 gb) (h0:J [] O0 W) :
  CallsIn Fence.wide m Tryz.prog 190 #[.func (.yield l) #[] #[],.pointer (some ⟨ga,0,none⟩),.pointer (some ⟨gb,0,none⟩)] W fun e W'=>(∃ v,e=.returned v) /\
   ((∃ ys O,ys=[0,1,2,3]/\J ys O W')∨(∃ pre O,Pre pre/\Jx pre O W')):=by
 have mixed:Tryz.prog.follows .mixedOrders=true:=by kernel_rfl
 refine callsIn_of_wp Tryz.func190 rfl trivial ?_ rfl
 simp only [Tryz.ntmps190,List.size_toArray,List.length_cons,List.length_nil,Nat.reduceAdd,Nat.reduceSub,Array.replicate_succ,Array.replicate_zero,List.push_toArray,List.append_toArray,List.nil_append,List.cons_append]
 have hj:J [] O0 W.drew:=hJ _ _ _ _ none h0 (qst W) (fun _ h=>by cases h)
 have hs:Two ga gb ma mb W.drew:=hS
 clear h0
 refine qxc (Two ga gb ma mb) [] (m:=38) (L:=#[zF,zF,zF,zF,zF,zF,zF,zF,zF,zF,zF,zF,zF,zF,zF,zF,zF,zF,zF,zF,zF,zF,zF,zF,zF,zF,zF,zF,zF,zF,zF,zF,zF,zF,zF,zF,zF,zF]) (by kernel_rfl) (by rfl) (by rfl) ?_
 generalize W.drew=W0 at *
 refine zMJ 1 [0] ?_ ?_
 refine qmu (i:=1) (L:=#[zT,zT,zF,zF,zF,zF,zF,zF,zF,zF,zF,zF,zF,zF,zF,zF,zF,zF,zF,zF,zF,zF,zF,zF,zF,zF,zF,zF,zF,zF,zF,zF,zF,zF,zF,zF,zF,zF]) (v:=.pointer (some ⟨ma,0,none⟩)) rfl (by rfl) (by kernel_rfl) (by kernel_rfl) (by kernel_rfl) (fun _ _ _ h=>h) (by assumption) (by rfl) ?ry1 ?rr1
 case ry1 =>
  intro w' h1
  obtain⟨⟨k1,_⟩,k2,_⟩:=And.intro (qb1 h1.1) (qb1 h1.2)
  go_simp
 try simp only [Act.put,zp]
 refine zMJ 2 [2,3] ?_ ?_
 refine qmu (i:=4) (L:=#[zT,zT,zT,zT,zT,zF,zF,zF,zF,zF,zF,zF,zF,zF,zF,zF,zF,zF,zF,zF,zF,zF,zF,zF,zF,zF,zF,zF,zF,zF,zF,zF,zF,zF,zF,zF,zF,zF]) (v:=.pointer (some ⟨mb,0,none⟩)) rfl (by rfl) (by kernel_rfl) (by kernel_rfl) (by kernel_rfl) (fun _ _ _ h=>h) (by assumption) (by rfl) ?ry4 ?rr4
 case ry4 =>
  intro w' h1
  obtain⟨⟨k1,_⟩,k2,_⟩:=And.intro (qb1 h1.1) (qb1 h1.2)
  go_simp
 try simp only [Act.put,zp]
 refine zMJ 2 [5,6] ?_ ?_
 obtain⟨fn,tmps,assign,body,hy,hR⟩:=hY [] 0 O0 W0 ⟨by decide,by decide⟩ hj (by decide)
 unfold qx8 at hy
 (try dsimp only at hy)
 (try simp only [Nat.reduceMul] at hy)
 refine qp0 (i:=7) (L:=#[zT,zT,zT,zT,zT,zT,zT,zT,zF,zF,zF,zF,zF,zF,zF,zF,zF,zF,zF,zF,zF,zF,zF,zF,zF,zF,zF,zF,zF,zF,zF,zF,zF,zF,zF,zF,zF,zF]) rfl (by rfl) (by kernel_rfl) (by rfl) (fun K hK=>?_)
 go_simp
 gi_wp2_with fail
 refine⟨(fun h=>by cases h),hR.mono ?_⟩
 clear hy hR
 rintro e W1 (⟨rfl,O1,hj1,hG⟩|⟨rfl,O1,hx1,hG⟩)
 . have hs1:Two ga gb ma mb W1:=⟨hG.same _ _ _ _ ha0 hs.1,hG.same _ _ _ _ hb0 hs.2⟩
   have ha1:¬ O1 ga:=fun h=>by
    rcases hG.new _ h with h|h
    . exact ha0 h
    have:=qaw hs.1
    omega
   have hb1:¬ O1 gb:=fun h=>by
    rcases hG.new _ h with h|h
    . exact hb0 h
    have:=qaw hs.2
    omega
   go_simp
   refine hK _ _ ⟨fun _ _=>hs1,?_⟩
   clear hK K hG hs ha0 hb0 hj
   have hs:=hs1
   have ha0:=ha1
   have hb0:=hb1
   have hj:=hj1
   clear hs1 ha1 hb1 hj1
   try simp only [Act.put,zp]
   refine zMJ 2 [8,9] ?_ ?_
   refine qmu (i:=10) (L:=#[zT,zT,zT,zT,zT,zT,zT,zT,zT,zT,zT,zF,zF,zF,zF,zF,zF,zF,zF,zF,zF,zF,zF,zF,zF,zF,zF,zF,zF,zF,zF,zF,zF,zF,zF,zF,zF,zF]) (v:=.pointer (some ⟨ma,0,none⟩)) rfl (by rfl) (by kernel_rfl) (by kernel_rfl) (by kernel_rfl) (fun _ _ _ h=>h) (by assumption) (by rfl) ?ry10 ?rr10
   case ry10 =>
    intro w' h1
    obtain⟨⟨k1,_⟩,k2,_⟩:=And.intro (qb1 h1.1) (qb1 h1.2)
    go_simp
   try simp only [Act.put,zp]
   refine zMJ 2 [11,12] ?_ ?_
   refine qmu (i:=13) (L:=#[zT,zT,zT,zT,zT,zT,zT,zT,zT,zT,zT,zT,zT,zT,zF,zF,zF,zF,zF,zF,zF,zF,zF,zF,zF,zF,zF,zF,zF,zF,zF,zF,zF,zF,zF,zF,zF,zF]) (v:=.pointer (some ⟨mb,0,none⟩)) rfl (by rfl) (by kernel_rfl) (by kernel_rfl) (by kernel_rfl) (fun _ _ _ h=>h) (by assumption) (by rfl) ?ry13 ?rr13
   case ry13 =>
    intro w' h1
    obtain⟨⟨k1,_⟩,k2,_⟩:=And.intro (qb1 h1.1) (qb1 h1.2)
    go_simp
   try simp only [Act.put,zp]
   refine zMJ 2 [14,15] ?_ ?_
   obtain⟨fn,tmps,assign,body,hy,hR⟩:=hY [0] 1 O1 W1 ⟨by decide,by decide⟩ hj (by decide)
   unfold qx8 at hy
   (try dsimp only at hy)
   (try simp only [Nat.reduceMul] at hy)
   refine qp0 (i:=16) (L:=#[zT,zT,zT,zT,zT,zT,zT,zT,zT,zT,zT,zT,zT,zT,zT,zT,zT,zF,zF,zF,zF,zF,zF,zF,zF,zF,zF,zF,zF,zF,zF,zF,zF,zF,zF,zF,zF,zF]) rfl (by rfl) (by kernel_rfl) (by rfl) (fun K hK=>?_)
   go_simp
   gi_wp2_with fail
   refine⟨(fun h=>by cases h),hR.mono ?_⟩
   clear hy hR
   rintro e W2 (⟨rfl,O2,hj2,hG⟩|⟨rfl,O2,hx2,hG⟩)
   . have hs2:Two ga gb ma mb W2:=⟨hG.same _ _ _ _ ha0 hs.1,hG.same _ _ _ _ hb0 hs.2⟩
     have ha2:¬ O2 ga:=fun h=>by
      rcases hG.new _ h with h|h
      . exact ha0 h
      have:=qaw hs.1
      omega
     have hb2:¬ O2 gb:=fun h=>by
      rcases hG.new _ h with h|h
      . exact hb0 h
      have:=qaw hs.2
      omega
     go_simp
     refine hK _ _ ⟨fun _ _=>hs2,?_⟩
     clear hK K hG hs ha0 hb0 hj
     have hs:=hs2
     have ha0:=ha2
     have hb0:=hb2
     have hj:=hj2
     clear hs2 ha2 hb2 hj2
     try simp only [Act.put,zp]
     refine zMJ 3 [17,18,19] ?_ ?_
     refine qmu (i:=20) (L:=#[zT,zT,zT,zT,zT,zT,zT,zT,zT,zT,zT,zT,zT,zT,zT,zT,zT,zT,zT,zT,zT,zF,zF,zF,zF,zF,zF,zF,zF,zF,zF,zF,zF,zF,zF,zF,zF,zF]) (v:=.pointer (some ⟨ma,0,none⟩)) rfl (by rfl) (by kernel_rfl) (by kernel_rfl) (by kernel_rfl) (fun _ _ _ h=>h) (by assumption) (by rfl) ?ry20 ?rr20
     case ry20 =>
      intro w' h1
      obtain⟨⟨k1,_⟩,k2,_⟩:=And.intro (qb1 h1.1) (qb1 h1.2)
      go_simp
     try simp only [Act.put,zp]
     refine zMJ 2 [21,22] ?_ ?_
     refine qmu (i:=23) (L:=#[zT,zT,zT,zT,zT,zT,zT,zT,zT,zT,zT,zT,zT,zT,zT,zT,zT,zT,zT,zT,zT,zT,zT,zT,zF,zF,zF,zF,zF,zF,zF,zF,zF,zF,zF,zF,zF,zF]) (v:=.pointer (some ⟨mb,0,none⟩)) rfl (by rfl) (by kernel_rfl) (by kernel_rfl) (by kernel_rfl) (fun _ _ _ h=>h) (by assumption) (by rfl) ?ry23 ?rr23
     case ry23 =>
      intro w' h1
      obtain⟨⟨k1,_⟩,k2,_⟩:=And.intro (qb1 h1.1) (qb1 h1.2)
      go_simp
     try simp only [Act.put,zp]
     refine zMJ 2 [24,25] ?_ ?_
     obtain⟨fn,tmps,assign,body,hy,hR⟩:=hY [0,1] 2 O2 W2 ⟨by decide,by decide⟩ hj (by decide)
     unfold qx8 at hy
     (try dsimp only at hy)
     (try simp only [Nat.reduceMul] at hy)
     refine qp0 (i:=26) (L:=#[zT,zT,zT,zT,zT,zT,zT,zT,zT,zT,zT,zT,zT,zT,zT,zT,zT,zT,zT,zT,zT,zT,zT,zT,zT,zT,zT,zF,zF,zF,zF,zF,zF,zF,zF,zF,zF,zF]) rfl (by rfl) (by kernel_rfl) (by rfl) (fun K hK=>?_)
     go_simp
     gi_wp2_with fail
     refine⟨(fun h=>by cases h),hR.mono ?_⟩
     clear hy hR
     rintro e W3 (⟨rfl,O3,hj3,hG⟩|⟨rfl,O3,hx3,hG⟩)
     . have hs3:Two ga gb ma mb W3:=⟨hG.same _ _ _ _ ha0 hs.1,hG.same _ _ _ _ hb0 hs.2⟩
       have ha3:¬ O3 ga:=fun h=>by
        rcases hG.new _ h with h|h
        . exact ha0 h
        have:=qaw hs.1
        omega
       have hb3:¬ O3 gb:=fun h=>by
        rcases hG.new _ h with h|h
        . exact hb0 h
        have:=qaw hs.2
        omega
       go_simp
       refine hK _ _ ⟨fun _ _=>hs3,?_⟩
       clear hK K hG hs ha0 hb0 hj
       have hs:=hs3
       have ha0:=ha3
       have hb0:=hb3
       have hj:=hj3
       clear hs3 ha3 hb3 hj3
       try simp only [Act.put,zp]
       refine zMJ 3 [27,28,29] ?_ ?_
       refine qmu (i:=30) (L:=#[zT,zT,zT,zT,zT,zT,zT,zT,zT,zT,zT,zT,zT,zT,zT,zT,zT,zT,zT,zT,zT,zT,zT,zT,zT,zT,zT,zT,zT,zT,zT,zF,zF,zF,zF,zF,zF,zF]) (v:=.pointer (some ⟨ma,0,none⟩)) rfl (by rfl) (by kernel_rfl) (by kernel_rfl) (by kernel_rfl) (fun _ _ _ h=>h) (by assumption) (by rfl) ?ry30 ?rr30
       case ry30 =>
        intro w' h1
        obtain⟨⟨k1,_⟩,k2,_⟩:=And.intro (qb1 h1.1) (qb1 h1.2)
        go_simp
       try simp only [Act.put,zp]
       refine zMJ 2 [31,32] ?_ ?_
       refine qmu (i:=33) (L:=#[zT,zT,zT,zT,zT,zT,zT,zT,zT,zT,zT,zT,zT,zT,zT,zT,zT,zT,zT,zT,zT,zT,zT,zT,zT,zT,zT,zT,zT,zT,zT,zT,zT,zT,zF,zF,zF,zF]) (v:=.pointer (some ⟨mb,0,none⟩)) rfl (by rfl) (by kernel_rfl) (by kernel_rfl) (by kernel_rfl) (fun _ _ _ h=>h) (by assumption) (by rfl) ?ry33 ?rr33
       case ry33 =>
        intro w' h1
        obtain⟨⟨k1,_⟩,k2,_⟩:=And.intro (qb1 h1.1) (qb1 h1.2)
        go_simp
       try simp only [Act.put,zp]
       refine zMJ 2 [34,35] ?_ ?_
       obtain⟨fn,tmps,assign,body,hy,hR⟩:=hY [0,1,2] 3 O3 W3 ⟨by decide,by decide⟩ hj (by decide)
       unfold qx8 at hy
       (try dsimp only at hy)
       (try simp only [Nat.reduceMul] at hy)
       refine qp0 (i:=36) (L:=#[zT,zT,zT,zT,zT,zT,zT,zT,zT,zT,zT,zT,zT,zT,zT,zT,zT,zT,zT,zT,zT,zT,zT,zT,zT,zT,zT,zT,zT,zT,zT,zT,zT,zT,zT,zT,zT,zF]) rfl (by rfl) (by kernel_rfl) (by rfl) (fun K hK=>?_)
       go_simp
       gi_wp2_with fail
       refine⟨(fun h=>by cases h),hR.mono ?_⟩
       clear hy hR
       rintro e W4 (⟨rfl,O4,hj4,hG⟩|⟨rfl,O4,hx4,hG⟩)
       . have hs4:Two ga gb ma mb W4:=⟨hG.same _ _ _ _ ha0 hs.1,hG.same _ _ _ _ hb0 hs.2⟩
         have ha4:¬ O4 ga:=fun h=>by
          rcases hG.new _ h with h|h
          . exact ha0 h
          have:=qaw hs.1
          omega
         have hb4:¬ O4 gb:=fun h=>by
          rcases hG.new _ h with h|h
          . exact hb0 h
          have:=qaw hs.2
          omega
         go_simp
         refine hK _ _ ⟨fun _ _=>hs4,?_⟩
         clear hK K hG hs ha0 hb0 hj
         have hs:=hs4
         have ha0:=ha4
         have hb0:=hb4
         have hj:=hj4
         clear hs4 ha4 hb4 hj4
         try simp only [Act.put,zp]
         refine zMJ 1 [37] ?_ ?_
         refine qvs (by kernel_rfl) ?_ _
         gi_wp2
         refine bodyPost_end (results_none rfl _ _ _) rfl ?_
         exact⟨⟨_,rfl⟩,.inl ⟨_,O4,rfl,hj⟩⟩
       go_simp
       refine hK _ _ ⟨fun _ _=>⟨hG.same _ _ _ _ ha0 hs.1,hG.same _ _ _ _ hb0 hs.2⟩,?_⟩
       clear hK K hs ha0 hb0 hj hG
       try simp only [Act.put,zp]
       refine zMJ 1 [37] ?_ ?_
       refine qvs (by kernel_rfl) ?_ _
       gi_wp2
       refine bodyPost_end (results_none rfl _ _ _) rfl ?_
       exact⟨⟨_,rfl⟩,.inr ⟨_,O4,.inr (.inr (.inr rfl)),hx4⟩⟩
     go_simp
     refine hK _ _ ⟨fun _ _=>⟨hG.same _ _ _ _ ha0 hs.1,hG.same _ _ _ _ hb0 hs.2⟩,?_⟩
     clear hK K hs ha0 hb0 hj hG
     try simp only [Act.put,zp]
     refine zMJ 2 [27,28] ?_ ?_
     refine zSJ 8 [29,30,31,32,33,34,35,36] ?_ ?_
     refine zMJ 1 [37] ?_ ?_
     refine qvs (by kernel_rfl) ?_ _
     gi_wp2
     refine bodyPost_end (results_none rfl _ _ _) rfl ?_
     exact⟨⟨_,rfl⟩,.inr ⟨_,O3,.inr (.inr (.inl rfl)),hx3⟩⟩
   go_simp
   refine hK _ _ ⟨fun _ _=>⟨hG.same _ _ _ _ ha0 hs.1,hG.same _ _ _ _ hb0 hs.2⟩,?_⟩
   clear hK K hs ha0 hb0 hj hG
   try simp only [Act.put,zp]
   refine zMJ 2 [17,18] ?_ ?_
   refine zSJ 8 [19,20,21,22,23,24,25,26] ?_ ?_
   refine zMJ 2 [27,28] ?_ ?_
   refine zSJ 8 [29,30,31,32,33,34,35,36] ?_ ?_
   refine zMJ 1 [37] ?_ ?_
   refine qvs (by kernel_rfl) ?_ _
   gi_wp2
   refine bodyPost_end (results_none rfl _ _ _) rfl ?_
   exact⟨⟨_,rfl⟩,.inr ⟨_,O2,.inr (.inl rfl),hx2⟩⟩
 go_simp
 refine hK _ _ ⟨fun _ _=>⟨hG.same _ _ _ _ ha0 hs.1,hG.same _ _ _ _ hb0 hs.2⟩,?_⟩
 clear hK K hs ha0 hb0 hj hG
 try simp only [Act.put,zp]
 refine zMJ 1 [8] ?_ ?_
 refine zSJ 8 [9,10,11,12,13,14,15,16] ?_ ?_
 refine zMJ 2 [17,18] ?_ ?_
 refine zSJ 8 [19,20,21,22,23,24,25,26] ?_ ?_
 refine zMJ 2 [27,28] ?_ ?_
 refine zSJ 8 [29,30,31,32,33,34,35,36] ?_ ?_
 refine zMJ 1 [37] ?_ ?_
 refine qvs (by kernel_rfl) ?_ _
 gi_wp2
 refine bodyPost_end (results_none rfl _ _ _) rfl ?_
 exact⟨⟨_,rfl⟩,.inr ⟨_,O1,.inl rfl,hx1⟩⟩
theorem qi6(m ga gb ma mb:Nat)(w:World)(hS:Two ga gb ma mb w) :
  qpi Nxt Fence.wide m Tryz.prog 190 #[.pointer (some ⟨ga,0,none⟩),.pointer (some ⟨gb,0,none⟩)] (qx8 ma mb) (fun ys=>ys=[0,1,2,3]) Pre 4 (fun k=>k=ga∨k=gb) ga w :=
 fun l J Jx O0 W hW hJ _ hP _ hY h0=>qud m l ga gb ma mb J Jx ga hJ hY O0 W ⟨(hW.block ga (qaw hS.1)).trans hS.1,(hW.block gb (qaw hS.2)).trans hS.2⟩ (hP _ (.inl rfl)) (hP _ (.inr rfl)) h0
theorem qi7(w:World)(ma mb:Nat):Calls Tryz.prog 154 #[.pointer (some ⟨ma,0,none⟩),.pointer (some ⟨mb,0,none⟩)] w fun e w' =>
  e=.returned (.func (.func 190) #[] #[.pointer (some ⟨w.heap.size,0,none⟩),.pointer (some ⟨w.heap.size+1,0,none⟩)])/\w'=(w.alloc (.cells #[.pointer (some ⟨ma,0,none⟩)] 185)).alloc (.cells #[.pointer (some ⟨mb,0,none⟩)] 185):=by
 go_enter Tryz.func154,Tryz.ntmps154
 go_wp2
 go_ret
 exact⟨rfl,rfl⟩
end Ma
end Go.Proofs.YtmbppgjhdcmckaaGreatDoor
namespace Go.Proofs.YtmbppgjhdcmckaaGreatDoor
open Go.RowKit
namespace Ma
open Dp Dy
attribute [local go_sem] Oper.semAt_some
structure Dv where
 s:Bool
 A:Option Addr
 n:Nat
 c:Nat
 e:Int
 xs:List Int
structure Mv where
 S:Dv
 W:Dv
 C:Dv
 A:Dv
def Mv.get(m:Mv):Nat->Dv
 | 0=>m.S
 | 1=>m.W
 | 2=>m.C
 | _=>m.A
def Dv.Row(w:World)(lo hi:Nat)(d:Dv):Prop:=qae w lo hi .u32 d.A d.n d.xs
def Dv.may(d:Dv):Prop:=qik d.s d.xs d.e
structure MRows(w:World)(lo hi:Nat)(m:Mv):Prop where
 S:m.S.Row w lo hi
 W:m.W.Row w lo hi
 C:m.C.Row w lo hi
 A:m.A.Row w lo hi
theorem MRows.get{w:World}{lo hi:Nat}{m:Mv}(h:MRows w lo hi m)(x:Nat):qae w lo hi .u32 (m.get x).A (m.get x).n (m.get x).xs:=by
 unfold Mv.get
 split
 . exact h.S
 . exact h.W
 . exact h.C
 exact h.A
theorem MRows.below{w w':World}{lo hi B:Nat}{m:Mv}(h:MRows w lo hi m)(hb:Below B w w')(hB:hi<=B):MRows w' lo hi m:=⟨qae.below h.S hb hB,qae.below h.W hb hB,qae.below h.C hb hB,qae.below h.A hb hB⟩
theorem MRows.more{w:World}{lo hi lo' hi':Nat}{m:Mv}(h:MRows w lo hi m)(hl:lo'<=lo)(hh:hi<=hi'):MRows w lo' hi' m:=⟨qae.more h.S hl hh,qae.more h.W hl hh,qae.more h.C hl hh,qae.more h.A hl hh⟩
def qaz(w:World)(g:Nat)(m:Mv):Prop:=w.heap[g]? = some (.cells #[.bool m.S.s,.slice m.S.A m.S.n m.S.c,.int .i64 m.S.e,.bool m.W.s,.slice m.W.A m.W.n m.W.c,.int .i64 m.W.e,.bool m.C.s,.slice m.C.A m.C.n m.C.c,.int .i64 m.C.e,.bool m.A.s,.slice m.A.A m.A.n m.A.c,.int .i64 m.A.e] 26 (0,0))
theorem qaz.at_{w:World}{g:Nat}{m:Mv}(h:qaz w g m){x:Nat}(hx:x < 4) :
  (w.cell? ⟨g,3*x,none⟩=some (.bool (m.get x).s)/\w.cell? ⟨g,3*x+1,none⟩=some (.slice (m.get x).A (m.get x).n (m.get x).c)/\w.cell? ⟨g,3*x+2,none⟩=some (.int .i64 (m.get x).e)) /\
   (w.frozen? ⟨g,3*x,none⟩=false/\w.frozen? ⟨g,3*x+1,none⟩=false/\w.frozen? ⟨g,3*x+2,none⟩=false):=by
 have hf:∀ k,w.frozen? ⟨g,k,none⟩=false:=fun k=>frozen_of_row w g k _ _ h
 refine⟨?_,hf _,hf _,hf _⟩
 have hc:∀ k v,(#[.bool m.S.s,.slice m.S.A m.S.n m.S.c,.int .i64 m.S.e,.bool m.W.s,.slice m.W.A m.W.n m.W.c,.int .i64 m.W.e,.bool m.C.s,.slice m.C.A m.C.n m.C.c,.int .i64 m.C.e,.bool m.A.s,.slice m.A.A m.A.n m.A.c,.int .i64 m.A.e]:Array Value)[k]? = some v->w.cell? ⟨g,k,none⟩=some v:=fun k v hk=>by
  unfold qaz at h
  simp [World.cell?,h]
  simpa using hk
 have hx':x=0∨x=1∨x=2∨x=3:=by omega
 rcases hx' with rfl|rfl|rfl|rfl<;>exact⟨hc _ _ rfl,hc _ _ rfl,hc _ _ rfl⟩
def Mv.may(m:Mv):Prop:=∀ x,x < 4->(m.get x).may
open Classical in
noncomputable def q07(m:Mv):Int:=if m.may then 0 else 8
theorem qb2{w w':World}{g B:Nat}{o:Obj}(h:w.heap[g]? = some o)(hb:Below B w w')(hB:g < B):w'.heap[g]? = some o:=(hb.block g hB).trans h
theorem qd9{O:Nat->Prop}{w w':World}(hb:Below w.heap.size w w'):qfr O O w w':=⟨hb.size,fun k _ _ _ _ h=>(hb.block k (qaw h)).trans h,fun _ h=>.inl h⟩
theorem qdn{w w':World}{B:Nat}(hb:Below w.heap.size w w'):KeepsFrom B w w':=⟨hb.size,fun k _ _ hk _=>(hb.block k (qaw hk)).trans hk⟩
theorem qgu{O:Nat->Prop}{w:World}{p:Addr}(hp:O p.block)(v:Value):qfr O O w (w.setCell p v):=⟨by simp [World.setCell],fun k _ _ _ hk h=>by
  have:p.block≠k:=fun e=>hk (e▸hp)
  rw [<-h]
  simp [World.setCell,Array.getElem?_modify,this],fun _ h=>.inl h⟩
theorem qcx{W W':World}{row:Option Nat}{g:Nat}{cs:Array Value}{t:TypeId}{z:Nat×Nat}(h:W.heap[g]? = some (.cells cs t z))(hg:W.grownBy W' row)(hr:∀ r,row=some r->∃ o:Obj,W.heap[r]? = some o/\o.isCells=false):W'.heap[g]? = some (.cells cs t z):=by
 refine (hg.block g (qaw h) (fun e=>?_)).trans h
 obtain⟨o,h1,h2⟩:=hr g e.symm
 rw [h] at h1
 cases h1
 cases h2
theorem qb6{W W':World}{row:Option Nat}{g gl:Nat}{o:Obj}(h:W.heap[g]? = some o)(hg:W.grownBy W' row)(hr:∀ r,row=some r->r=gl)(hne:g≠gl):W'.heap[g]? = some o :=
 (hg.block g (qaw h) (fun e=>hne (hr g e.symm))).trans h
theorem qcu{W0 W W':World}{B gl:Nat}{row:Option Nat}(h:Below B W0 W)(hB:B<=W0.heap.size)(hg:W.grownBy W' row)(hr:∀ r,row=some r->r=gl)(hle:B<=gl):Below B W0 W' :=
 h.grown hg (Nat.le_trans hB h.size) (fun k e=>by have:=hr k e; omega)
theorem set1{w:World}{g:Nat}{x:Value}{t:TypeId}(h:w.heap[g]? = some (.cells #[x] t (0,0)))(v:Value):(w.setCell ⟨g,0,none⟩ v).heap[g]? = some (.cells #[v] t (0,0)):=by
 simp [World.setCell,Array.getElem?_modify,h]
theorem qth(w:World)(m:Mv)(hR:MRows w 0 w.heap.size m)(k:Int)(hk:q07 m=k) :
  Calls Tryz.prog 170 #[.agg #[.bool m.S.s,.slice m.S.A m.S.n m.S.c,.int .i64 m.S.e,.bool m.W.s,.slice m.W.A m.W.n m.W.c,.int .i64 m.W.e,.bool m.C.s,.slice m.C.A m.C.n m.C.c,.int .i64 m.C.e,.bool m.A.s,.slice m.A.A m.A.n m.A.c,.int .i64 m.A.e]] w fun e w'=>e=.returned (.int .i64 k)/\Below w.heap.size w w':=by
 have HK:=Lib.hid hk
 clear hk
 refine (callsIn_wide (n:=5)).1 ?_
 refine callsIn_of_wp_marks Tryz.func170 rfl trivial ?_ rfl
 simp only [Tryz.ntmps170,List.size_toArray,List.length_cons,List.length_nil,Nat.reduceAdd,Nat.reduceSub,Array.replicate_succ,Array.replicate_zero,List.push_toArray,List.append_toArray,List.nil_append,List.cons_append]
 gi_wp2_with fail
 refine⟨trivial,(callsIn_wide.2 (qi7 _ _ _)).mono ?_⟩
 rintro e w2 ⟨rfl,rfl⟩
 gi_wp2_with fail
 obtain⟨W0,hW0⟩:∃ W0,((((w.alloc (.cells #[.bool m.S.s,.slice m.S.A m.S.n m.S.c,.int .i64 m.S.e,.bool m.W.s,.slice m.W.A m.W.n m.W.c,.int .i64 m.W.e,.bool m.C.s,.slice m.C.A m.C.n m.C.c,.int .i64 m.C.e,.bool m.A.s,.slice m.A.A m.A.n m.A.c,.int .i64 m.A.e] 26)).alloc (.cells #[.int .i64 0] 36)).alloc (.cells #[.pointer (some ⟨w.heap.size,0,none⟩)] 185)).alloc (.cells #[.pointer (some ⟨w.heap.size,0,none⟩)] 185))=W0:=⟨_,rfl⟩
 have hsz:W0.heap.size=w.heap.size+4:=by rw [<-hW0]; simp
 have hB0:Below w.heap.size w W0:=by rw [<-hW0]; exact ((((Below.refl _ w).alloc (Nat.le_refl _) _).alloc (by simp) _).alloc (by simp<;>omega) _).alloc (by simp<;>omega) _
 have hM0:qaz W0 w.heap.size m:=by rw [<-hW0]; exact (Below.heap_alloc _ _ _ (by simp<;>omega)).trans ((Below.heap_alloc _ _ _ (by simp<;>omega)).trans ((Below.heap_alloc _ _ _ (by simp)).trans (heap_alloc_last _ _)))
 have hE0:W0.heap[w.heap.size+1]? = some (.cells #[.int .i64 0] 36 (0,0)):=by rw [<-hW0]; exact (Below.heap_alloc _ _ _ (by simp<;>omega)).trans ((Below.heap_alloc _ _ _ (by simp)).trans (heap_alloc2_new _ _ _))
 have hS0:Two (w.heap.size+1+1) (w.heap.size+1+1+1) w.heap.size w.heap.size W0:=by
  rw [<-hW0]
  refine⟨(Below.heap_alloc _ _ _ (by simp)).trans ?_,?_⟩
  . have:=heap_alloc_last ((w.alloc (.cells #[.bool m.S.s,.slice m.S.A m.S.n m.S.c,.int .i64 m.S.e,.bool m.W.s,.slice m.W.A m.W.n m.W.c,.int .i64 m.W.e,.bool m.C.s,.slice m.C.A m.C.n m.C.c,.int .i64 m.C.e,.bool m.A.s,.slice m.A.A m.A.n m.A.c,.int .i64 m.A.e] 26)).alloc (.cells #[.int .i64 0] 36)) (.cells #[.pointer (some ⟨w.heap.size,0,none⟩)] 185)
    simpa using this
  have:=heap_alloc_last (((w.alloc (.cells #[.bool m.S.s,.slice m.S.A m.S.n m.S.c,.int .i64 m.S.e,.bool m.W.s,.slice m.W.A m.W.n m.W.c,.int .i64 m.W.e,.bool m.C.s,.slice m.C.A m.C.n m.C.c,.int .i64 m.C.e,.bool m.A.s,.slice m.A.A m.A.n m.A.c,.int .i64 m.A.e] 26)).alloc (.cells #[.int .i64 0] 36)).alloc (.cells #[.pointer (some ⟨w.heap.size,0,none⟩)] 185)) (.cells #[.pointer (some ⟨w.heap.size,0,none⟩)] 185)
  simpa using this
 have HSZ:=Lib.hid hsz
 have hlo:w.heap.size+4<=W0.heap.size:=by omega
 have hhi:W0.heap.size<=w.heap.size+4:=by omega
 rw [hW0]
 clear hW0 hsz
 refine qb3 (F:=Fence.wide) rfl (by decide) (gf:=190) (lb:=#[.pointer (some ⟨w.heap.size+1+1,0,none⟩),.pointer (some ⟨w.heap.size+1+1+1,0,none⟩)]) rfl trivial (enters_of Tryz.func190 (by kernel_rfl) rfl)
  (qi6 _ _ _ _ _ W0 hS0) (by omega) (fun _=>rfl)
  (fun pre O W=>O (w.heap.size+1)/\(∀ x,x∈pre->x < 4->(m.get x).may)/\qaz W w.heap.size m/\W.heap[w.heap.size+1]? = some (.cells #[.int .i64 0] 36 (0,0))/\Below w.heap.size w W)
  (fun j pre O W=>j=.ret/\(¬ m.may)/\W.heap[w.heap.size+1]? = some (.cells #[.int .i64 8] 36 (0,0))/\Below w.heap.size w W)
  (fun O s A B row hs hg hr=>⟨hs.1,hs.2.1,qcx hs.2.2.1 hg (fun r e=>(hr r e).2),qcx hs.2.2.2.1 hg (fun r e=>(hr r e).2),hs.2.2.2.2.grown hg hs.2.2.2.2.size (fun k e=>by have:=(hr k e).1; omega)⟩)
  (fun j O s A B row hs hg hr=>⟨hs.1,hs.2.1,qcx hs.2.2.1 hg (fun r e=>(hr r e).2),hs.2.2.2.grown hg hs.2.2.2.size (fun k e=>by have:=(hr k e).1; omega)⟩)
  (fun s O A B row hs hg hr=>⟨hs.1,hs.2.1,qb6 hs.2.2.1 hg hr (by omega),qb6 hs.2.2.2.1 hg hr (by omega),qcu hs.2.2.2.2 (Nat.le_refl _) hg hr (by omega)⟩)
  (fun j s O A B row hs hg hr=>⟨hs.1,hs.2.1,qb6 hs.2.2.1 hg hr (by omega),qcu hs.2.2.2 (Nat.le_refl _) hg hr (by omega)⟩)
  (fun k=>k=w.heap.size+1) (fun k hk e=>by omega) (fun k e=>by omega) ⟨rfl,(fun x hx=>absurd hx (List.not_mem_nil)),hM0,hE0,hB0⟩
  (fun x a' W=>a'={ tmps:=#[.agg #[.bool m.S.s,.slice m.S.A m.S.n m.S.c,.int .i64 m.S.e,.bool m.W.s,.slice m.W.A m.W.n m.W.c,.int .i64 m.W.e,.bool m.C.s,.slice m.C.A m.C.n m.C.c,.int .i64 m.C.e,.bool m.A.s,.slice m.A.A m.A.n m.A.c,.int .i64 m.A.e],.pointer (some ⟨w.heap.size,0,none⟩),.pointer (some ⟨w.heap.size+1,0,none⟩),.pointer (some ⟨w.heap.size,3*x,none⟩),undef,
   .func (.func 190) #[] #[.pointer (some ⟨w.heap.size+1+1,0,none⟩),.pointer (some ⟨w.heap.size+1+1+1,0,none⟩)],.pointer (some ⟨w.heap.size,3*x,none⟩),.pointer (some ⟨w.heap.size,3*x,none⟩),undef,undef,undef,undef,undef,undef,undef],defers:=[] })
  (fun x a' _ _ _ _ h _ _=>h) ?assign ?body ?done ?stop
 case assign =>
  intro l pre x O W K hgx hsW hi hK
  unfold qx8
  gi_wp2
  exact hK _ _ (KeepsFrom.refl _ _) (qfr.refl _ _) hi rfl
 case body =>
  rintro l pre x O a' W ⟨hx4,hpre⟩ hsW ⟨hO,hall,hM,hE,hb⟩ rfl _
  obtain⟨⟨k1,k2,k3⟩,_⟩:=qaz.at_ hM hx4
  have hrow:qae W 0 W.heap.size .u32 (m.get x).A (m.get x).n (m.get x).xs:=((hR.get x).below hb (Nat.le_refl _)).more (Nat.le_refl _) hb.size
  generalize hd:m.get x=d at k1 k2 k3 hrow
  have HD:=Lib.hid hd
  clear hd
  obtain⟨e1,e2⟩:=qb1 hE
  by_cases hm:d.may
  . have hc:chkX d.s d.xs d.e=0:=if_pos hm
    have HC:=Lib.hid hc
    have HM:=Lib.hid hm
    clear hc hm
    gi_wp2_with fail
    refine⟨trivial,(CallsIn.inRound l (callsIn_wide.2 (qn2 W d.s d.A d.n d.c d.xs d.e hrow 0 HC.out))).mono ?_⟩
    rintro e W2 ⟨rfl,hB⟩
    gi_wp2
    refine⟨qdn hB,O,qd9 hB,hO,fun y hy hy4=>?_,qb2 hM hB (by omega),qb2 hE hB (by omega),hb.trans (hB.mono hb.size)⟩
    rcases List.mem_append.1 hy with h|h
    . exact hall y h hy4
    rw [List.mem_singleton.1 h,HD.out]
    exact HM.out
  have hc:chkX d.s d.xs d.e=8:=if_neg hm
  have HC:=Lib.hid hc
  have HM:=Lib.hid hm
  clear hc hm
  gi_wp2_with fail
  refine⟨trivial,(CallsIn.inRound l (callsIn_wide.2 (qn2 W d.s d.A d.n d.c d.xs d.e hrow 8 HC.out))).mono ?_⟩
  rintro e W2 ⟨rfl,hB⟩
  have hE2:=qb2 hE hB (by omega)
  obtain⟨e3,e4⟩:=qb1 hE2
  clear e1 e2
  gi_wp2
  exact⟨(qdn hB).trans ((KeepsOthers.setCell _ _ _).from _),O,(qd9 hB).trans (qgu hO _),rfl,fun h=>HM.out (by have:=h x hx4; rw [HD.out] at this; exact this),set1 hE2 _,(hb.trans (hB.mono hb.size)).setCell (by simp) _⟩
 case done =>
  rintro D ys O W hD hS ⟨hO,hall,hM,hE,hb⟩ hK
  obtain⟨e1,e2⟩:=qb1 hE
  have hm:m.may:=fun x hx=>hall x (by rw [hS]; simp; omega) hx
  have hk:=HK.out
  rw [q07,if_pos hm] at hk
  subst hk
  clear hm hS hall
  gi_wp2
  have hK':=(KeepsOthers.setCell W ⟨w.heap.size+1,0,none⟩ (.int .i64 0)).same D _ hK rfl
  have c1:=qb1 ((World.putObj_heap_other (o:=.deferred none) (by omega:w.heap.size+1≠D)).trans (set1 hE (.int .i64 0)))
  refine⟨by simp,.inl ⟨_,_,rfl,run_takeDeferred hK',?_⟩⟩
  refine⟨.int .i64 0,?_,rfl,?_⟩
  . simp [results,Tryz.f170,go_sem,c1.1]
  exact (hb.setCell (by simp) _).trans (belowK_b (w:=w) (Nat.le_refl _) _ D _ _ (by omega) hK' rfl rfl)
 case stop =>
  rintro D j pre O W hD hSp ⟨rfl,hm,hE,hb⟩ hK
  have hk:=HK.out
  rw [q07,if_neg hm] at hk
  subst hk
  gi_wp2
  have c1:=qb1 ((World.putObj_heap_other (o:=.deferred none) (by omega:w.heap.size+1≠D)).trans hE)
  refine⟨by simp,.inl ⟨_,_,rfl,run_takeDeferred hK,?_⟩⟩
  refine⟨.int .i64 8,?_,rfl,?_⟩
  . simp [results,Tryz.f170,go_sem,c1.1]
  exact hb.trans (belowK_b (w:=w) (Nat.le_refl _) _ D _ _ (by omega) hK rfl rfl)
end Ma
end Go.Proofs.YtmbppgjhdcmckaaGreatDoor
namespace Go.Proofs.YtmbppgjhdcmckaaGreatDoor
open Go.RowKit
namespace Ma
open Dp Dy
attribute [local go_sem] Oper.semAt_some
def qdd(d d':Dv):Bool:=Pa.Dy.same ⟨d.s,d.xs,d.e⟩ ⟨d'.s,d'.xs,d'.e⟩
def qfp(a b:Mv):Bool:=qdd a.S b.S && qdd a.W b.W && qdd a.C b.C && qdd a.A b.A
theorem four{p:Nat->Prop}(h0:p 0)(h1:p 1)(h2:p 2)(h3:p 3):∀ x,x < 4->p x:=fun x hx=>by
 have hx':x=0∨x=1∨x=2∨x=3:=by omega
 rcases hx' with rfl|rfl|rfl|rfl
 . exact h0
 . exact h1
 . exact h2
 exact h3
theorem qmq(a b:Mv):qfp a b=true↔∀ x,x < 4->qdd (a.get x) (b.get x)=true:=by
 unfold qfp
 simp only [Bool.and_eq_true]
 exact⟨fun h=>four h.1.1.1 h.1.1.2 h.1.2 h.2,fun h=>⟨⟨⟨h 0 (by decide),h 1 (by decide)⟩,h 2 (by decide)⟩,h 3 (by decide)⟩⟩
theorem qu7{w w':World}{g:Nat}{o:Obj}(hb:Below w.heap.size w w')(h:w.heap[g]? = some o):w'.heap[g]? = some o:=(hb.block g (qaw h)).trans h
theorem qv0(w:World)(o1 o2 o3 o4 o5:Obj){w1:World}(hw:((((w.alloc o1).alloc o2).alloc o3).alloc o4).alloc o5=w1) :
  (w1.heap[w.heap.size]? = some o1/\w1.heap[w.heap.size+1]? = some o2/\w1.heap[w.heap.size+1+1]? = some o3/\w1.heap[w.heap.size+1+1+1]? = some o4/\w1.heap[w.heap.size+1+1+1+1]? = some o5)/\Below w.heap.size w w1/\w.heap.size+5<=w1.heap.size/\w1.heap.size<=w.heap.size+5:=by
 obtain⟨h1,h2,h3,h4,h5,h6⟩:=q1y w o1 o2 o3 rfl
 obtain⟨k1,k2,k3,k4,k5⟩:=qdy (((w.alloc o1).alloc o2).alloc o3) o4 o5 rfl
 subst hw
 have e:(((w.alloc o1).alloc o2).alloc o3).heap.size=w.heap.size+1+1+1:=by simp
 rw [e] at k1 k2
 exact⟨⟨qu7 k3 h1,qu7 k3 h2,qu7 k3 h3,k1,k2⟩,h4.trans (k3.mono (by omega)),by omega,by omega⟩
end Ma
end Go.Proofs.YtmbppgjhdcmckaaGreatDoor
namespace Go.Proofs.YtmbppgjhdcmckaaGreatDoor
open Go.RowKit
namespace Ma
open Dp Dy
attribute [local go_sem] Oper.semAt_some
def Mv.put(m:Mv)(x:Nat)(d:Dv):Mv:=match x with
 | 0=>{ m with S:=d }
 | 1=>{ m with W:=d }
 | 2=>{ m with C:=d }
 | _=>{ m with A:=d }
theorem qaz.put{w:World}{g:Nat}{m:Mv}(h:qaz w g m){x:Nat}(hx:x < 4)(d:Dv) :
  qaz (((w.setCell ⟨g,3*x,none⟩ (.bool d.s)).setCell ⟨g,3*x+1,none⟩ (.slice d.A d.n d.c)).setCell ⟨g,3*x+2,none⟩ (.int .i64 d.e)) g (m.put x d):=by
 have hx':x=0∨x=1∨x=2∨x=3:=by omega
 unfold qaz at *
 rcases hx' with rfl|rfl|rfl|rfl<;>simp [World.setCell,Array.getElem?_modify,h,Mv.put]
theorem qaz.cells{w:World}{g:Nat}{m:Mv}(h:qaz w g m):(w.cell? ⟨g,0,none⟩=some (.bool m.S.s)/\w.cell? ⟨g,1,none⟩=some (.slice m.S.A m.S.n m.S.c)/\w.cell? ⟨g,2,none⟩=some (.int .i64 m.S.e)/\w.cell? ⟨g,3,none⟩=some (.bool m.W.s)/\w.cell? ⟨g,4,none⟩=some (.slice m.W.A m.W.n m.W.c)/\w.cell? ⟨g,5,none⟩=some (.int .i64 m.W.e)/\w.cell? ⟨g,6,none⟩=some (.bool m.C.s)/\w.cell? ⟨g,7,none⟩=some (.slice m.C.A m.C.n m.C.c)/\w.cell? ⟨g,8,none⟩=some (.int .i64 m.C.e)/\w.cell? ⟨g,9,none⟩=some (.bool m.A.s)/\w.cell? ⟨g,10,none⟩=some (.slice m.A.A m.A.n m.A.c)/\w.cell? ⟨g,11,none⟩=some (.int .i64 m.A.e))/\∀ k,w.frozen? ⟨g,k,none⟩=false:=by
 refine⟨?_,fun k=>frozen_of_row w g k _ _ h⟩
 have hc:∀ k v,(#[.bool m.S.s,.slice m.S.A m.S.n m.S.c,.int .i64 m.S.e,.bool m.W.s,.slice m.W.A m.W.n m.W.c,.int .i64 m.W.e,.bool m.C.s,.slice m.C.A m.C.n m.C.c,.int .i64 m.C.e,.bool m.A.s,.slice m.A.A m.A.n m.A.c,.int .i64 m.A.e]:Array Value)[k]? = some v->w.cell? ⟨g,k,none⟩=some v:=fun k v hk=>by
  unfold qaz at h
  simp [World.cell?,h]
  simpa using hk
 exact⟨hc _ _ rfl,hc _ _ rfl,hc _ _ rfl,hc _ _ rfl,hc _ _ rfl,hc _ _ rfl,hc _ _ rfl,hc _ _ rfl,hc _ _ rfl,hc _ _ rfl,hc _ _ rfl,hc _ _ rfl⟩
theorem qaz.all{w:World}{g:Nat}{m0:Mv}(h:qaz w g m0)(m:Mv):qaz ((((((((((((w.setCell ⟨g,0,none⟩ (.bool m.S.s)).setCell ⟨g,1,none⟩ (.slice m.S.A m.S.n m.S.c)).setCell ⟨g,2,none⟩ (.int .i64 m.S.e)).setCell ⟨g,3,none⟩ (.bool m.W.s)).setCell ⟨g,4,none⟩ (.slice m.W.A m.W.n m.W.c)).setCell ⟨g,5,none⟩ (.int .i64 m.W.e)).setCell ⟨g,6,none⟩ (.bool m.C.s)).setCell ⟨g,7,none⟩ (.slice m.C.A m.C.n m.C.c)).setCell ⟨g,8,none⟩ (.int .i64 m.C.e)).setCell ⟨g,9,none⟩ (.bool m.A.s)).setCell ⟨g,10,none⟩ (.slice m.A.A m.A.n m.A.c)).setCell ⟨g,11,none⟩ (.int .i64 m.A.e)) g m :=
 ((((h.put (x:=0) (by decide) m.S).put (x:=1) (by decide) m.W).put (x:=2) (by decide) m.C).put (x:=3) (by decide) m.A)
theorem qnw{w0 w:World}{B g:Nat}(h:Below B w0 w)(hg:B<=g)(m:Mv):Below B w0 ((((((((((((w.setCell ⟨g,0,none⟩ (.bool m.S.s)).setCell ⟨g,1,none⟩ (.slice m.S.A m.S.n m.S.c)).setCell ⟨g,2,none⟩ (.int .i64 m.S.e)).setCell ⟨g,3,none⟩ (.bool m.W.s)).setCell ⟨g,4,none⟩ (.slice m.W.A m.W.n m.W.c)).setCell ⟨g,5,none⟩ (.int .i64 m.W.e)).setCell ⟨g,6,none⟩ (.bool m.C.s)).setCell ⟨g,7,none⟩ (.slice m.C.A m.C.n m.C.c)).setCell ⟨g,8,none⟩ (.int .i64 m.C.e)).setCell ⟨g,9,none⟩ (.bool m.A.s)).setCell ⟨g,10,none⟩ (.slice m.A.A m.A.n m.A.c)).setCell ⟨g,11,none⟩ (.int .i64 m.A.e)) :=
 ((((((((((((h.setCell hg _).setCell hg _).setCell hg _).setCell hg _).setCell hg _).setCell hg _).setCell hg _).setCell hg _).setCell hg _).setCell hg _).setCell hg _).setCell hg _)
theorem qw3(w:World)(p:Addr)(v:Value):(w.setCell p v).heap.size=w.heap.size:=by simp [World.setCell]
theorem qp4{w:World}{g:Nat}(m:Mv):(((((((((((((w.setCell ⟨g,0,none⟩ (.bool m.S.s)).setCell ⟨g,1,none⟩ (.slice m.S.A m.S.n m.S.c)).setCell ⟨g,2,none⟩ (.int .i64 m.S.e)).setCell ⟨g,3,none⟩ (.bool m.W.s)).setCell ⟨g,4,none⟩ (.slice m.W.A m.W.n m.W.c)).setCell ⟨g,5,none⟩ (.int .i64 m.W.e)).setCell ⟨g,6,none⟩ (.bool m.C.s)).setCell ⟨g,7,none⟩ (.slice m.C.A m.C.n m.C.c)).setCell ⟨g,8,none⟩ (.int .i64 m.C.e)).setCell ⟨g,9,none⟩ (.bool m.A.s)).setCell ⟨g,10,none⟩ (.slice m.A.A m.A.n m.A.c)).setCell ⟨g,11,none⟩ (.int .i64 m.A.e))).heap.size=w.heap.size:=by simp only [qw3]
theorem q0i{w:World}{g g':Nat}(hne:g'≠g)(m:Mv):(((((((((((((w.setCell ⟨g,0,none⟩ (.bool m.S.s)).setCell ⟨g,1,none⟩ (.slice m.S.A m.S.n m.S.c)).setCell ⟨g,2,none⟩ (.int .i64 m.S.e)).setCell ⟨g,3,none⟩ (.bool m.W.s)).setCell ⟨g,4,none⟩ (.slice m.W.A m.W.n m.W.c)).setCell ⟨g,5,none⟩ (.int .i64 m.W.e)).setCell ⟨g,6,none⟩ (.bool m.C.s)).setCell ⟨g,7,none⟩ (.slice m.C.A m.C.n m.C.c)).setCell ⟨g,8,none⟩ (.int .i64 m.C.e)).setCell ⟨g,9,none⟩ (.bool m.A.s)).setCell ⟨g,10,none⟩ (.slice m.A.A m.A.n m.A.c)).setCell ⟨g,11,none⟩ (.int .i64 m.A.e))).heap[g']? = w.heap[g']? := by
 exact (Below.heap_setCell _ _ _ _ hne).trans ((Below.heap_setCell _ _ _ _ hne).trans ((Below.heap_setCell _ _ _ _ hne).trans ((Below.heap_setCell _ _ _ _ hne).trans ((Below.heap_setCell _ _ _ _ hne).trans ((Below.heap_setCell _ _ _ _ hne).trans ((Below.heap_setCell _ _ _ _ hne).trans ((Below.heap_setCell _ _ _ _ hne).trans ((Below.heap_setCell _ _ _ _ hne).trans ((Below.heap_setCell _ _ _ _ hne).trans ((Below.heap_setCell _ _ _ _ hne).trans (Below.heap_setCell _ _ _ _ hne)))))))))))
def ZM:Mv:=⟨⟨false,none,0,0,0,[]⟩,⟨false,none,0,0,0,[]⟩,⟨false,none,0,0,0,[]⟩,⟨false,none,0,0,0,[]⟩⟩
def qet(d d':Dv):Prop:=d'.s=d.s/\d'.n=d.n/\d'.e=d.e/\d'.xs=d.xs/\d'.n<=d'.c
theorem q1x(w:World)(o1 o2 o3 o4:Obj){w1:World}(hw:(((w.alloc o1).alloc o2).alloc o3).alloc o4=w1) :
  (w1.heap[w.heap.size]? = some o1/\w1.heap[w.heap.size+1]? = some o2/\w1.heap[w.heap.size+1+1]? = some o3/\w1.heap[w.heap.size+1+1+1]? = some o4)/\Below w.heap.size w w1/\w.heap.size+4<=w1.heap.size/\w1.heap.size<=w.heap.size+4:=by
 obtain⟨h1,h2,h3,h4,h5⟩:=qdy w o1 o2 rfl
 obtain⟨k1,k2,k3,k4,k5⟩:=qdy ((w.alloc o1).alloc o2) o3 o4 rfl
 subst hw
 have e:((w.alloc o1).alloc o2).heap.size=w.heap.size+1+1:=by simp
 rw [e] at k1 k2
 exact⟨⟨qu7 k3 h1,qu7 k3 h2,k1,k2⟩,h3.trans (k3.mono (by omega)),by omega,by omega⟩
end Ma
end Go.Proofs.YtmbppgjhdcmckaaGreatDoor
namespace Go.Proofs.YtmbppgjhdcmckaaGreatDoor
open Go.RowKit
namespace Ma
open Dp Dy
theorem q0p{m:Mv}(h:m.may):q07 m=0:=if_pos h
theorem q0o{m:Mv}(h:¬ m.may):q07 m=8:=if_neg h
theorem qgs{w w':World}{lo hi n:Nat}{k:IntKind}{A:Option Addr}{xs:List Int}(h:qae w lo hi k A n xs)(hk:∀ b,lo<=b->b < hi->w'.heap[b]? = w.heap[b]?):qae w' lo hi k A n xs :=
 ⟨h.len,h.wf,h.big,fun h0=>by
  obtain⟨b,off,e,h1,h2,hc⟩:=h.row h0
  have h3:=hk b h1 h2
  exact⟨b,off,e,h1,h2,fun j hj=>⟨by rw [World.cell?_of_block h3]; exact (hc j hj).1,by rw [World.frozen?_of_block h3]; exact (hc j hj).2⟩⟩⟩
theorem qgg{w w':World}{lo hi:Nat}{m:Mv}(h:MRows w lo hi m)(hk:∀ b,lo<=b->b < hi->w'.heap[b]? = w.heap[b]?):MRows w' lo hi m:=⟨qgs h.S hk,qgs h.W hk,qgs h.C hk,qgs h.A hk⟩
def Is(r:Dn)(d:Dv):Prop:=d.s=r.neg/\d.e=r.e/\d.xs=qaf 4294967296 r.m
theorem Is.may{r:Dn}{d:Dv}(h:Is r d)(hr:r.May):d.may:=by
 unfold Dv.may
 rw [h.1,h.2.1,h.2.2]
 exact qgy hr
theorem Is.same{r:Dn}{d d':Dv}(h:Is r d)(h':Is r d'):qdd d d'=true:=by
 unfold qdd
 rw [h.1,h.2.1,h.2.2,h'.1,h'.2.1,h'.2.2]
 exact Pa.Dy.same_refl _
theorem Is.zero:Is Dn.zero ⟨false,none,0,0,0,[]⟩:=⟨rfl,rfl,rfl⟩
end Ma
end Go.Proofs.YtmbppgjhdcmckaaGreatDoor