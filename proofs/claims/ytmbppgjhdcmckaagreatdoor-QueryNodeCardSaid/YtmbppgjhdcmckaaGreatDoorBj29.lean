/- headcountref25.Ask: a walk (printed by a program of mine). -/
import Derived.Test.YtmbppgjhdcmckaaGreatDoorBj28
import Derived.Test.YtmbppgjhdcmckaaGreatDoorBj25
set_option maxHeartbeats 102400000
set_option maxRecDepth 100000
namespace Go.Proofs.YtmbppgjhdcmckaaGreatDoor
open Go.RowKit
namespace Ma
open Dp Dy
theorem q0v{p:Pv}{kind k:Int}(hm:qd6 p=true)(h0:0<=k)(h1:k<=64):ql7 p kind k=qcr p kind k:=by
 unfold ql7
 rw [if_neg (by rw [hm]; simp),if_neg (by omega)]
theorem ql6{p:Pv}{kind k:Int}(hm:qd6 p=true)(h:kind < 1∨6 < kind∨k < 0∨64 < k):ql7 p kind k=(Dn.zero,Dn.zero,2):=by
 unfold ql7
 rw [if_neg (by rw [hm]; simp)]
 split
 . rfl
 unfold qcr
 rw [if_neg (by omega),if_neg (by omega),if_neg (by omega),if_neg (by omega),if_neg (by omega),if_neg (by omega)]
theorem qys(w:World)(p:Pv)(hR:PRows w 0 w.heap.size p)(hT:Tab w)(kind k:Int)(lo hi:Dn)(code:Int)(h:ql7 p kind k=(lo,hi,code)) :
  Calls Tryz.prog 11 #[.agg #[.bool p.M.S.s,.slice p.M.S.A p.M.S.n p.M.S.c,.int .i64 p.M.S.e,.bool p.M.W.s,.slice p.M.W.A p.M.W.n p.M.W.c,.int .i64 p.M.W.e,.bool p.M.C.s,.slice p.M.C.A p.M.C.n p.M.C.c,.int .i64 p.M.C.e,.bool p.M.A.s,.slice p.M.A.A p.M.A.n p.M.A.c,.int .i64 p.M.A.e,.bool p.h,.int .i64 p.mn,.int .i64 p.mx,.slice p.A p.n p.c],.int .u8 kind,.int .i64 k] w (qha w lo hi code):=by
 obtain⟨w1,hw1,bP,ja,S1⟩:=alloc_p w p
 obtain⟨w2,hw2,bT,jb,S2⟩:=qba w1
 have s1:=ja.size
 have s2:=jb.size
 have z1:w1.heap.size=w.heap.size+1:=by rw [<-hw1]; simp
 have jw:Below w.heap.size w w2:=lz ja jb
 have SP:w.heap.size < w2.heap.size:=by omega
 replace bP:PBox w2 w.heap.size p:=(jb.block _ S1).trans bP
 subst hw1
 rw [z1] at bT S2
 obtain⟨m,hm⟩:∃ m,qd6 p=m:=⟨_,rfl⟩
 have HM:=Lib.hid hm
 have HH:=Lib.hid h
 clear h hm ja jb S1 s1 s2 z1
 go_enter Tryz.func11,Tryz.ntmps11
 have rP:=PBox.range bP
 go_wp2_with (first
  | (refine wpList_load_mid rfl 30 (.tmp 3) rfl (w.heap.size) 0 rfl [.bool p.M.S.s,.slice p.M.S.A p.M.S.n p.M.S.c,.int .i64 p.M.S.e,.bool p.M.W.s,.slice p.M.W.A p.M.W.n p.M.W.c,.int .i64 p.M.W.e,.bool p.M.C.s,.slice p.M.C.A p.M.C.n p.M.C.c,.int .i64 p.M.C.e,.bool p.M.A.s,.slice p.M.A.A p.M.A.n p.M.A.c,.int .i64 p.M.A.e,.bool p.h,.int .i64 p.mn,.int .i64 p.mx,.slice p.A p.n p.c] _ rP Tryz.underlying30 rfl (by kernel_rfl) ?_))
 refine (MayPart_any w2 p (PRows.on hR jw) m HM.out).mono ?_
 rintro e' v107 ⟨rfl,j108⟩
 try clear hw
 clear rP
 try clear hw2
 cases m
 . have he:=HH.out
   unfold ql7 at he
   rw [if_pos HM.out] at he
   injection he with he1 he2
   injection he2 with he2 he3
   subst he1 he2 he3
   clear HH
   have u109_b:qar v107 ((w.heap.size+1)) ZDv ZDv:=(qaa bT j108 S2)
   obtain⟨u109,h110,bTu109,h110_b,h110_f,h110_l,h110_m⟩:=qaj u109_b ZDv ZDv
   have h110_t:=qar.there u109_b
   replace h110:v107.setCells ((w.heap.size+1)) 0 (#[.bool false,.slice none 0 0,.int .i64 0,.bool false,.slice none 0 0,.int .i64 0]:Array Value).toList=u109:=h110
   have h110_H:=Lib.hid h110
   clear h110
   have fin_:=h110_b _ _ (lz jw j108) (by omega)
   go_wp2_with (first
    | (refine wpList_store_mid rfl 32 (.tmp 6) (.tmp 13) rfl ((w.heap.size+1)) 0 #[.bool false,.slice none 0 0,.int .i64 0,.bool false,.slice none 0 0,.int .i64 0] rfl rfl h110_t (by kernel_rfl) (all_oneCell_toArray (qac ZDv ZDv)) ?_; rw [h110_H.out]))
   exact bodyPost_ret (qab Tryz.results11 _ _ (w.heap.size+1) 32 #[.bool false,.slice none 0 0,.int .i64 0,.bool false,.slice none 0 0,.int .i64 0] (0,0) _ (.int .i64 8) rfl rfl bTu109 Tryz.underlying32 rfl (by kernel_rfl)) rfl ⟨ZDv,ZDv,rfl,isZ,isZ,fin_,qf8 _ _ _,qf8 _ _ _⟩
 by_cases q0:kind < 1
 . have he:=HH.out
   rw [ql6 HM.out ((.inl q0))] at he
   injection he with he1 he2
   injection he2 with he2 he3
   subst he1 he2 he3
   clear HH
   have u111_b:qar v107 ((w.heap.size+1)) ZDv ZDv:=(qaa bT j108 S2)
   obtain⟨u111,h112,bTu111,h112_b,h112_f,h112_l,h112_m⟩:=qaj u111_b ZDv ZDv
   have h112_t:=qar.there u111_b
   replace h112:v107.setCells ((w.heap.size+1)) 0 (#[.bool false,.slice none 0 0,.int .i64 0,.bool false,.slice none 0 0,.int .i64 0]:Array Value).toList=u111:=h112
   have h112_H:=Lib.hid h112
   clear h112
   have fin_:=h112_b _ _ (lz jw j108) (by omega)
   go_wp2_with (first
    | (refine wpList_store_mid rfl 32 (.tmp 6) (.tmp 28) rfl ((w.heap.size+1)) 0 #[.bool false,.slice none 0 0,.int .i64 0,.bool false,.slice none 0 0,.int .i64 0] rfl rfl h112_t (by kernel_rfl) (all_oneCell_toArray (qac ZDv ZDv)) ?_; rw [h112_H.out]))
   exact bodyPost_ret (qab Tryz.results11 _ _ (w.heap.size+1) 32 #[.bool false,.slice none 0 0,.int .i64 0,.bool false,.slice none 0 0,.int .i64 0] (0,0) _ (.int .i64 2) rfl rfl bTu111 Tryz.underlying32 rfl (by kernel_rfl)) rfl ⟨ZDv,ZDv,rfl,isZ,isZ,fin_,qf8 _ _ _,qf8 _ _ _⟩
 by_cases q1:6 < kind
 . have he:=HH.out
   rw [ql6 HM.out ((.inr (.inl q1)))] at he
   injection he with he1 he2
   injection he2 with he2 he3
   subst he1 he2 he3
   clear HH
   have u113_b:qar v107 ((w.heap.size+1)) ZDv ZDv:=(qaa bT j108 S2)
   obtain⟨u113,h114,bTu113,h114_b,h114_f,h114_l,h114_m⟩:=qaj u113_b ZDv ZDv
   have h114_t:=qar.there u113_b
   replace h114:v107.setCells ((w.heap.size+1)) 0 (#[.bool false,.slice none 0 0,.int .i64 0,.bool false,.slice none 0 0,.int .i64 0]:Array Value).toList=u113:=h114
   have h114_H:=Lib.hid h114
   clear h114
   have fin_:=h114_b _ _ (lz jw j108) (by omega)
   go_wp2_with (first
    | (refine wpList_store_mid rfl 32 (.tmp 6) (.tmp 28) rfl ((w.heap.size+1)) 0 #[.bool false,.slice none 0 0,.int .i64 0,.bool false,.slice none 0 0,.int .i64 0] rfl rfl h114_t (by kernel_rfl) (all_oneCell_toArray (qac ZDv ZDv)) ?_; rw [h114_H.out]))
   exact bodyPost_ret (qab Tryz.results11 _ _ (w.heap.size+1) 32 #[.bool false,.slice none 0 0,.int .i64 0,.bool false,.slice none 0 0,.int .i64 0] (0,0) _ (.int .i64 2) rfl rfl bTu113 Tryz.underlying32 rfl (by kernel_rfl)) rfl ⟨ZDv,ZDv,rfl,isZ,isZ,fin_,qf8 _ _ _,qf8 _ _ _⟩
 by_cases q2:k < 0
 . have he:=HH.out
   rw [ql6 HM.out ((.inr (.inr (.inl q2))))] at he
   injection he with he1 he2
   injection he2 with he2 he3
   subst he1 he2 he3
   clear HH
   have u115_b:qar v107 ((w.heap.size+1)) ZDv ZDv:=(qaa bT j108 S2)
   obtain⟨u115,h116,bTu115,h116_b,h116_f,h116_l,h116_m⟩:=qaj u115_b ZDv ZDv
   have h116_t:=qar.there u115_b
   replace h116:v107.setCells ((w.heap.size+1)) 0 (#[.bool false,.slice none 0 0,.int .i64 0,.bool false,.slice none 0 0,.int .i64 0]:Array Value).toList=u115:=h116
   have h116_H:=Lib.hid h116
   clear h116
   have fin_:=h116_b _ _ (lz jw j108) (by omega)
   go_wp2_with (first
    | (refine wpList_store_mid rfl 32 (.tmp 6) (.tmp 28) rfl ((w.heap.size+1)) 0 #[.bool false,.slice none 0 0,.int .i64 0,.bool false,.slice none 0 0,.int .i64 0] rfl rfl h116_t (by kernel_rfl) (all_oneCell_toArray (qac ZDv ZDv)) ?_; rw [h116_H.out]))
   exact bodyPost_ret (qab Tryz.results11 _ _ (w.heap.size+1) 32 #[.bool false,.slice none 0 0,.int .i64 0,.bool false,.slice none 0 0,.int .i64 0] (0,0) _ (.int .i64 2) rfl rfl bTu115 Tryz.underlying32 rfl (by kernel_rfl)) rfl ⟨ZDv,ZDv,rfl,isZ,isZ,fin_,qf8 _ _ _,qf8 _ _ _⟩
 by_cases q3:64 < k
 . have he:=HH.out
   rw [ql6 HM.out ((.inr (.inr (.inr q3))))] at he
   injection he with he1 he2
   injection he2 with he2 he3
   subst he1 he2 he3
   clear HH
   have u117_b:qar v107 ((w.heap.size+1)) ZDv ZDv:=(qaa bT j108 S2)
   obtain⟨u117,h118,bTu117,h118_b,h118_f,h118_l,h118_m⟩:=qaj u117_b ZDv ZDv
   have h118_t:=qar.there u117_b
   replace h118:v107.setCells ((w.heap.size+1)) 0 (#[.bool false,.slice none 0 0,.int .i64 0,.bool false,.slice none 0 0,.int .i64 0]:Array Value).toList=u117:=h118
   have h118_H:=Lib.hid h118
   clear h118
   have fin_:=h118_b _ _ (lz jw j108) (by omega)
   go_wp2_with (first
    | (refine wpList_store_mid rfl 32 (.tmp 6) (.tmp 28) rfl ((w.heap.size+1)) 0 #[.bool false,.slice none 0 0,.int .i64 0,.bool false,.slice none 0 0,.int .i64 0] rfl rfl h118_t (by kernel_rfl) (all_oneCell_toArray (qac ZDv ZDv)) ?_; rw [h118_H.out]))
   exact bodyPost_ret (qab Tryz.results11 _ _ (w.heap.size+1) 32 #[.bool false,.slice none 0 0,.int .i64 0,.bool false,.slice none 0 0,.int .i64 0] (0,0) _ (.int .i64 2) rfl rfl bTu117 Tryz.underlying32 rfl (by kernel_rfl)) rfl ⟨ZDv,ZDv,rfl,isZ,isZ,fin_,qf8 _ _ _,qf8 _ _ _⟩
 replace HH:=Lib.hid (show qcr p kind k=(lo,hi,code) by have h:=HH.out; rw [q0v HM.out (by omega) (by omega)] at h; exact h)
 have rP:=PBox.range (qaa bP j108 SP)
 go_wp2_with (first
  | (refine wpList_load_mid rfl 30 (.tmp 3) rfl (w.heap.size) 0 rfl [.bool p.M.S.s,.slice p.M.S.A p.M.S.n p.M.S.c,.int .i64 p.M.S.e,.bool p.M.W.s,.slice p.M.W.A p.M.W.n p.M.W.c,.int .i64 p.M.W.e,.bool p.M.C.s,.slice p.M.C.A p.M.C.n p.M.C.c,.int .i64 p.M.C.e,.bool p.M.A.s,.slice p.M.A.A p.M.A.n p.M.A.c,.int .i64 p.M.A.e,.bool p.h,.int .i64 p.mn,.int .i64 p.mx,.slice p.A p.n p.c] _ rP Tryz.underlying30 rfl (by kernel_rfl) ?_))
 refine (qtb v107 p (PRows.on hR (lz jw j108)) (qbs hT (lz jw j108)) kind k HM.out (by omega) (by omega) lo hi code HH.out).mono ?_
 rintro e' v119 ⟨X,Y,rfl,iX,iY,j120,eX,eY⟩
 try clear hw
 replace iX:=Lib.hid iX
 replace iY:=Lib.hid iY
 clear rP
 obtain⟨u121,h124,bN,j122,s123⟩:=qes v119 X Y
 have s8:w2.heap.size<=v107.heap.size:=Below.size j108
 have eX_:qbr u121 w2.heap.size u121.heap.size X:=qae.more (qae.below eX j122 (Nat.le_refl _)) s8 (Below.size j122)
 have eY_:qbr u121 w2.heap.size u121.heap.size Y:=qae.more (qae.below eY j122 (Nat.le_refl _)) s8 (Below.size j122)
 have rN:=qar.range bN
 have u125_b:qar u121 ((w.heap.size+1)) ZDv ZDv:=(qaa bT (lz j108 (lz j120 j122)) S2)
 obtain⟨u125,h126,bTu125,h126_b,h126_f,h126_l,h126_m⟩:=qaj u125_b X Y
 have h126_t:=qar.there u125_b
 replace h126:u121.setCells ((w.heap.size+1)) 0 (#[.bool X.s,.slice X.A X.n X.c,.int .i64 X.e,.bool Y.s,.slice Y.A Y.n Y.c,.int .i64 Y.e]:Array Value).toList=u125:=h126
 have h126_H:=Lib.hid h126
 clear h126
 have fin_:=h126_b _ _ (lz jw (lz j108 (lz j120 j122))) (by omega)
 go_wp2_with (first
  | (refine qai rfl 32 (.tmp 8) (.tmp 34) rfl _ #[.bool X.s,.slice X.A X.n X.c,.int .i64 X.e,.bool Y.s,.slice Y.A Y.n Y.c,.int .i64 Y.e] rfl rfl (by kernel_rfl) rfl (all_oneCell_toArray (qac X Y)) ?_; rw [h124])
  | (refine wpList_load_mid rfl 32 (.tmp 8) rfl (v119.heap.size) 0 rfl [.bool X.s,.slice X.A X.n X.c,.int .i64 X.e,.bool Y.s,.slice Y.A Y.n Y.c,.int .i64 Y.e] _ rN Tryz.underlying32 rfl (by kernel_rfl) ?_)
  | (refine wpList_store_mid rfl 32 (.tmp 6) (.tmp 36) rfl ((w.heap.size+1)) 0 #[.bool X.s,.slice X.A X.n X.c,.int .i64 X.e,.bool Y.s,.slice Y.A Y.n Y.c,.int .i64 Y.e] rfl rfl h126_t (by kernel_rfl) (all_oneCell_toArray (qac X Y)) ?_; rw [h126_H.out]))
 exact bodyPost_ret (qab Tryz.results11 _ _ (w.heap.size+1) 32 #[.bool X.s,.slice X.A X.n X.c,.int .i64 X.e,.bool Y.s,.slice Y.A Y.n Y.c,.int .i64 Y.e] (0,0) _ (.int .i64 code) rfl rfl bTu125 Tryz.underlying32 rfl (by kernel_rfl)) rfl ⟨X,Y,rfl,iX.out,iY.out,fin_,(qaq eX_ (w':=u125) (fun b h1 h2=>h126_f b (by omega))).more (by omega) (by omega),(qaq eY_ (w':=u125) (fun b h1 h2=>h126_f b (by omega))).more (by omega) (by omega)⟩
theorem qn8{p q:Pv}(h:qbv p q):qbf q p=true:=by
 unfold qbf qhe
 rw [qmm h.1,h.2.1,h.2.2.1,h.2.2.2.1,h.2.2.2.2.2,Pa.Sm_refl]
 simp
theorem qqk{p q:Pv}(h:qbv p q):qd6 q=qd6 p:=by
 have hs:∀ {a b:Pv},qbv a b->a.M.share->b.M.share:=fun {a b} h hs=>by
  obtain⟨s0,s1,s2⟩:=hs
  have w1:=h.1 1 (by decide)
  have w0:=h.1 0 (by decide)
  refine⟨fun x hx=>?_,?_,?_⟩
  . have hm:=s0 x hx
    obtain⟨a1,a2,a3,a4,_⟩:=h.1 x hx
    unfold Dv.may at hm ⊢
    rw [a1,a3,a4]
    exact hm
  . exact w1.1.trans s1
  intro h0
  exact w0.2.1.trans (s2 (w1.2.1.symm.trans h0))
 have hb:qkg [q.M]=qkg [p.M]:=by
  by_cases hp:p.M.share
  . rw [qdf.2 hp,qdf.2 (hs h hp)]
  have hq:¬ q.M.share:=fun hq=>by
   obtain⟨s0,s1,s2⟩:=hq
   have w1:=h.1 1 (by decide)
   have w0:=h.1 0 (by decide)
   refine hp ⟨fun x hx=>?_,?_,?_⟩
   . have hm:=s0 x hx
     obtain⟨a1,a2,a3,a4,_⟩:=h.1 x hx
     unfold Dv.may at hm ⊢
     rw [a1,a3,a4] at hm
     exact hm
   . exact w1.1.symm.trans s1
   intro h0
   exact w0.2.1.symm.trans (s2 (w1.2.1.trans h0))
  have e1:qkg [p.M]=true:=by
   cases e:qkg [p.M]
   . exact absurd (qdf.1 e) hp
   rfl
  have e2:qkg [q.M]=true:=by
   cases e:qkg [q.M]
   . exact absurd (qdf.1 e) hq
   rfl
  rw [e1,e2]
 unfold qd6
 rw [hb,h.2.1,h.2.2.1,h.2.2.2.1,h.2.2.2.2.2]
theorem qhw{d d':Dv}(h:qet d d'):qcg d'=qcg d:=by
 unfold qcg
 rw [h.1,h.2.1]
theorem qhi{a a' b b':Dv}(h:qet a a')(k:qet b b')(n:Int):qb4 a' b' n=qb4 a b n:=by
 unfold qb4
 rw [qhw k,h.1,h.2.2.1,h.2.2.2.1,k.1,k.2.2.1,k.2.2.2.1]
theorem qsy{a a':Dv}(h:qet a a'):qeb a'=qeb a:=by
 unfold qeb
 rw [qhw h,h.1,h.2.2.1,h.2.2.2.1]
theorem qrg(d:Dv)(h:d.n<=d.c):qet d d:=⟨rfl,rfl,rfl,rfl,h⟩
theorem qjy{p q:Pv}(h:qbv p q)(kind k:Int):ql7 q kind k=ql7 p kind k:=by
 have h0:=h.1 0 (by decide)
 have h1:=h.1 1 (by decide)
 have h2:=h.1 2 (by decide)
 have h3:=h.1 3 (by decide)
 simp only [Mv.get] at h0 h1 h2 h3
 unfold ql7
 rw [qqk h]
 congr 2
 unfold qcr
 rw [qsy h2,qhi h3 h2,qhi h0 h1,h.2.1,h.2.2.1,h.2.2.2.1,h.2.2.2.2.2]
 have he:qf3 q.M k=qf3 p.M k:=by
  unfold qf3
  rw [qhw h1,qhi h3 (qrg _ (Nat.le_refl _))]
 rw [he]
theorem qpv{s1:Bool}{xs1:List Int}{e1:Int}{s2:Bool}{xs2:List Int}{e2 k:Int}{away:Bool}:(toX s1 xs1 e1 s2 xs2 e2 k away).1.May:=qzp (x:=(toX s1 xs1 e1 s2 xs2 e2 k away).1) (c:=(toX s1 xs1 e1 s2 xs2 e2 k away).2) rfl
theorem qhj{a b:Dv}{k:Int}{x y:Dn}{c:Int}(h:qb4 a b k=(x,y,c)):x.May/\y.May:=by
 unfold qb4 at h
 split at h
 . injection h with h1 h2
   injection h2 with h2 h3
   subst h1 h2
   exact⟨qb8,qb8⟩
 split at h
 . injection h with h1 h2
   injection h2 with h2 h3
   subst h1 h2
   exact⟨qb8,qb8⟩
 split at h
 . injection h with h1 h2
   injection h2 with h2 h3
   subst h1 h2
   exact⟨qb8,qb8⟩
 injection h with h1 h2
 injection h2 with h2 h3
 subst h1 h2
 exact⟨qpv,qpv⟩
theorem qym{p:Pv}{kind k:Int}{x y:Dn}{c:Int}(h:ql7 p kind k=(x,y,c)):x.May/\y.May:=by
 have z:∀ {c':Int},((Dn.zero,Dn.zero,c'):Dn×Dn×Int)=(x,y,c)->x.May/\y.May:=fun h=>by
  injection h with h1 h2
  injection h2 with h2 h3
  subst h1 h2
  exact⟨qb8,qb8⟩
 unfold ql7 at h
 split at h
 . exact z h
 rename_i hm
 obtain⟨e1,e2,e3⟩:=qc1 (p:=p) (by simpa using hm)
 split at h
 . exact z h
 unfold qcr at h
 split at h
 . unfold qeb at h
   split at h
   . exact z h
   split at h
   . injection h with h1 h2
     injection h2 with h2 h3
     subst h1 h2
     have hm:=qi8 (x:=(qf2 false (qaf 4294967296 1) 0 p.M.C.s p.M.C.xs p.M.C.e).1) (c:=(qf2 false (qaf 4294967296 1) 0 p.M.C.s p.M.C.xs p.M.C.e).2) rfl
     exact⟨hm,hm⟩
   exact z h
 split at h
 . exact qhj h
 split at h
 . exact qhj h
 split at h
 . unfold qf3 at h
   split at h
   . exact z h
   exact qhj h
 split at h
 . unfold qjj at h
   split at h
   . exact z h
   injection h with h1 h2
   injection h2 with h2 h3
   subst h1 h2
   exact⟨qgb e1.1 e1.2,qgb e2.1 e2.2⟩
 split at h
 . unfold qe2 at h
   split at h
   . exact z h
   injection h with h1 h2
   injection h2 with h2 h3
   subst h1 h2
   exact⟨qis _,qis _⟩
 exact z h
theorem qh3{w w':World}{lo hi l h:Nat}{p:Pv}(hI:PRows w l h p)(hb:Below lo w w')(hf:qwu hi w w')(hs:h<=w.heap.size)(hd:h<=lo∨hi<=l):PRows w' l h p :=
 ⟨qoh hI.M hb hf hs hd,qcs hI.L hb hf hs hd⟩
end Ma
end Go.Proofs.YtmbppgjhdcmckaaGreatDoor
namespace Go.Proofs.YtmbppgjhdcmckaaGreatDoor
open Go.RowKit
namespace No
open Ma
open Dp Dy
noncomputable def qdk(v:Nv)(e:Int):Int:=if qir v=false then 8 else if v.up=false then 14 else if ((e==v.ke) && decide (v.kf<=e))=true then 0 else qn4 v.fn v.fs e
noncomputable def qc7(v:Nv)(e:Int):Pv:=if qdk v e=0 then (if ((e==v.ke) && decide (v.kf<=e))=true then v.P else qmg 0 v.fs e) else ZPv
theorem qcq{v:Nv}{e k:Int}(h:qdk v e=k)(hk:k≠0):qc7 v e=ZPv:=by unfold qc7; rw [if_neg (by rw [h]; exact hk)]
theorem qvb(k:Int)(fs:List Fv)(z:Int):qmg k fs z=if k=0 then qmg 0 fs z else ZPv:=by
 by_cases h:k=0
 . rw [if_pos h,h]
 rw [if_neg h]; unfold qmg; rw [if_neg h]
theorem qmw(w:World)(v:Nv)(hR:NRows w 0 w.heap.size v)(hg:qbi v.P=false)(hf:qch v.fn v.fs=false)(e k:Int)(hk:qdk v e=k) :
  Calls Tryz.prog 20 #[.agg #[.int .i64 v.id,.int .i64 v.val,.bool v.up,.int .i64 v.kl,.int .i64 v.kt,.int .i64 v.ks,.int .i64 v.ke,.int .i64 v.kf,.bool v.P.M.S.s,.slice v.P.M.S.A v.P.M.S.n v.P.M.S.c,.int .i64 v.P.M.S.e,.bool v.P.M.W.s,.slice v.P.M.W.A v.P.M.W.n v.P.M.W.c,.int .i64 v.P.M.W.e,.bool v.P.M.C.s,.slice v.P.M.C.A v.P.M.C.n v.P.M.C.c,.int .i64 v.P.M.C.e,.bool v.P.M.A.s,.slice v.P.M.A.A v.P.M.A.n v.P.M.A.c,.int .i64 v.P.M.A.e,.bool v.P.h,.int .i64 v.P.mn,.int .i64 v.P.mx,.slice v.P.A v.P.n v.P.c,.bool v.wo,.int .i64 v.wn,.int .i64 v.wt,.slice v.hA v.hn v.hc,.int .i64 v.own,.int .i64 v.cap,.slice v.dA v.dn v.dc,.slice v.fA v.fn v.fc,.slice v.tA v.tn v.tc],.int .i64 e] w fun e_ w'=>∃ q:Pv,e_=.returned (.tuple #[.agg #[.bool q.M.S.s,.slice q.M.S.A q.M.S.n q.M.S.c,.int .i64 q.M.S.e,.bool q.M.W.s,.slice q.M.W.A q.M.W.n q.M.W.c,.int .i64 q.M.W.e,.bool q.M.C.s,.slice q.M.C.A q.M.C.n q.M.C.c,.int .i64 q.M.C.e,.bool q.M.A.s,.slice q.M.A.A q.M.A.n q.M.A.c,.int .i64 q.M.A.e,.bool q.h,.int .i64 q.mn,.int .i64 q.mx,.slice q.A q.n q.c],.int .i64 k])/\qbv (qc7 v e) q/\Below w.heap.size w w'/\PRows w' w.heap.size w'.heap.size q:=by
 obtain⟨w1,hw1,bN,ja,S1⟩:=qb7 63 w v
 obtain⟨w2,hw2,bZ,jb,S2⟩:=qg6 w1
 have hs:=Lib.hid (qfe hR.F hf)
 have hs2:=Lib.hid (qd4 hR.P hg)
 have lw1:=ja.size
 have lw2:=jb.size
 have HK:=Lib.hid hk
 clear hk hg hf
 obtain⟨m,hm⟩:∃ m,qir v=m:=⟨_,rfl⟩
 have HM:=Lib.hid hm
 clear hm
 go_enter Tryz.func20,Tryz.ntmps20
 go_upto_region 1 with fail
 try rw [hw1]
 try rw [hw2]
 try clear hw1
 try clear hw2
 have rN:=qak.range (qaa bN jb S1)
 go_wp2_with (first | (refine wpList_load_mid rfl 63 (.tmp 2) rfl w.heap.size 0 rfl (cells33 v) _ rN Tryz.underlying63 rfl (by kernel_rfl) ?_; simp only [cells33]))
 refine (qr4 w2 v (NRows.on hR (lz ja jb)) m HM.out).mono ?_
 rintro e' v1 ⟨rfl,j2⟩
 try clear hw
 clear rN
 cases m
 case false =>
  obtain rfl:k=8:=by rw [<-HK.out]; unfold qdk; rw [if_pos HM.out]
  have bz_:PBox v1 (w1.heap.size) ZPv:=(qaa bZ j2 S2)
  obtain⟨U_,hU_,bU_,hb_,hf_,l5_,l5'_⟩:=qax bz_ ZPv
  have th_:=bz_.there
  replace hU_:v1.setCells (w1.heap.size) 0 (#[.bool false,.slice none 0 0,.int .i64 0,.bool false,.slice none 0 0,.int .i64 0,.bool false,.slice none 0 0,.int .i64 0,.bool false,.slice none 0 0,.int .i64 0,.bool false,.int .i64 0,.int .i64 0,.slice none 0 0]:Array Value).toList=U_:=hU_
  have HU_:=Lib.hid hU_
  clear hU_
  have fin_:=hb_ _ _ (lz ja (lz jb j2)) (by omega)
  go_wp2_with (first | (refine wpList_store_mid rfl 30 (.tmp 4) (.tmp 11) rfl (w1.heap.size) 0 #[.bool false,.slice none 0 0,.int .i64 0,.bool false,.slice none 0 0,.int .i64 0,.bool false,.slice none 0 0,.int .i64 0,.bool false,.slice none 0 0,.int .i64 0,.bool false,.int .i64 0,.int .i64 0,.slice none 0 0] rfl rfl th_ (by kernel_rfl) (all_oneCell_toArray (qal ZPv)) ?_; rw [HU_.out]))
  obtain⟨Z_,hZ_⟩:∃ q:Pv,q=ZPv:=⟨_,rfl⟩
  rw [<-hZ_] at bU_
  exact bodyPost_ret (qab Tryz.results20 _ _ (w1.heap.size) 30 #[.bool Z_.M.S.s,.slice Z_.M.S.A Z_.M.S.n Z_.M.S.c,.int .i64 Z_.M.S.e,.bool Z_.M.W.s,.slice Z_.M.W.A Z_.M.W.n Z_.M.W.c,.int .i64 Z_.M.W.e,.bool Z_.M.C.s,.slice Z_.M.C.A Z_.M.C.n Z_.M.C.c,.int .i64 Z_.M.C.e,.bool Z_.M.A.s,.slice Z_.M.A.A Z_.M.A.n Z_.M.A.c,.int .i64 Z_.M.A.e,.bool Z_.h,.int .i64 Z_.mn,.int .i64 Z_.mx,.slice Z_.A Z_.n Z_.c] (0,0) _ (.int .i64 8) rfl rfl bU_ Tryz.underlying30 rfl (by kernel_rfl)) rfl ⟨Z_,rfl,by rw [hZ_,qcq HK.out (by decide)]; exact qhc,fin_,by rw [hZ_]; exact qie _ _ _⟩
 have ho:=Lib.hid (show v.up=v.up from rfl)
 obtain⟨c,hc⟩:∃ c,v.up=c:=⟨_,rfl⟩
 have c2:v1.cell? ⟨w.heap.size,2,none⟩=some (.bool c):=(qak.at_ (qaa bN (lz jb j2) S1) 2 _ rfl).trans (by rw [hc])
 have HC:=Lib.hid hc
 clear hc ho
 cases c
 case false =>
  obtain rfl:k=14:=by rw [<-HK.out]; unfold qdk; rw [if_neg (by rw [HM.out]; decide),if_pos HC.out]
  have bz_:PBox v1 (w1.heap.size) ZPv:=(qaa bZ j2 S2)
  obtain⟨U_,hU_,bU_,hb_,hf_,l5_,l5'_⟩:=qax bz_ ZPv
  have th_:=bz_.there
  replace hU_:v1.setCells (w1.heap.size) 0 (#[.bool false,.slice none 0 0,.int .i64 0,.bool false,.slice none 0 0,.int .i64 0,.bool false,.slice none 0 0,.int .i64 0,.bool false,.slice none 0 0,.int .i64 0,.bool false,.int .i64 0,.int .i64 0,.slice none 0 0]:Array Value).toList=U_:=hU_
  have HU_:=Lib.hid hU_
  clear hU_
  have fin_:=hb_ _ _ (lz ja (lz jb j2)) (by omega)
  go_wp2_with (first | (refine wpList_store_mid rfl 30 (.tmp 4) (.tmp 16) rfl (w1.heap.size) 0 #[.bool false,.slice none 0 0,.int .i64 0,.bool false,.slice none 0 0,.int .i64 0,.bool false,.slice none 0 0,.int .i64 0,.bool false,.slice none 0 0,.int .i64 0,.bool false,.int .i64 0,.int .i64 0,.slice none 0 0] rfl rfl th_ (by kernel_rfl) (all_oneCell_toArray (qal ZPv)) ?_; rw [HU_.out]))
  obtain⟨Z_,hZ_⟩:∃ q:Pv,q=ZPv:=⟨_,rfl⟩
  rw [<-hZ_] at bU_
  exact bodyPost_ret (qab Tryz.results20 _ _ (w1.heap.size) 30 #[.bool Z_.M.S.s,.slice Z_.M.S.A Z_.M.S.n Z_.M.S.c,.int .i64 Z_.M.S.e,.bool Z_.M.W.s,.slice Z_.M.W.A Z_.M.W.n Z_.M.W.c,.int .i64 Z_.M.W.e,.bool Z_.M.C.s,.slice Z_.M.C.A Z_.M.C.n Z_.M.C.c,.int .i64 Z_.M.C.e,.bool Z_.M.A.s,.slice Z_.M.A.A Z_.M.A.n Z_.M.A.c,.int .i64 Z_.M.A.e,.bool Z_.h,.int .i64 Z_.mn,.int .i64 Z_.mx,.slice Z_.A Z_.n Z_.c] (0,0) _ (.int .i64 14) rfl rfl bU_ Tryz.underlying30 rfl (by kernel_rfl)) rfl ⟨Z_,rfl,by rw [hZ_,qcq HK.out (by decide)]; exact qhc,fin_,by rw [hZ_]; exact qie _ _ _⟩
 obtain⟨b1,hb1⟩:∃ b,(e==v.ke)=b:=⟨_,rfl⟩
 obtain⟨b2,hb2⟩:∃ b,decide (v.kf<=e)=b:=⟨_,rfl⟩
 have HB1:=Lib.hid hb1
 have HB2:=Lib.hid hb2
 have c6:v1.cell? ⟨w.heap.size,6,none⟩=some (.int .i64 v.ke):=qak.at_ (qaa bN (lz jb j2) S1) 6 _ rfl
 have c7:v1.cell? ⟨w.heap.size,7,none⟩=some (.int .i64 v.kf):=qak.at_ (qaa bN (lz jb j2) S1) 7 _ rfl
 cases b1
 case false =>
  have hcn:Hid (¬((e==v.ke) && decide (v.kf<=e))=true):=Lib.hid (by rw [HB1.out]; simp)
  have HG:Hid (qn4 v.fn v.fs e=k):=Lib.hid (by rw [<-HK.out]; unfold qdk; rw [if_neg (by rw [HM.out]; decide),if_neg (by rw [HC.out]; decide),if_neg hcn.out])
  have HV:Hid (qc7 v e=qmg k v.fs e):=Lib.hid (by unfold qc7; rw [qvb k,HK.out,if_neg hcn.out])
  have c31:v1.cell? ⟨w.heap.size,31,none⟩=some (.slice v.fA v.fn v.fc):=qak.at_ (qaa bN (lz jb j2) S1) 31 _ rfl
  go_wp2_with fail
  refine (qwp v1 v.fA v.fn v.fc v.fs (NRows.on hR (lz ja (lz jb j2))).F e hs.out k HG.out).mono ?_
  rintro e' v3 ⟨q,rfl,tq,j4,Rq⟩
  try clear hw
  replace tq:=Lib.hid tq
  clear hb1 hb2 c6 c7 c31 c2
  have bz_:PBox v3 (w1.heap.size) ZPv:=(qaa bZ (lz j2 j4) S2)
  obtain⟨U_,hU_,bU_,hb_,hf_,l5_,l5'_⟩:=qax bz_ q
  have th_:=bz_.there
  replace hU_:v3.setCells (w1.heap.size) 0 (#[.bool q.M.S.s,.slice q.M.S.A q.M.S.n q.M.S.c,.int .i64 q.M.S.e,.bool q.M.W.s,.slice q.M.W.A q.M.W.n q.M.W.c,.int .i64 q.M.W.e,.bool q.M.C.s,.slice q.M.C.A q.M.C.n q.M.C.c,.int .i64 q.M.C.e,.bool q.M.A.s,.slice q.M.A.A q.M.A.n q.M.A.c,.int .i64 q.M.A.e,.bool q.h,.int .i64 q.mn,.int .i64 q.mx,.slice q.A q.n q.c]:Array Value).toList=U_:=hU_
  have HU_:=Lib.hid hU_
  clear hU_
  have fin_:=hb_ _ _ (lz ja (lz jb (lz j2 j4))) (by omega)
  have sz_:=Below.size (lz ja (lz jb j2))
  have szB_:=Below.size j2
  have Rq2:=(qbp Rq (qcj Rq (.inl (by omega))) hf_).more (lo':=w.heap.size) (hi':=U_.heap.size) (by omega) (by omega)
  have tg:qbv (qc7 v e) q:=by rw [HV.out]; exact tq.out
  go_wp2_with (first | (refine wpList_store_mid rfl 30 (.tmp 4) (.tmp 36) rfl (w1.heap.size) 0 #[.bool q.M.S.s,.slice q.M.S.A q.M.S.n q.M.S.c,.int .i64 q.M.S.e,.bool q.M.W.s,.slice q.M.W.A q.M.W.n q.M.W.c,.int .i64 q.M.W.e,.bool q.M.C.s,.slice q.M.C.A q.M.C.n q.M.C.c,.int .i64 q.M.C.e,.bool q.M.A.s,.slice q.M.A.A q.M.A.n q.M.A.c,.int .i64 q.M.A.e,.bool q.h,.int .i64 q.mn,.int .i64 q.mx,.slice q.A q.n q.c] rfl rfl th_ (by kernel_rfl) (all_oneCell_toArray (qal q)) ?_; rw [HU_.out]))
  exact bodyPost_ret (qab Tryz.results20 _ _ (w1.heap.size) 30 #[.bool q.M.S.s,.slice q.M.S.A q.M.S.n q.M.S.c,.int .i64 q.M.S.e,.bool q.M.W.s,.slice q.M.W.A q.M.W.n q.M.W.c,.int .i64 q.M.W.e,.bool q.M.C.s,.slice q.M.C.A q.M.C.n q.M.C.c,.int .i64 q.M.C.e,.bool q.M.A.s,.slice q.M.A.A q.M.A.n q.M.A.c,.int .i64 q.M.A.e,.bool q.h,.int .i64 q.mn,.int .i64 q.mx,.slice q.A q.n q.c] (0,0) _ (.int .i64 k) rfl rfl bU_ Tryz.underlying30 rfl (by kernel_rfl)) rfl ⟨q,rfl,tg,fin_,Rq2⟩
 cases b2
 case false =>
  have hcn:Hid (¬((e==v.ke) && decide (v.kf<=e))=true):=Lib.hid (by rw [HB1.out,HB2.out]; simp)
  have HG:Hid (qn4 v.fn v.fs e=k):=Lib.hid (by rw [<-HK.out]; unfold qdk; rw [if_neg (by rw [HM.out]; decide),if_neg (by rw [HC.out]; decide),if_neg hcn.out])
  have HV:Hid (qc7 v e=qmg k v.fs e):=Lib.hid (by unfold qc7; rw [qvb k,HK.out,if_neg hcn.out])
  have c31:v1.cell? ⟨w.heap.size,31,none⟩=some (.slice v.fA v.fn v.fc):=qak.at_ (qaa bN (lz jb j2) S1) 31 _ rfl
  go_wp2_with fail
  refine (qwp v1 v.fA v.fn v.fc v.fs (NRows.on hR (lz ja (lz jb j2))).F e hs.out k HG.out).mono ?_
  rintro e' v5 ⟨q,rfl,tq,j6,Rq⟩
  try clear hw
  replace tq:=Lib.hid tq
  clear hb1 hb2 c6 c7 c31 c2
  have bz_:PBox v5 (w1.heap.size) ZPv:=(qaa bZ (lz j2 j6) S2)
  obtain⟨U_,hU_,bU_,hb_,hf_,l5_,l5'_⟩:=qax bz_ q
  have th_:=bz_.there
  replace hU_:v5.setCells (w1.heap.size) 0 (#[.bool q.M.S.s,.slice q.M.S.A q.M.S.n q.M.S.c,.int .i64 q.M.S.e,.bool q.M.W.s,.slice q.M.W.A q.M.W.n q.M.W.c,.int .i64 q.M.W.e,.bool q.M.C.s,.slice q.M.C.A q.M.C.n q.M.C.c,.int .i64 q.M.C.e,.bool q.M.A.s,.slice q.M.A.A q.M.A.n q.M.A.c,.int .i64 q.M.A.e,.bool q.h,.int .i64 q.mn,.int .i64 q.mx,.slice q.A q.n q.c]:Array Value).toList=U_:=hU_
  have HU_:=Lib.hid hU_
  clear hU_
  have fin_:=hb_ _ _ (lz ja (lz jb (lz j2 j6))) (by omega)
  have sz_:=Below.size (lz ja (lz jb j2))
  have szB_:=Below.size j2
  have Rq2:=(qbp Rq (qcj Rq (.inl (by omega))) hf_).more (lo':=w.heap.size) (hi':=U_.heap.size) (by omega) (by omega)
  have tg:qbv (qc7 v e) q:=by rw [HV.out]; exact tq.out
  go_wp2_with (first | (refine wpList_store_mid rfl 30 (.tmp 4) (.tmp 36) rfl (w1.heap.size) 0 #[.bool q.M.S.s,.slice q.M.S.A q.M.S.n q.M.S.c,.int .i64 q.M.S.e,.bool q.M.W.s,.slice q.M.W.A q.M.W.n q.M.W.c,.int .i64 q.M.W.e,.bool q.M.C.s,.slice q.M.C.A q.M.C.n q.M.C.c,.int .i64 q.M.C.e,.bool q.M.A.s,.slice q.M.A.A q.M.A.n q.M.A.c,.int .i64 q.M.A.e,.bool q.h,.int .i64 q.mn,.int .i64 q.mx,.slice q.A q.n q.c] rfl rfl th_ (by kernel_rfl) (all_oneCell_toArray (qal q)) ?_; rw [HU_.out]))
  exact bodyPost_ret (qab Tryz.results20 _ _ (w1.heap.size) 30 #[.bool q.M.S.s,.slice q.M.S.A q.M.S.n q.M.S.c,.int .i64 q.M.S.e,.bool q.M.W.s,.slice q.M.W.A q.M.W.n q.M.W.c,.int .i64 q.M.W.e,.bool q.M.C.s,.slice q.M.C.A q.M.C.n q.M.C.c,.int .i64 q.M.C.e,.bool q.M.A.s,.slice q.M.A.A q.M.A.n q.M.A.c,.int .i64 q.M.A.e,.bool q.h,.int .i64 q.mn,.int .i64 q.mx,.slice q.A q.n q.c] (0,0) _ (.int .i64 k) rfl rfl bU_ Tryz.underlying30 rfl (by kernel_rfl)) rfl ⟨q,rfl,tg,fin_,Rq2⟩
 obtain rfl:k=0:=by rw [<-HK.out]; unfold qdk; rw [if_neg (by rw [HM.out]; decide),if_neg (by rw [HC.out]; decide),if_pos (by rw [HB1.out,HB2.out]; rfl)]
 have HV:Hid (qc7 v e=v.P):=Lib.hid (by unfold qc7; rw [if_pos HK.out,if_pos (by rw [HB1.out,HB2.out]; rfl)])
 have ra:=qak.part (qaa bN (lz jb j2) S1)
 go_wp2_with (first
  | (refine wpList_load_mid rfl 30 (.tmp 29) rfl (w.heap.size) 8 rfl [.bool v.P.M.S.s,.slice v.P.M.S.A v.P.M.S.n v.P.M.S.c,.int .i64 v.P.M.S.e,.bool v.P.M.W.s,.slice v.P.M.W.A v.P.M.W.n v.P.M.W.c,.int .i64 v.P.M.W.e,.bool v.P.M.C.s,.slice v.P.M.C.A v.P.M.C.n v.P.M.C.c,.int .i64 v.P.M.C.e,.bool v.P.M.A.s,.slice v.P.M.A.A v.P.M.A.n v.P.M.A.c,.int .i64 v.P.M.A.e,.bool v.P.h,.int .i64 v.P.mn,.int .i64 v.P.mx,.slice v.P.A v.P.n v.P.c] _ ra Tryz.underlying30 rfl (by kernel_rfl) ?_))
 refine (qia v1 v.P (NRows.on hR (lz ja (lz jb j2))).P hs2.out.1 hs2.out.2).mono ?_
 rintro e' v7 ⟨q,rfl,tq,j8,Rq⟩
 try clear hw
 replace tq:=Lib.hid tq
 clear hb1 hb2 ra c6 c7 c2
 have bz_:PBox v7 (w1.heap.size) ZPv:=(qaa bZ (lz j2 j8) S2)
 obtain⟨U_,hU_,bU_,hb_,hf_,l5_,l5'_⟩:=qax bz_ q
 have th_:=bz_.there
 replace hU_:v7.setCells (w1.heap.size) 0 (#[.bool q.M.S.s,.slice q.M.S.A q.M.S.n q.M.S.c,.int .i64 q.M.S.e,.bool q.M.W.s,.slice q.M.W.A q.M.W.n q.M.W.c,.int .i64 q.M.W.e,.bool q.M.C.s,.slice q.M.C.A q.M.C.n q.M.C.c,.int .i64 q.M.C.e,.bool q.M.A.s,.slice q.M.A.A q.M.A.n q.M.A.c,.int .i64 q.M.A.e,.bool q.h,.int .i64 q.mn,.int .i64 q.mx,.slice q.A q.n q.c]:Array Value).toList=U_:=hU_
 have HU_:=Lib.hid hU_
 clear hU_
 have fin_:=hb_ _ _ (lz ja (lz jb (lz j2 j8))) (by omega)
 have sz_:=Below.size (lz ja (lz jb j2))
 have szB_:=Below.size j2
 have Rq2:=(qbp Rq (qcj Rq (.inl (by omega))) hf_).more (lo':=w.heap.size) (hi':=U_.heap.size) (by omega) (by omega)
 have tg:qbv (qc7 v e) q:=by rw [HV.out]; exact tq.out
 go_wp2_with (first | (refine wpList_store_mid rfl 30 (.tmp 4) (.tmp 31) rfl (w1.heap.size) 0 #[.bool q.M.S.s,.slice q.M.S.A q.M.S.n q.M.S.c,.int .i64 q.M.S.e,.bool q.M.W.s,.slice q.M.W.A q.M.W.n q.M.W.c,.int .i64 q.M.W.e,.bool q.M.C.s,.slice q.M.C.A q.M.C.n q.M.C.c,.int .i64 q.M.C.e,.bool q.M.A.s,.slice q.M.A.A q.M.A.n q.M.A.c,.int .i64 q.M.A.e,.bool q.h,.int .i64 q.mn,.int .i64 q.mx,.slice q.A q.n q.c] rfl rfl th_ (by kernel_rfl) (all_oneCell_toArray (qal q)) ?_; rw [HU_.out]))
 exact bodyPost_ret (qab Tryz.results20 _ _ (w1.heap.size) 30 #[.bool q.M.S.s,.slice q.M.S.A q.M.S.n q.M.S.c,.int .i64 q.M.S.e,.bool q.M.W.s,.slice q.M.W.A q.M.W.n q.M.W.c,.int .i64 q.M.W.e,.bool q.M.C.s,.slice q.M.C.A q.M.C.n q.M.C.c,.int .i64 q.M.C.e,.bool q.M.A.s,.slice q.M.A.A q.M.A.n q.M.A.c,.int .i64 q.M.A.e,.bool q.h,.int .i64 q.mn,.int .i64 q.mx,.slice q.A q.n q.c] (0,0) _ (.int .i64 0) rfl rfl bU_ Tryz.underlying30 rfl (by kernel_rfl)) rfl ⟨q,rfl,tg,fin_,Rq2⟩
noncomputable def qig(v:Nv)(kind e k:Int):Dn×Dn×Int:=if qdk v e=0 then ql7 (qc7 v e) kind k else (Dn.zero,Dn.zero,qdk v e)
theorem qua(w:World)(v:Nv)(hR:NRows w 0 w.heap.size v)(hT:Tab w)(hg:qbi v.P=false)(hf:qch v.fn v.fs=false)(kind e k:Int)(lo hi:Dn)(code:Int)(h:qig v kind e k=(lo,hi,code)) :
  Calls Tryz.prog 27 #[.agg #[.int .i64 v.id,.int .i64 v.val,.bool v.up,.int .i64 v.kl,.int .i64 v.kt,.int .i64 v.ks,.int .i64 v.ke,.int .i64 v.kf,.bool v.P.M.S.s,.slice v.P.M.S.A v.P.M.S.n v.P.M.S.c,.int .i64 v.P.M.S.e,.bool v.P.M.W.s,.slice v.P.M.W.A v.P.M.W.n v.P.M.W.c,.int .i64 v.P.M.W.e,.bool v.P.M.C.s,.slice v.P.M.C.A v.P.M.C.n v.P.M.C.c,.int .i64 v.P.M.C.e,.bool v.P.M.A.s,.slice v.P.M.A.A v.P.M.A.n v.P.M.A.c,.int .i64 v.P.M.A.e,.bool v.P.h,.int .i64 v.P.mn,.int .i64 v.P.mx,.slice v.P.A v.P.n v.P.c,.bool v.wo,.int .i64 v.wn,.int .i64 v.wt,.slice v.hA v.hn v.hc,.int .i64 v.own,.int .i64 v.cap,.slice v.dA v.dn v.dc,.slice v.fA v.fn v.fc,.slice v.tA v.tn v.tc],.int .u8 kind,.int .i64 e,.int .i64 k] w (qnz w lo hi code):=by
 obtain⟨w1,hw1,bN,ja,S1⟩:=qb7 63 w v
 obtain⟨w2,hw2,bT,jb,S2⟩:=qba w1
 have lw1:=ja.size
 have lw2:=jb.size
 obtain⟨c,hc⟩:∃ c,qdk v e=c:=⟨_,rfl⟩
 have HC:=Lib.hid hc
 have HH:=Lib.hid h
 clear hc h
 go_enter Tryz.func27,Tryz.ntmps27
 go_upto_region 1 with fail
 try rw [hw1]
 try rw [hw2]
 try clear hw1
 try clear hw2
 have rN:=qak.range (qaa bN jb S1)
 go_wp2_with (first | (refine wpList_load_mid rfl 63 (.tmp 4) rfl w.heap.size 0 rfl (cells33 v) _ rN Tryz.underlying63 rfl (by kernel_rfl) ?_; simp only [cells33]))
 refine (qmw w2 v (NRows.on hR (lz ja jb)) hg hf e c HC.out).mono ?_
 rintro e' v9 ⟨q,rfl,tq,j10,Rq⟩
 try clear hw
 clear rN
 replace tq:=Lib.hid tq
 replace Rq:=Rq.more (Nat.zero_le _) (Nat.le_refl _)
 obtain⟨u8,hu8,bQ,jq8,sq8⟩:=alloc_p v9 q
 go_upto_region 2 with (first
  | (refine qai rfl 30 (.tmp 10) (.tmp 16) rfl _ #[.bool q.M.S.s,.slice q.M.S.A q.M.S.n q.M.S.c,.int .i64 q.M.S.e,.bool q.M.W.s,.slice q.M.W.A q.M.W.n q.M.W.c,.int .i64 q.M.W.e,.bool q.M.C.s,.slice q.M.C.A q.M.C.n q.M.C.c,.int .i64 q.M.C.e,.bool q.M.A.s,.slice q.M.A.A q.M.A.n q.M.A.c,.int .i64 q.M.A.e,.bool q.h,.int .i64 q.mn,.int .i64 q.mx,.slice q.A q.n q.c] rfl rfl (by kernel_rfl) rfl (all_oneCell_toArray (qal q)) ?_; rw [hu8]))
 try clear hu8
 have Rq8:=PRows.on Rq jq8
 by_cases h0:c=0
 rotate_left
 . have n0:(c != 0)=true:=by simpa using h0
   have h:=HH.out
   unfold qig at h
   rw [if_neg (by rw [HC.out]; exact h0)] at h
   injection h with h1 h2
   injection h2 with h2 h3
   rw [HC.out] at h3
   subst h1 h2 h3
   clear HH HC
   have bz_:qar u8 w1.heap.size ZDv ZDv:=(qaa bT (lz j10 jq8) S2)
   obtain⟨U_,hU_,bU_,hb_,hf_,l5_,l5'_⟩:=qaj bz_ ZDv ZDv
   have th_:=qar.there bz_
   replace hU_:u8.setCells (w1.heap.size) 0 (#[.bool false,.slice none 0 0,.int .i64 0,.bool false,.slice none 0 0,.int .i64 0]:Array Value).toList=U_:=hU_
   have HU_:=Lib.hid hU_
   clear hU_
   have fin_:=hb_ _ _ (lz ja (lz jb (lz j10 jq8))) (by omega)
   go_wp2_with (first | (refine wpList_store_mid rfl 32 (.tmp 8) (.tmp 20) rfl w1.heap.size 0 #[.bool false,.slice none 0 0,.int .i64 0,.bool false,.slice none 0 0,.int .i64 0] rfl rfl th_ (by kernel_rfl) (all_oneCell_toArray (qac ZDv ZDv)) ?_; rw [HU_.out]))
   exact bodyPost_ret (qab Tryz.results27 _ _ w1.heap.size 32 #[.bool false,.slice none 0 0,.int .i64 0,.bool false,.slice none 0 0,.int .i64 0] (0,0) _ (.int .i64 c) rfl rfl bU_ Tryz.underlying32 rfl (by kernel_rfl)) rfl (qbz _ _ _ fin_)
 subst h0
 have HA:Hid (ql7 (qc7 v e) kind k=(lo,hi,code)):=Lib.hid (by have:=HH.out; unfold qig at this; rw [if_pos HC.out] at this; exact this)
 clear HH HC
 have rP:=PBox.range bQ
 go_wp2_with (first
  | (refine wpList_load_mid rfl 30 (.tmp 10) rfl (v9.heap.size) 0 rfl [.bool q.M.S.s,.slice q.M.S.A q.M.S.n q.M.S.c,.int .i64 q.M.S.e,.bool q.M.W.s,.slice q.M.W.A q.M.W.n q.M.W.c,.int .i64 q.M.W.e,.bool q.M.C.s,.slice q.M.C.A q.M.C.n q.M.C.c,.int .i64 q.M.C.e,.bool q.M.A.s,.slice q.M.A.A q.M.A.n q.M.A.c,.int .i64 q.M.A.e,.bool q.h,.int .i64 q.mn,.int .i64 q.mx,.slice q.A q.n q.c] _ rP Tryz.underlying30 rfl (by kernel_rfl) ?_))
 have bT_:qar u8 (w1.heap.size) ZDv ZDv:=(qaa bT (lz j10 jq8) S2)
 have bl_:Below w.heap.size w u8:=(lz ja (lz jb (lz j10 jq8)))
 have su8:=Below.size (lz j10 jq8)
 have su8b:=Below.size bl_
 refine (q05 u8 q Rq8 (qbs hT bl_) kind k lo hi code ((qjy tq.out kind k).trans HA.out)).mono ?_
 rintro e' u ⟨x,y,B,rfl,ix,iy,ju,l1,l2,rx,ry⟩
 clear rP
 have su:=ju.size
 have bTu:qar u (w1.heap.size) ZDv ZDv:=(ju.block _ (by omega)).trans bT_
 have bu:Below w.heap.size w u:=bl_.trans (ju.mono (by omega))
 obtain⟨U,hU,bF,hbF,hfF,g1,g1'⟩:=qaj bTu x y
 have th:=qar.there bTu
 replace hU:u.setCells (w1.heap.size) 0 (#[.bool x.s,.slice x.A x.n x.c,.int .i64 x.e,.bool y.s,.slice y.A y.n y.c,.int .i64 y.e]:Array Value).toList=U:=hU
 have HU:=Lib.hid hU
 clear hU
 go_wp2_with (first
  | (refine wpList_store_mid rfl 32 (.tmp 8) (.tmp 26) rfl (w1.heap.size) 0 #[.bool x.s,.slice x.A x.n x.c,.int .i64 x.e,.bool y.s,.slice y.A y.n y.c,.int .i64 y.e] rfl rfl th (by kernel_rfl) (all_oneCell_toArray (qac x y)) ?_; rw [HU.out]))
 have fin:=hbF _ _ bu (by omega)
 exact bodyPost_ret (qab Tryz.results27 _ _ (w1.heap.size) 32 #[.bool x.s,.slice x.A x.n x.c,.int .i64 x.e,.bool y.s,.slice y.A y.n y.c,.int .i64 y.e] (0,0) _ (.int .i64 code) rfl rfl bF Tryz.underlying32 rfl (by kernel_rfl)) rfl ⟨x,y,B,rfl,ix,iy,fin,by omega,by omega,(qaq rx (w':=U) (fun b h1 h2=>hfF b (by omega))).more (by omega) (Nat.le_refl _),(qaq ry (w':=U) (fun b h1 h2=>hfF b (by omega))).more (Nat.le_refl _) (by omega)⟩
theorem qm5{t:TypeId}{w:World}{g:Nat}{v0:Nv}(h:qak t w g v0)(v:Nv):∃ U,w.setCells g 0 (cells33 v)=U/\qak t U g v/\(∀ w0 B,Below B w0 w->B<=g->Below B w0 U)/\(∀ j,j≠g->U.heap[j]? = w.heap[j]?)/\U.heap.size<=w.heap.size/\w.heap.size<=U.heap.size:=by
 refine⟨_,rfl,?_,fun w0 B hb hg=>?_,fun j hj=>?_,?_,?_⟩
 . unfold qak at h ⊢
   simp [cells33,World.setCells,World.setCell,Array.getElem?_modify,h]
 . simp only [cells33,World.setCells]
   repeat (refine Below.setCell ?_ hg _)
   exact hb
 . have hj':¬ g=j:=fun e=>hj e.symm
   simp [cells33,World.setCells,World.setCell,Array.getElem?_modify,hj']
 . simp [cells33,World.setCells,World.setCell]
 simp [cells33,World.setCells,World.setCell]
theorem qq5(w:World):∃ U,w.alloc (.cells #[.int .i64 0,.int .i64 0,.bool false,.int .i64 0,.int .i64 0,.int .i64 0,.int .i64 0,.int .i64 0,.bool false,.slice none 0 0,.int .i64 0,.bool false,.slice none 0 0,.int .i64 0,.bool false,.slice none 0 0,.int .i64 0,.bool false,.slice none 0 0,.int .i64 0,.bool false,.int .i64 0,.int .i64 0,.slice none 0 0,.bool false,.int .i64 0,.int .i64 0,.slice none 0 0,.int .i64 0,.int .i64 0,.slice none 0 0,.slice none 0 0,.slice none 0 0] 63)=U/\qak 63 U w.heap.size (ZNv 0)/\Below w.heap.size w U/\w.heap.size < U.heap.size:=qb7 63 w (ZNv 0)
def qny(v u:Nv):Prop:=u.id=v.id/\u.val=v.val/\u.up=v.up/\u.kl=v.kl/\u.kt=v.kt/\u.ks=v.ks/\u.ke=v.ke/\u.kf=v.kf/\qbv v.P u.P/\u.wo=v.wo/\u.wn=v.wn/\u.wt=v.wt /\
 u.hn=v.hn/\u.hs=v.hs/\u.own=v.own/\u.cap=v.cap/\u.dn=v.dn/\u.ds=v.ds/\u.fn=v.fn/\qe8 v.fs u.fs/\u.tn=v.tn/\u.ts=v.ts
theorem qkl{w:World}{g n:Nat}(h:w.there g 0 n)(o k:Nat)(hk:o+k<=n):w.there g o k:=fun j hj=>by
 have:=h (o+j) (by omega)
 simpa using this
theorem qz4{t:TypeId}{w:World}{g:Nat}{v:Nv}(h:qak t w g v)(q:Pv):∃ U,w.setCells g 8 (qbk q)=U/\qak t U g { v with P:=q }/\(∀ w0 B,Below B w0 w->B<=g->Below B w0 U)/\(∀ j,j≠g->U.heap[j]? = w.heap[j]?)/\U.heap.size<=w.heap.size/\w.heap.size<=U.heap.size:=by
 refine⟨_,rfl,?_,fun w0 B hb hg=>?_,fun j hj=>?_,?_,?_⟩
 . unfold qak at h ⊢
   simp [qbk,World.setCells,World.setCell,Array.getElem?_modify,h]
 . simp only [qbk,World.setCells]
   repeat (refine Below.setCell ?_ hg _)
   exact hb
 . have hj':¬ g=j:=fun e=>hj e.symm
   simp [qbk,World.setCells,World.setCell,Array.getElem?_modify,hj']
 . simp [qbk,World.setCells,World.setCell]
 simp [qbk,World.setCells,World.setCell]
theorem qz5{t:TypeId}{w:World}{g:Nat}{v:Nv}(h:qak t w g v)(A:Option Addr)(n c:Nat)(xs:List Int):∃ U,w.setCell ⟨g,27,none⟩ (.slice A n c)=U/\qak t U g { v with hA:=A,hn:=n,hc:=c,hs:=xs }/\(∀ w0 B,Below B w0 w->B<=g->Below B w0 U)/\(∀ j,j≠g->U.heap[j]? = w.heap[j]?)/\U.heap.size<=w.heap.size/\w.heap.size<=U.heap.size:=by
 refine⟨_,rfl,?_,fun w0 B hb hg=>?_,fun j hj=>?_,?_,?_⟩
 . unfold qak at h ⊢
   simp [World.setCell,Array.getElem?_modify,h]
 . exact Below.setCell hb hg _
 . have hj':¬ g=j:=fun e=>hj e.symm
   simp [World.setCell,Array.getElem?_modify,hj']
 . simp [World.setCell]
 simp [World.setCell]
theorem qz8{t:TypeId}{w:World}{g:Nat}{v:Nv}(h:qak t w g v)(own cap:Int)(A:Option Addr)(n c:Nat)(xs:List (Int×Int)):∃ U,w.setCells g 28 [.int .i64 own,.int .i64 cap,.slice A n c]=U/\qak t U g { v with own:=own,cap:=cap,dA:=A,dn:=n,dc:=c,ds:=xs }/\(∀ w0 B,Below B w0 w->B<=g->Below B w0 U)/\(∀ j,j≠g->U.heap[j]? = w.heap[j]?)/\U.heap.size<=w.heap.size/\w.heap.size<=U.heap.size:=by
 refine⟨_,rfl,?_,fun w0 B hb hg=>?_,fun j hj=>?_,?_,?_⟩
 . unfold qak at h ⊢
   simp [World.setCells,World.setCell,Array.getElem?_modify,h]
 . simp only [World.setCells]
   repeat (refine Below.setCell ?_ hg _)
   exact hb
 . have hj':¬ g=j:=fun e=>hj e.symm
   simp [World.setCells,World.setCell,Array.getElem?_modify,hj']
 . simp [World.setCells,World.setCell]
 simp [World.setCells,World.setCell]
theorem qz6{t:TypeId}{w:World}{g:Nat}{v:Nv}(h:qak t w g v)(A:Option Addr)(n c:Nat)(fs:List Fv):∃ U,w.setCell ⟨g,31,none⟩ (.slice A n c)=U/\qak t U g { v with fA:=A,fn:=n,fc:=c,fs:=fs }/\(∀ w0 B,Below B w0 w->B<=g->Below B w0 U)/\(∀ j,j≠g->U.heap[j]? = w.heap[j]?)/\U.heap.size<=w.heap.size/\w.heap.size<=U.heap.size:=by
 refine⟨_,rfl,?_,fun w0 B hb hg=>?_,fun j hj=>?_,?_,?_⟩
 . unfold qak at h ⊢
   simp [World.setCell,Array.getElem?_modify,h]
 . exact Below.setCell hb hg _
 . have hj':¬ g=j:=fun e=>hj e.symm
   simp [World.setCell,Array.getElem?_modify,hj']
 . simp [World.setCell]
 simp [World.setCell]
theorem qz3{t:TypeId}{w:World}{g:Nat}{v:Nv}(h:qak t w g v)(A:Option Addr)(n c:Nat)(xs:List (Int×Int)):∃ U,w.setCell ⟨g,32,none⟩ (.slice A n c)=U/\qak t U g { v with tA:=A,tn:=n,tc:=c,ts:=xs }/\(∀ w0 B,Below B w0 w->B<=g->Below B w0 U)/\(∀ j,j≠g->U.heap[j]? = w.heap[j]?)/\U.heap.size<=w.heap.size/\w.heap.size<=U.heap.size:=by
 refine⟨_,rfl,?_,fun w0 B hb hg=>?_,fun j hj=>?_,?_,?_⟩
 . unfold qak at h ⊢
   simp [World.setCell,Array.getElem?_modify,h]
 . exact Below.setCell hb hg _
 . have hj':¬ g=j:=fun e=>hj e.symm
   simp [World.setCell,Array.getElem?_modify,hj']
 . simp [World.setCell]
 simp [World.setCell]
end No
end Go.Proofs.YtmbppgjhdcmckaaGreatDoor
namespace Go.Proofs.YtmbppgjhdcmckaaGreatDoor
open Go.RowKit
namespace No
open Ma (Pv PRows qbi qch)
open Dy
def qfw(v:Nv):Bool:=qbi v.P || (decide (100 < (v.hn:Int)) || (decide (70 < (v.dn:Int)) || (qch v.fn v.fs || decide (100 < (v.tn:Int)))))
theorem qok(w:World)(v:Nv)(hR:NRows w 0 w.heap.size v)(k:Bool)(hk:qfw v=k) :
  Calls Tryz.prog 24 #[.agg #[.int .i64 v.id,.int .i64 v.val,.bool v.up,.int .i64 v.kl,.int .i64 v.kt,.int .i64 v.ks,.int .i64 v.ke,.int .i64 v.kf,.bool v.P.M.S.s,.slice v.P.M.S.A v.P.M.S.n v.P.M.S.c,.int .i64 v.P.M.S.e,.bool v.P.M.W.s,.slice v.P.M.W.A v.P.M.W.n v.P.M.W.c,.int .i64 v.P.M.W.e,.bool v.P.M.C.s,.slice v.P.M.C.A v.P.M.C.n v.P.M.C.c,.int .i64 v.P.M.C.e,.bool v.P.M.A.s,.slice v.P.M.A.A v.P.M.A.n v.P.M.A.c,.int .i64 v.P.M.A.e,.bool v.P.h,.int .i64 v.P.mn,.int .i64 v.P.mx,.slice v.P.A v.P.n v.P.c,.bool v.wo,.int .i64 v.wn,.int .i64 v.wt,.slice v.hA v.hn v.hc,.int .i64 v.own,.int .i64 v.cap,.slice v.dA v.dn v.dc,.slice v.fA v.fn v.fc,.slice v.tA v.tn v.tc]] w fun e w'=>e=.returned (.bool k)/\Below w.heap.size w w':=by
 obtain⟨w1,hw1,bN,j1,S1⟩:=qb7 63 w v
 have HK:=Lib.hid hk
 clear hk
 obtain⟨c1,h1⟩:∃ c,qbi v.P=c:=⟨_,rfl⟩
 obtain⟨c4,h4⟩:∃ c,qch v.fn v.fs=c:=⟨_,rfl⟩
 have H1:=Lib.hid h1
 have H4:=Lib.hid h4
 clear h1 h4
 go_enter Tryz.func24,Tryz.ntmps24
 go_upto_region 1 with fail
 try rw [hw1]
 try clear hw1
 have ra:=qak.part bN
 go_wp2_with (first
  | (refine wpList_load_mid rfl 30 (.tmp 3) rfl (w.heap.size) 8 rfl [.bool v.P.M.S.s,.slice v.P.M.S.A v.P.M.S.n v.P.M.S.c,.int .i64 v.P.M.S.e,.bool v.P.M.W.s,.slice v.P.M.W.A v.P.M.W.n v.P.M.W.c,.int .i64 v.P.M.W.e,.bool v.P.M.C.s,.slice v.P.M.C.A v.P.M.C.n v.P.M.C.c,.int .i64 v.P.M.C.e,.bool v.P.M.A.s,.slice v.P.M.A.A v.P.M.A.n v.P.M.A.c,.int .i64 v.P.M.A.e,.bool v.P.h,.int .i64 v.P.mn,.int .i64 v.P.mx,.slice v.P.A v.P.n v.P.c] _ ra Tryz.underlying30 rfl (by kernel_rfl) ?_))
 refine (Ma.GreatPart_any w1 v.P (NRows.on hR j1).P c1 H1.out).mono ?_
 rintro e' v1 ⟨rfl,j2⟩
 try clear hw
 clear ra
 cases c1
 case true =>
  obtain rfl:k=true:=by rw [<-HK.out]; unfold qfw; rw [H1.out]; rfl
  go_wp2
  go_ret
  exact⟨rfl,(lz j1 j2)⟩
 obtain⟨c2,h2⟩:∃ c,decide (100 < (v.hn:Int))=c:=⟨_,rfl⟩
 obtain⟨c3,h3⟩:∃ c,decide (70 < (v.dn:Int))=c:=⟨_,rfl⟩
 have H2:=Lib.hid h2
 have H3:=Lib.hid h3
 have c27:v1.cell? ⟨w.heap.size,27,none⟩=some (.slice v.hA v.hn v.hc):=qak.at_ (qaa bN j2 S1) 27 _ rfl
 have c28:v1.cell? ⟨w.heap.size,28,none⟩=some (.int .i64 v.own):=qak.at_ (qaa bN j2 S1) 28 _ rfl
 have c29:v1.cell? ⟨w.heap.size,29,none⟩=some (.int .i64 v.cap):=qak.at_ (qaa bN j2 S1) 29 _ rfl
 have c30:v1.cell? ⟨w.heap.size,30,none⟩=some (.slice v.dA v.dn v.dc):=qak.at_ (qaa bN j2 S1) 30 _ rfl
 cases c2
 case true =>
  obtain rfl:k=true:=by rw [<-HK.out]; unfold qfw; rw [H1.out,H2.out]; rfl
  go_wp2
  go_ret
  exact⟨rfl,(lz j1 j2)⟩
 cases c3
 case true =>
  obtain rfl:k=true:=by rw [<-HK.out]; unfold qfw; rw [H1.out,H2.out,H3.out]; rfl
  go_wp2
  go_ret
  exact⟨rfl,(lz j1 j2)⟩
 have c31:v1.cell? ⟨w.heap.size,31,none⟩=some (.slice v.fA v.fn v.fc):=qak.at_ (qaa bN j2 S1) 31 _ rfl
 go_wp2_with fail
 refine (Ma.GreatF_any v1 v.fA v.fn v.fc v.fs (NRows.on hR (lz j1 j2)).F c4 H4.out).mono ?_
 rintro e' v3 ⟨rfl,j4⟩
 try clear hw
 clear h2 h3 c27 c28 c29 c30 c31
 cases c4
 case true =>
  obtain rfl:k=true:=by rw [<-HK.out]; unfold qfw; rw [H1.out,H2.out,H3.out,H4.out]; rfl
  go_wp2
  go_ret
  exact⟨rfl,(lz j1 (lz j2 j4))⟩
 have c32:v3.cell? ⟨w.heap.size,32,none⟩=some (.slice v.tA v.tn v.tc):=qak.at_ (qaa bN (lz j2 j4) S1) 32 _ rfl
 obtain⟨c5,h5⟩:∃ c,decide (100 < (v.tn:Int))=c:=⟨_,rfl⟩
 have H5:=Lib.hid h5
 obtain rfl:k=c5:=by rw [<-HK.out]; unfold qfw; rw [H1.out,H2.out,H3.out,H4.out,H5.out]; rfl
 go_wp2
 go_ret
 exact⟨rfl,(lz j1 (lz j2 j4))⟩
end No
end Go.Proofs.YtmbppgjhdcmckaaGreatDoor
namespace Go.Proofs.YtmbppgjhdcmckaaGreatDoor
open Go.RowKit
namespace No
open Ma
open Dp Dy
theorem q1w(p q:Int)(A:Option Addr)(n c:Nat):∀ u∈([.int .i64 p,.int .i64 q,.slice A n c]:List Value),u.oneCell'=true:=by
 intro u hu
 simp only [List.mem_cons,List.not_mem_nil,or_false] at hu
 rcases hu with rfl|rfl|rfl<;>rfl
theorem qdi{w w':World}{lo hi n:Nat}{A:Option Addr}{xs:List (Int×Int)}(h:De.Descs w lo hi A n xs)(hk:∀ b,lo<=b->b < hi->w'.heap[b]? = w.heap[b]?):De.Descs w' lo hi A n xs:=by
 refine⟨h.len,h.wf,h.big,fun h0=>?_⟩
 obtain⟨b,o,h1,h2,h3,hc⟩:=h.row h0
 have hkb:=hk b h2 h3
 refine⟨b,o,h1,h2,h3,?_⟩
 simp only [World.cell?,World.frozen?,hkb] at hc ⊢
 exact hc
theorem qro(w:World)(v:Nv)(hR:NRows w 0 w.heap.size v)(hg:qfw v=false) :
  Calls Tryz.prog 25 #[.agg #[.int .i64 v.id,.int .i64 v.val,.bool v.up,.int .i64 v.kl,.int .i64 v.kt,.int .i64 v.ks,.int .i64 v.ke,.int .i64 v.kf,.bool v.P.M.S.s,.slice v.P.M.S.A v.P.M.S.n v.P.M.S.c,.int .i64 v.P.M.S.e,.bool v.P.M.W.s,.slice v.P.M.W.A v.P.M.W.n v.P.M.W.c,.int .i64 v.P.M.W.e,.bool v.P.M.C.s,.slice v.P.M.C.A v.P.M.C.n v.P.M.C.c,.int .i64 v.P.M.C.e,.bool v.P.M.A.s,.slice v.P.M.A.A v.P.M.A.n v.P.M.A.c,.int .i64 v.P.M.A.e,.bool v.P.h,.int .i64 v.P.mn,.int .i64 v.P.mx,.slice v.P.A v.P.n v.P.c,.bool v.wo,.int .i64 v.wn,.int .i64 v.wt,.slice v.hA v.hn v.hc,.int .i64 v.own,.int .i64 v.cap,.slice v.dA v.dn v.dc,.slice v.fA v.fn v.fc,.slice v.tA v.tn v.tc]] w fun e w'=>∃ u:Nv,e=.returned (.agg (cells33 u).toArray)/\qny v u/\Below w.heap.size w w'/\NRows w' 0 w'.heap.size u:=by
 obtain⟨w1,hw1,bN,ja,S1⟩:=qb7 63 w v
 obtain⟨w2,hw2,bZ,jb,S2⟩:=qq5 w1
 have lw1:=ja.size
 have lw2:=jb.size
 obtain⟨i0,hi0,hz0,hz1,hz2⟩:=info_parts q0e
 obtain⟨i1,hi1,hy0,hy1,hy2⟩:=info_parts NoT.Tryz.info146
 have hgr:qbi v.P=false/\v.hn<=100/\v.dn<=70/\qch v.fn v.fs=false/\v.tn<=100:=by
  unfold qfw at hg
  simp only [Bool.or_eq_false_iff,decide_eq_false_iff_not] at hg
  exact⟨hg.1,by omega,by omega,hg.2.2.2.1,by omega⟩
 have hs:=Lib.hid (qfe hR.F hgr.2.2.2.1)
 have hs2:=Lib.hid (qd4 hR.P hgr.1)
 obtain⟨gh,gd,gf,gt⟩:v.hn<=100/\v.dn<=70/\v.fn<=1028/\v.tn<=100:=⟨hgr.2.1,hgr.2.2.1,(qkt hgr.2.2.2.1).1,hgr.2.2.2.2⟩
 clear hg hgr
 go_enter Tryz.func25,Tryz.ntmps25
 go_upto_region 1 with fail
 try rw [hw1]
 try rw [hw2]
 try clear hw1
 try clear hw2
 have b0:qak 63 w2 w.heap.size v:=(jb.block _ S1).trans bN
 have j0:Below w.heap.size w w2:=lz ja jb
 have z0:qak 63 w2 w1.heap.size (ZNv 0):=bZ
 clear bN bZ
 -- the part
 have ra:=qak.part b0
 go_wp2_with (first
  | (refine wpList_load_mid rfl 30 (.tmp 3) rfl (w.heap.size) 8 rfl [.bool v.P.M.S.s,.slice v.P.M.S.A v.P.M.S.n v.P.M.S.c,.int .i64 v.P.M.S.e,.bool v.P.M.W.s,.slice v.P.M.W.A v.P.M.W.n v.P.M.W.c,.int .i64 v.P.M.W.e,.bool v.P.M.C.s,.slice v.P.M.C.A v.P.M.C.n v.P.M.C.c,.int .i64 v.P.M.C.e,.bool v.P.M.A.s,.slice v.P.M.A.A v.P.M.A.n v.P.M.A.c,.int .i64 v.P.M.A.e,.bool v.P.h,.int .i64 v.P.mn,.int .i64 v.P.mx,.slice v.P.A v.P.n v.P.c] _ ra Tryz.underlying30 rfl (by kernel_rfl) ?_))
 refine (qdg w2 v.P (NRows.on hR j0).P hs2.out.1 hs2.out.2).mono ?_
 rintro e' x1 ⟨q,rfl,tq,k1,Rq⟩
 clear ra
 replace tq:=Lib.hid tq
 have n1:=k1.size
 obtain⟨U1,hU1,b1,hb1,hf1,l1,l1'⟩:=qz4 ((k1.block _ (by omega)).trans b0) q
 have th1:=qkl (qak.there ((k1.block _ (by omega)).trans b0)) 8 16 (by decide)
 replace hU1:x1.setCells w.heap.size 8 (#[.bool q.M.S.s,.slice q.M.S.A q.M.S.n q.M.S.c,.int .i64 q.M.S.e,.bool q.M.W.s,.slice q.M.W.A q.M.W.n q.M.W.c,.int .i64 q.M.W.e,.bool q.M.C.s,.slice q.M.C.A q.M.C.n q.M.C.c,.int .i64 q.M.C.e,.bool q.M.A.s,.slice q.M.A.A q.M.A.n q.M.A.c,.int .i64 q.M.A.e,.bool q.h,.int .i64 q.mn,.int .i64 q.mx,.slice q.A q.n q.c]:Array Value).toList=U1:=hU1
 have HU1:=Lib.hid hU1
 clear hU1
 go_upto_region 2 with (first | (refine wpList_store_mid rfl 30 (.tmp 6) (.tmp 5) rfl (w.heap.size) 8 #[.bool q.M.S.s,.slice q.M.S.A q.M.S.n q.M.S.c,.int .i64 q.M.S.e,.bool q.M.W.s,.slice q.M.W.A q.M.W.n q.M.W.c,.int .i64 q.M.W.e,.bool q.M.C.s,.slice q.M.C.A q.M.C.n q.M.C.c,.int .i64 q.M.C.e,.bool q.M.A.s,.slice q.M.A.A q.M.A.n q.M.A.c,.int .i64 q.M.A.e,.bool q.h,.int .i64 q.mn,.int .i64 q.mx,.slice q.A q.n q.c] rfl rfl th1 (by kernel_rfl) (all_oneCell_toArray (qal q)) ?_; rw [HU1.out]))
 have j1:Below w.heap.size w U1:=hb1 _ _ (lz j0 k1) (Nat.le_refl _)
 have z1:qak 63 U1 w1.heap.size (ZNv 0):=(hf1 _ (by omega)).trans ((k1.block _ S2).trans z0)
 have R1:PRows U1 w2.heap.size U1.heap.size q:=(qbp Rq (qcj Rq (.inl (by omega))) hf1).more (Nat.le_refl _) (by omega)
 clear th1 HU1 hb1 hf1 b0 z0 Rq
 -- what it heard
 have c27:U1.cell? ⟨w.heap.size,27,none⟩=some (.slice v.hA v.hn v.hc):=qak.at_ b1 27 _ rfl
 have c27a:(U1.alloc (.cells #[] 3)).cell? ⟨w.heap.size,27,none⟩=some (.slice v.hA v.hn v.hc):=qak.at_ ((((Below.refl U1.heap.size U1).alloc (Nat.le_refl _) (.cells #[] 3)).block _ (by omega)).trans b1) 27 _ rfl
 have hH:=(NRows.on hR j1).H
 go_wp2_with (first
  | (at_builtin; refine qag _ rfl (.tmp 7) (.tmp 9) 56 rfl U1.heap.size 3 i0 _ 1 8 Tryz.underlying56 hi0 hz0 hz1 hz2 rfl (by decide) _ _ _ rfl (qdl U1 U1.heap.size _ 1 (Nat.le_refl _)) _ _ _ v.hn _ _ rfl (hH.alloc (Nat.le_refl _) _).raw ?c1 ?c2 ?c3 ?c4 ?_))
 case c1=>exact q0f _
 case c2=>have:=hH.len; unfold maxLen; omega
 case c3=>have:=hH.len; omega
 case c4=>simp
 intro A2 c2 x2 hown2 hgrow2 _
 have k2:Below U1.heap.size U1 x2:=((Below.refl _ U1).alloc (Nat.le_refl _) _).grown hgrow2 (by simp) (fun q hq=>by simp [Value.ownBlock] at hq; omega)
 have hI2:qae x2 U1.heap.size x2.heap.size .i64 A2 v.hn v.hs:=qae.of_own (by simpa using hown2) hR.H.wf hR.H.big
 have n2:=k2.size
 clear hown2 hgrow2 c27 c27a hH
 have e2:=(k2.block _ (by omega)).trans b1
 obtain⟨U2,hU2,b2,hb2,hf2,l2,l2'⟩:=qz5 e2 A2 v.hn c2 v.hs
 have c27:x2.cell? ⟨w.heap.size,27,none⟩=some (.slice v.hA v.hn v.hc):=qak.at_ e2 27 _ rfl
 have f27:x2.frozen? ⟨w.heap.size,27,none⟩=false:=frozen_of_row x2 _ _ _ _ e2
 go_upto_region 3 with fail
 try rw [hU2]
 have j2:Below w.heap.size w U2:=hb2 _ _ (lz j1 k2) (Nat.le_refl _)
 have z2:qak 63 U2 w1.heap.size (ZNv 0):=(hf2 _ (by omega)).trans ((k2.block _ (by omega)).trans z1)
 have R2:PRows U2 w2.heap.size U2.heap.size q:=(qbp (R1.below k2 (Nat.le_refl _)) (qcj R1 (.inl (by omega))) hf2).more (Nat.le_refl _) (by omega)
 have H2:qae U2 w2.heap.size U2.heap.size .i64 A2 v.hn v.hs:=(qaq hI2 (w':=U2) (fun b h1 h2=>hf2 b (by omega))).more (by omega) (by omega)
 clear hU2 hb2 hf2 c27 f27 e2 b1 z1 R1 hI2
 -- its cache
 have c28:U2.cell? ⟨w.heap.size,28,none⟩=some (.int .i64 v.own):=qak.at_ b2 28 _ rfl
 have c29:U2.cell? ⟨w.heap.size,29,none⟩=some (.int .i64 v.cap):=qak.at_ b2 29 _ rfl
 have c30:U2.cell? ⟨w.heap.size,30,none⟩=some (.slice v.dA v.dn v.dc):=qak.at_ b2 30 _ rfl
 go_wp2_with fail
 refine (De.TwinCR_any U2 v.own v.cap 0 U2.heap.size v.dA v.dn v.dc v.ds (NRows.on hR j2).D (Nat.le_refl _) (by omega)).mono ?_
 rintro e' x3 ⟨A3,c3,rfl,_,k3,_,hD3⟩
 clear c28 c29 c30
 have n3:=k3.size
 have e3:=(k3.block _ (by omega)).trans b2
 obtain⟨U3,hU3,b3,hb3,hf3,l3,l3'⟩:=qz8 e3 v.own v.cap A3 v.dn c3 v.ds
 have th3:=qkl (qak.there e3) 28 3 (by decide)
 replace hU3:x3.setCells w.heap.size 28 (#[.int .i64 v.own,.int .i64 v.cap,.slice A3 v.dn c3]:Array Value).toList=U3:=hU3
 have HU3:=Lib.hid hU3
 clear hU3
 go_upto_region 4 with (first | (refine wpList_store_mid rfl 59 (.tmp 15) (.tmp 14) rfl (w.heap.size) 28 #[.int .i64 v.own,.int .i64 v.cap,.slice A3 v.dn c3] rfl rfl th3 (by kernel_rfl) (all_oneCell_toArray (q1w _ _ _ _ _)) ?_; rw [HU3.out]))
 have j3:Below w.heap.size w U3:=hb3 _ _ (lz j2 k3) (Nat.le_refl _)
 have z3:qak 63 U3 w1.heap.size (ZNv 0):=(hf3 _ (by omega)).trans ((k3.block _ (by omega)).trans z2)
 have R3:PRows U3 w2.heap.size U3.heap.size q:=(qbp (R2.below k3 (Nat.le_refl _)) (qcj R2 (.inl (by omega))) hf3).more (Nat.le_refl _) (by omega)
 have H3:qae U3 w2.heap.size U3.heap.size .i64 A2 v.hn v.hs:=(qaq (H2.below k3 (Nat.le_refl _)) (w':=U3) (fun b h1 h2=>hf3 b (by omega))).more (Nat.le_refl _) (by omega)
 have D3:De.Descs U3 w2.heap.size U3.heap.size A3 v.dn v.ds:=(qdi hD3 (fun b h1 h2=>hf3 b (by omega))).more (by omega) (by omega)
 clear th3 HU3 hb3 hf3 e3 b2 z2 R2 H2 hD3
 -- what is past
 have c31:U3.cell? ⟨w.heap.size,31,none⟩=some (.slice v.fA v.fn v.fc):=qak.at_ b3 31 _ rfl
 go_wp2_with fail
 refine (qta U3 v.fA v.fn v.fc v.fs (NRows.on hR j3).F gf hs.out).mono ?_
 rintro e' x4 ⟨A4,c4,gs,rfl,tF,k4,O4,P4⟩
 replace tF:=Lib.hid tF
 have s31:w.heap.size < U3.heap.size:=by omega
 have s32:w1.heap.size < U3.heap.size:=by omega
 have hob:=Lib.hid (fun k hk=>(O4.own.lt k hk).1:∀ k,(Value.slice A4 v.fn c4).ownBlock=some k->U3.heap.size<=k)
 have ho1:=Lib.hid (fun f hf=>qcj (P4 f hf) (.inl s31):∀ f∈gs,q1n f.P w.heap.size)
 have ho2:=Lib.hid (fun f hf=>qcj (P4 f hf) (.inl s32):∀ f∈gs,q1n f.P w1.heap.size)
 clear P4
 clear c31
 have n4:=k4.size
 have e4:=(k4.block _ (by omega)).trans b3
 obtain⟨U4,hU4,b4,hb4,hf4,l4,l4'⟩:=qz6 e4 A4 v.fn c4 gs
 have c31:x4.cell? ⟨w.heap.size,31,none⟩=some (.slice v.fA v.fn v.fc):=qak.at_ e4 31 _ rfl
 have f31:x4.frozen? ⟨w.heap.size,31,none⟩=false:=frozen_of_row x4 _ _ _ _ e4
 go_upto_region 5 with fail
 try rw [hU4]
 have j4:Below w.heap.size w U4:=hb4 _ _ (lz j3 k4) (Nat.le_refl _)
 have z4:qak 63 U4 w1.heap.size (ZNv 0):=(hf4 _ (by omega)).trans ((k4.block _ (by omega)).trans z3)
 have R4:PRows U4 w2.heap.size U4.heap.size q:=(qbp (R3.below k4 (Nat.le_refl _)) (qcj R3 (.inl (by omega))) hf4).more (Nat.le_refl _) (by omega)
 have H4:qae U4 w2.heap.size U4.heap.size .i64 A2 v.hn v.hs:=(qaq (H3.below k4 (Nat.le_refl _)) (w':=U4) (fun b h1 h2=>hf4 b (by omega))).more (Nat.le_refl _) (by omega)
 have D4:De.Descs U4 w2.heap.size U4.heap.size A3 v.dn v.ds:=(qdi (D3.below k4 (Nat.le_refl _)) (fun b h1 h2=>hf4 b (by omega))).more (by omega) (by omega)
 have F4:qk5 U4 U3.heap.size (.slice A4 v.fn c4) v.fn gs:=O4.far hb4 hf4 (by omega) (fun h=>by have:=hob.out _ h; omega) ho1.out
 clear hU4 hb4 hf4 c31 f31 e4 b3 z3 R3 H3 D3 O4
 -- its timers
 have c32:U4.cell? ⟨w.heap.size,32,none⟩=some (.slice v.tA v.tn v.tc):=qak.at_ b4 32 _ rfl
 have c32a:(U4.alloc (.cells #[] 146)).cell? ⟨w.heap.size,32,none⟩=some (.slice v.tA v.tn v.tc):=qak.at_ ((((Below.refl U4.heap.size U4).alloc (Nat.le_refl _) (.cells #[] 146)).block _ (by omega)).trans b4) 32 _ rfl
 have hTm:=(NRows.on hR j4).T
 go_wp2_with (first
  | (at_builtin; refine qag _ rfl (.tmp 20) (.tmp 22) 61 rfl U4.heap.size 146 i1 _ 2 16 Tryz.underlying61 hi1 hy0 hy1 hy2 rfl (by decide) _ _ _ rfl (qdl U4 U4.heap.size _ 2 (Nat.le_refl _)) _ _ _ v.tn _ _ rfl (hTm.alloc (Nat.le_refl _) _).raw ?c1 ?c2 ?c3 ?c4 ?_))
 case c1=>exact De.flatD_one _
 case c2=>unfold maxLen; omega
 case c3=>omega
 case c4=>simp
 intro A5 c5 x5 hown5 hgrow5 _
 have k5:Below U4.heap.size U4 x5:=((Below.refl _ U4).alloc (Nat.le_refl _) _).grown hgrow5 (by simp) (fun q hq=>by simp [Value.ownBlock] at hq; omega)
 have hI5:De.Descs x5 U4.heap.size x5.heap.size A5 v.tn v.ts:=De.Descs.of_own (by simpa using hown5) hR.T.wf hR.T.big
 have n5:=k5.size
 clear hown5 hgrow5 c32 c32a hTm
 have e5:=(k5.block _ (by omega)).trans b4
 obtain⟨U5,hU5,b5,hb5,hf5,l5,l5'⟩:=qz3 e5 A5 v.tn c5 v.ts
 have c32:x5.cell? ⟨w.heap.size,32,none⟩=some (.slice v.tA v.tn v.tc):=qak.at_ e5 32 _ rfl
 have f32:x5.frozen? ⟨w.heap.size,32,none⟩=false:=frozen_of_row x5 _ _ _ _ e5
 go_upto_region 6 with fail
 try rw [hU5]
 have j5:Below w.heap.size w U5:=hb5 _ _ (lz j4 k5) (Nat.le_refl _)
 have z5:qak 63 U5 w1.heap.size (ZNv 0):=(hf5 _ (by omega)).trans ((k5.block _ (by omega)).trans z4)
 have R5:PRows U5 w2.heap.size U5.heap.size q:=(qbp (R4.below k5 (Nat.le_refl _)) (qcj R4 (.inl (by omega))) hf5).more (Nat.le_refl _) (by omega)
 have H5:qae U5 w2.heap.size U5.heap.size .i64 A2 v.hn v.hs:=(qaq (H4.below k5 (Nat.le_refl _)) (w':=U5) (fun b h1 h2=>hf5 b (by omega))).more (Nat.le_refl _) (by omega)
 have D5:De.Descs U5 w2.heap.size U5.heap.size A3 v.dn v.ds:=(qdi (D4.below k5 (Nat.le_refl _)) (fun b h1 h2=>hf5 b (by omega))).more (by omega) (by omega)
 have F5:qk5 U5 U3.heap.size (.slice A4 v.fn c4) v.fn gs:=(F4.on k5).far hb5 hf5 (by omega) (fun h=>by have:=hob.out _ h; omega) ho1.out
 have T5:De.Descs U5 w2.heap.size U5.heap.size A5 v.tn v.ts:=(qdi hI5 (fun b h1 h2=>hf5 b (by omega))).more (by omega) (by omega)
 clear hU5 hb5 hf5 c32 f32 e5 b4 z4 R4 H4 D4 F4 hI5
 -- the qd3
 obtain⟨u,hu⟩:∃ u:Nv,u={ { { { { v with P:=q } with hA:=A2,hn:=v.hn,hc:=c2,hs:=v.hs } with own:=v.own,cap:=v.cap,dA:=A3,dn:=v.dn,dc:=c3,ds:=v.ds } with fA:=A4,fn:=v.fn,fc:=c4,fs:=gs } with tA:=A5,tn:=v.tn,tc:=c5,ts:=v.ts }:=⟨_,rfl⟩
 rw [<-hu] at b5
 have rN:=qak.range b5
 obtain⟨U6,hU6,b6,hb6,hf6,l6,l6'⟩:=qm5 z5 u
 have th6:=qak.there z5
 have HU6:=Lib.hid hU6
 clear hU6
 have j6:Below w.heap.size w U6:=hb6 _ _ j5 lw1
 have hT:qny v u:=by
  rw [hu]
  exact⟨rfl,rfl,rfl,rfl,rfl,rfl,rfl,rfl,tq.out,rfl,rfl,rfl,rfl,rfl,rfl,rfl,rfl,rfl,rfl,tF.out,rfl,rfl⟩
 have hU:NRows U6 0 U6.heap.size u:=by
  rw [hu]
  exact⟨(qbp R5 (qcj R5 (.inl (by omega))) hf6).more (Nat.zero_le _) (by omega),(qaq H5 (w':=U6) (fun b h1 h2=>hf6 b (by omega))).more (Nat.zero_le _) (by omega),(qdi D5 (fun b h1 h2=>hf6 b (by omega))).more (Nat.zero_le _) (by omega),(F5.far hb6 hf6 (by omega) (fun h=>by have:=hob.out _ h; omega) ho2.out).lfs,(qdi T5 (fun b h1 h2=>hf6 b (by omega))).more (Nat.zero_le _) (by omega)⟩
 clear hu b5 R5 H5 D5 F5 T5 hb6 hf6 tq tF
 go_wp2_with (first
  | (refine wpList_load_mid rfl 63 (.tmp 1) rfl (w.heap.size) 0 rfl (cells33 u) _ rN Tryz.underlying63 rfl (by kernel_rfl) ?_)
  | (refine wpList_store_mid rfl 63 (.tmp 2) (.tmp 25) rfl w1.heap.size 0 (cells33 u).toArray rfl rfl th6 (by kernel_rfl) (all_oneCell_toArray (qf5 u)) ?_; rw [show (cells33 u).toArray.toList=cells33 u from rfl,HU6.out]))
 exact bodyPost_ret (results_cell_row Tryz.results25 _ _ w1.heap.size 63 (cells33 u).toArray (0,0) _ rfl b6 Tryz.underlying63 rfl (by kernel_rfl)) rfl ⟨u,rfl,hT,j6,hU⟩
theorem qsk{v:Nv}(h:qbl v=false):qc9 v=false/\qd2 v=false:=by
 unfold qbl at h
 simp only [Bool.or_eq_false_iff] at h
 exact⟨h.1,h.2.2.2.2.2.1⟩
theorem qur{v:Nv}(h:qir v=true)(hu:v.up=true):qke v.kl v.kt v.ks v.ke v.kf=true/\qbo v.fn v.fs=0:=by
 unfold qir at h
 rw [if_pos hu] at h
 simp only [Bool.and_eq_true,Bool.not_eq_true'] at h
 obtain⟨h1,h6⟩:=qsk h.2.2
 unfold qc9 at h1
 unfold qd2 at h6
 simp only [Bool.or_eq_false_iff,Bool.not_eq_false'] at h1
 simp only [decide_eq_false_iff_not,Decidable.not_not] at h6
 exact⟨h1.2,h6⟩
end No
end Go.Proofs.YtmbppgjhdcmckaaGreatDoor