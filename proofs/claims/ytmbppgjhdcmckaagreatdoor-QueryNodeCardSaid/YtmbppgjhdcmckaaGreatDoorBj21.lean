/- The best ones of other nodes; whether a cache may be: walks. -/
import Derived.Test.YtmbppgjhdcmckaaGreatDoorBj20
set_option maxHeartbeats 102400000
set_option maxRecDepth 100000
namespace Go.Proofs.YtmbppgjhdcmckaaGreatDoor
open Go.RowKit Go.Sort Go.Shelf
namespace De
theorem qvw{xs:Nat->List (Int×Int)}:∀ {k:Nat},(∀ j,j < k->∀ x∈xs j,Rng x)->∀ x∈qs0 xs k,Rng x
 | 0,_,x,hx=>by simp [qs0] at hx
 | k+1,h,x,hx=>by
  rcases List.mem_append.1 hx with h1|h1
  . exact qvw (fun j hj=>h j (by omega)) x h1
  exact h k (by omega) x h1
theorem qx7{w':World}{A:Option Addr}{n:Nat}{xs:List (Int×Int)}{base kb:Nat}(h:Descs w' base w'.heap.size A n xs)(h0:0 < w'.heap.size)(hk:0 < kb)(hkb:kb < base):∃ rb,(0 < n->base<=rb)/\rb < w'.heap.size/\kb≠rb/\Descs w' rb (rb+1) A n xs:=by
 by_cases hn:0 < n
 . obtain⟨rb,h1,h2,h3⟩:=h.exact (Nat.le_refl _) h0
   exact⟨rb,fun _=>(h2 hn).1,h1,by have:=(h2 hn).1; omega,h3⟩
 obtain rfl:n=0:=by omega
 have:=h.zero rfl
 subst this
 exact⟨0,fun h=>absurd h (by omega),h0,by omega,Descs.nil_ ..⟩
theorem qu0(w:World)(h0:0 < w.heap.size)(own cap:Int)(A0:Option Addr)(n0 c0:Nat)(g k:Nat)(A:Nat->Option Addr)(n c:Nat->Nat)(xs:Nat->List (Int×Int))(hg:g < w.heap.size)(hL:∀ j,j < k->w.cell? ⟨g,j,none⟩=some (.slice (A j) (n j) (c j)))
  (hD:∀ j,j < k->Descs w 0 w.heap.size (A j) (n j) (xs j)) (hk:k<=1000) (hb:qk9 n k<=1000000) (r:Int) (hr:qct (qbm own (qs0 xs k))=r) :
  Calls Tryz.prog 169 #[.agg #[.int .i64 own,.int .i64 cap,.slice A0 n0 c0],.slice (some ⟨g,0,none⟩) k k] w (qme w (qxa (qbm own (qs0 xs k))) r):=by
 have HR:=Lib.hid hr
 have HWF:=Lib.hid (qvw fun j hj=>(hD j hj).wf)
 have hL1:∀ j,j < k->(w.alloc (.cells #[.int .i64 own,.int .i64 cap,.slice A0 n0 c0] 200)).cell? ⟨g,j,none⟩=some (.slice (A j) (n j) (c j)):=fun j hj=>(World.cell?_alloc_lt _ _ _ (show g < w.heap.size from hg)).trans (hL j hj)
 have hD1:∀ j,j < k->Descs (w.alloc (.cells #[.int .i64 own,.int .i64 cap,.slice A0 n0 c0] 200)) 0 (w.heap.size+1) (A j) (n j) (xs j):=fun j hj=>((hD j hj).alloc (Nat.le_refl _) _).more (Nat.le_refl _) (by omega)
 have hcat:=qtj (w.alloc (.cells #[.int .i64 own,.int .i64 cap,.slice A0 n0 c0] 200)) g k A n c xs (by simp; omega) hL1 (by simpa using hD1) hk hb
 have HC:=Lib.hid hcat
 clear hr hL hD hL1 hD1 hcat
 generalize qk9 n k=s at hb HC
 generalize qs0 xs k=ys at HC HR HWF
 go_enter Tryz.func169,Tryz.ntmps169
 go_wp2_with fail
 refine HC.out.mono ?_
 rintro e w1 ⟨A1,c1,rfl,hc1,hb1,hown1⟩
 have hs1:=hb1.size
 simp at hs1 hown1
 have hD1:=Descs.of_own hown1 HWF.out (by omega)
 have hown:w1.cell? ⟨w.heap.size,0,none⟩=some (.int .i64 own):=Below.keepCell hb1 (by simp) (by simp [go_sem])
 have hbw:=((Below.refl w.heap.size w).alloc (Nat.le_refl _) _).trans (hb1.mono (by simp))
 obtain⟨rb,q1,q2,q3,hDe⟩:=qx7 (kb:=w.heap.size) hD1 (by omega) h0 (by omega)
 have hDF:=qfy (qxl (w.heap.size+1) rb w.heap.size own q3) w1 () ⟨hown,by omega⟩ (by omega) q2 A1 s c1 q1 ys hDe (fun _ _=>trivial) hc1
 have HDF:=Lib.hid hDF
 have hyl:=Lib.hid hDe.len
 clear hown1 hb1 hD1 hDF hDe hown HC
 go_wp2_with fail
 refine HDF.out.mono ?_
 rintro e w2 ⟨m,rfl,hm,hb2,hD2⟩
 rw [ql4] at hD2
 have hs2:=hb2.size
 have hmc:m<=c1:=by have:=hyl.out; omega
 have hbw2:=hbw.trans (hb2.mono (by omega))
 clear hbw hb2 HDF
 go_wp2_with fail
 refine (qy5 _ _ _ A1 m c1 _ hD2 (by omega) (by omega) r HR.out).mono ?_
 rintro e w3 ⟨A3,n3,c3,r3,rfl,hc3,hb3,hr3,hr3',hD3⟩
 have hbw3:=hbw2.trans (hb3.mono (by omega))
 have hr4:0 < n3->w.heap.size<=r3:=fun h=>by have:=hr3 h; omega
 clear hb3 hbw2 hD2 hr3
 go_wp2
 go_ret2
 exact⟨A3,n3,c3,r3,rfl,hc3,hbw3,hr4,hr3',hD3⟩
theorem qxw{own cap:Int}{xs:List (Int×Int)}(h1:qlo own cap=true)(h2:(xs.length:Int)<=cap):(qct (qbm own xs)=0/\Sm (qxa (qbm own xs)) xs=true)↔mayC own cap xs=true:=by
 rw [qfl]
 constructor
 . rintro⟨h3,h4⟩
   have h5:qyl (qbm own xs)=xs:=by
    have:=eq_of_beq h4
    rwa [qxa,if_pos h3] at this
   exact⟨h1,h2,by rw [<-qkz h5]; exact h3,h5⟩
 rintro⟨_,_,h3,h4⟩
 have h5:=qkz h4
 have h6:qct (qbm own xs)=0:=by rw [h5]; exact h3
 refine⟨h6,?_⟩
 rw [qxa,if_pos h6,h4]
 exact beq_self_eq_true _
theorem quz(w:World)(h0:0 < w.heap.size)(own cap:Int)(A0:Option Addr)(n0 c0:Nat)(g:Nat)(A:Option Addr)(n c:Nat)(xs:List (Int×Int))(hg:g < w.heap.size)(hL:w.cell? ⟨g,0,none⟩=some (.slice A n c))
  (hD:Descs w 0 w.heap.size A n xs) (hb:n<=1000000) (r:Int) (hr:qct (qbm own xs)=r) :
  Calls Tryz.prog 169 #[.agg #[.int .i64 own,.int .i64 cap,.slice A0 n0 c0],.slice (some ⟨g,0,none⟩) 1 1] w (qme w (qxa (qbm own xs)) r):=by
 have h:=qu0 w h0 own cap A0 n0 c0 g 1 (fun _=>A) (fun _=>n) (fun _=>c) (fun _=>xs) hg (fun j hj=>by
   obtain rfl:j=0:=by omega
   exact hL) (fun _ _=>hD) (by omega) (by simpa [qk9] using hb) r (by simpa [qs0] using hr)
 simpa [qs0] using h
theorem q0u{w w1:World}{x y z:Value}{t:TypeId}(hb:Below (w.alloc (.cells #[x,y,z] t)).heap.size (w.alloc (.cells #[x,y,z] t)) w1) :
  (w1.cell? ⟨w.heap.size,0,none⟩=some x/\w1.cell? ⟨w.heap.size,1,none⟩=some y/\w1.cell? ⟨w.heap.size,2,none⟩=some z)/\w.heap.size < w1.heap.size/\Below w.heap.size w w1:=by
 have hs:=hb.size
 simp at hs
 refine⟨⟨?_,?_,?_⟩,by omega,((Below.refl w.heap.size w).alloc (Nat.le_refl _) _).trans (hb.mono (by simp))⟩
 all_goals
  rw [hb.cell (by simp)]
  simp [go_sem]
theorem CheckC_any(w:World)(own cap:Int)(A:Option Addr)(n c:Nat)(xs:List (Int×Int))(hX:Descs w 0 w.heap.size A n xs)(r:Int)(hr:(if mayC own cap xs=true then 0 else 8)=r) :
  Calls Tryz.prog 124 #[.agg #[.int .i64 own,.int .i64 cap,.slice A n c]] w fun e w'=>e=.returned (.int .i64 r)/\Below w.heap.size w w'/\0 < w'.heap.size:=by
 have HR:=Lib.hid hr
 have HL:=Lib.hid hX.len
 have hbig:=hX.big
 clear hr
 by_cases h1:qlo own cap=true
 . have hnr:qm6 own cap=((own,cap),0):=by rw [qm6,if_pos h1]
   have HN:=Lib.hid hnr
   have H1:=Lib.hid h1
   have hc6:=((qcd own cap).1 h1).2.2
   clear h1 hnr
   by_cases h2:(n:Int)<=cap
   . obtain⟨q,hq⟩:∃ q,qct (qbm own xs)=q:=⟨_,rfl⟩
     obtain⟨b,hb⟩:∃ b,Sm (qxa (qbm own xs)) xs=b:=⟨_,rfl⟩
     have hmc:=qxw H1.out (xs:=xs) (cap:=cap) (by rw [HL.out]; exact h2)
     rw [hq,hb] at hmc
     have HQ:=Lib.hid hq
     have HB:=Lib.hid hb
     have HMC:=Lib.hid hmc
     clear hq hb hmc
     go_enter Tryz.func124,Tryz.ntmps124
     go_wp2_with fail
     refine (qpr _ own cap own cap 0 HN.out).mono ?_
     rintro e w1 ⟨rfl,hg1⟩
     obtain⟨⟨k1,k2,k3⟩,hs1,hb1⟩:=q0u hg1.below
     have hX1:=hX.below hb1 (Nat.le_refl _)
     clear hg1
     go_wp2_with fail
     have hb2:=(hb1.alloc (by omega) (.cells #[.int .i64 own,.int .i64 cap,.slice none 0 0] 59)).alloc (by simp; omega) (.cells #[.slice A n c] 57)
     have hX2:=(hX1.below ((Below.refl w1.heap.size w1).alloc (Nat.le_refl _) (.cells #[.int .i64 own,.int .i64 cap,.slice none 0 0] 59)) (by omega)).alloc (by simp; omega) (.cells #[.slice A n c] 57)
     refine (quz _ (by simp) own cap A n c _ A n c xs (by simp) (by simp [go_sem]) (hX2.more (Nat.le_refl _) (by simp; omega)) (by omega) q HQ.out).mono ?_
     rintro e w2 ⟨A2,n2,c2,rb,rfl,hc2,hb3,hr2,hr3,hD2⟩
     have hs3:=hb3.size
     simp at hs3
     have hc:=hb2.trans (hb3.mono (by simp; omega))
     have hX3:=hX.below hc (Nat.le_refl _)
     have m1:w2.cell? ⟨w.heap.size,2,none⟩=some (.slice A n c):=Below.keepCell hb3 (by simp; omega) ((World.cell?_alloc_lt _ _ _ (show w.heap.size < _ by simp; omega)).trans ((World.cell?_alloc_lt _ _ _ (show w.heap.size < _ by omega)).trans k3))
     clear hb1 hb2 hb3 hX1 hX2 k1 k2 k3 hr2
     by_cases hq0:q=0
     . subst hq0
       go_wp2_with fail
       refine (qzg _ _ _ _ _ A2 A n2 c2 n c _ xs hD2 hX3 b HB.out).mono ?_
       rintro e w3 ⟨rfl,hb⟩
       have hc3:=hc.trans (hb.mono (by omega))
       have hs4:=hb.size
       clear hb m1
       cases b with
       | true =>
        have e:r=0:=by rw [<-HR.out,if_pos (HMC.out.1 (by simp))]
        subst e
        go_wp2
        go_ret
        exact⟨rfl,hc3,by omega⟩
       | false =>
        have e:r=8:=by rw [<-HR.out,if_neg (fun h=>by have:=HMC.out.2 h; simp at this)]
        subst e
        go_wp2
        go_ret
        exact⟨rfl,hc3,by omega⟩
     have e:r=8:=by rw [<-HR.out,if_neg (fun h=>by have:=HMC.out.2 h; exact hq0 this.1)]
     subst e
     have hne:(q != 0)=true:=by simpa using hq0
     clear hq0
     go_wp2
     go_ret
     exact⟨rfl,hc,by omega⟩
   have e:r=8:=by rw [<-HR.out,if_neg (fun h=>h2 (by rw [<-HL.out]; exact ((qfl own cap xs).1 h).len))]
   subst e
   go_enter Tryz.func124,Tryz.ntmps124
   go_wp2_with fail
   refine (qpr _ own cap own cap 0 HN.out).mono ?_
   rintro e w1 ⟨rfl,hg1⟩
   obtain⟨⟨k1,k2,k3⟩,hs1,hb1⟩:=q0u hg1.below
   clear hg1
   go_wp2
   go_ret
   exact⟨rfl,hb1.alloc (by omega) _,by simp⟩
 have hnr:qm6 own cap=((0,0),2):=by rw [qm6,if_neg h1]
 have HN:=Lib.hid hnr
 have e:r=8:=by rw [<-HR.out,if_neg (fun h=>h1 ((qfl own cap xs).1 h).new)]
 subst e
 clear h1 hnr
 go_enter Tryz.func124,Tryz.ntmps124
 go_wp2_with fail
 refine (qpr _ own cap 0 0 2 HN.out).mono ?_
 rintro e w1 ⟨rfl,hg1⟩
 obtain⟨⟨k1,k2,k3⟩,hs1,hb1⟩:=q0u hg1.below
 clear hg1
 go_wp2
 go_ret
 exact⟨rfl,hb1.alloc (by omega) _,by simp⟩
end De
end Go.Proofs.YtmbppgjhdcmckaaGreatDoor
namespace Go.Proofs.YtmbppgjhdcmckaaGreatDoor
namespace Least
def qca(xs:List Int):Nat->Bool
 | 0=>true
 | k+1=>qca xs k && (k==0 || decide (xs[k-1]?.getD 0 < xs[k]?.getD 0))
def qmt(xs:List Int):Bool:=qca xs xs.length
def checkCode(xs:List Int):Int:=if 8 < xs.length then 4 else if qmt xs then 0 else 8
theorem qf0(xs:List Int)(k:Nat):qca xs k=true↔∀ j,1<=j->j < k->xs[j-1]?.getD 0 < xs[j]?.getD 0:=by
 induction k with
 | zero=>simp [qca]
 | succ k ih =>
  simp only [qca,Bool.and_eq_true,Bool.or_eq_true,beq_iff_eq,decide_eq_true_eq,ih]
  constructor
  . rintro⟨h1,h2⟩ j hj hk
    by_cases e:j=k
    . subst e; exact h2.resolve_left (by omega)
    exact h1 j hj (by omega)
  intro h
  refine⟨fun j h1 h2=>h j h1 (by omega),?_⟩
  by_cases e:k=0
  . exact .inl e
  exact .inr (h k (by omega) (by omega))
theorem qgj{xs:List Int}{k n:Nat}(h:qca xs k=false)(hn:k<=n):qca xs n=false:=by
 rw [Bool.eq_false_iff] at h ⊢
 intro h2
 exact h ((qf0 xs k).2 fun j h1 h3=>(qf0 xs n).1 h2 j h1 (by omega))
theorem qh9:∀ (xs:List Int),(∀ j,1<=j->j < xs.length->xs[j-1]?.getD 0 < xs[j]?.getD 0)->xs.Pairwise (· < ·)
 | [],_=>.nil
 | [x],_=>List.pairwise_singleton _ _
 | x::y::l,h=>by
  have ht:(y::l).Pairwise (· < ·):=qh9 (y::l) fun j h1 h2=>by
   have:=h (j+1) (by omega) (by simp at h2 ⊢; omega)
   obtain⟨j,rfl⟩:∃ i,j=i+1:=⟨j-1,by omega⟩
   simpa using this
  have hxy:x < y:=by simpa using h 1 (by omega) (by simp)
  refine List.pairwise_cons.2 ⟨fun z hz=>?_,ht⟩
  rcases List.mem_cons.1 hz with rfl|hz
  . exact hxy
  exact Int.lt_trans hxy (List.rel_of_pairwise_cons ht hz)
theorem qtw(xs:List Int):qmt xs=true↔xs.Pairwise (· < ·):=by
 unfold qmt
 rw [qf0]
 constructor
 . exact qh9 xs
 intro h j h1 h2
 have:=List.pairwise_iff_getElem.1 h (j-1) j (by omega) h2 (by omega)
 simpa [List.getElem?_eq_getElem (show j-1 < xs.length by omega),List.getElem?_eq_getElem h2] using this
theorem qe5{xs:List Int}(h:checkCode xs=0):xs.length<=8/\xs.Pairwise (· < ·):=by
 unfold checkCode at h
 split at h
 . omega
 split at h
 . exact⟨by omega,(qtw xs).1 (by assumption)⟩
 omega
def guessS(xs:List Int):Int:=if xs.length < 8 then (xs.length:Int) else (30064771072:Int)/(xs[(7:Nat)]?.getD 0)
theorem seventh{xs:List Int}(h:checkCode xs=0)(h8:¬ xs.length < 8)(h0:∀ x∈xs,0<=x):7<=xs[(7:Nat)]?.getD 0:=by
 obtain⟨h1,h2⟩:=qe5 h
 have hp:=List.pairwise_iff_getElem.1 h2
 have e:xs.length=8:=by omega
 have g:∀ k:Nat,(hk:k < xs.length)->(k:Int)<=xs[k]'hk:=by
  intro k
  induction k with
  | zero=>intro hk; exact h0 _ (List.getElem_mem hk)
  | succ k ih=>intro hk; have:=ih (by omega); have:=hp k (k+1) (by omega) hk (by omega); push_cast; omega
 have:=g 7 (by omega)
 rw [List.getElem?_eq_getElem (show 7 < xs.length by omega)]
 simpa using this
end Least
end Go.Proofs.YtmbppgjhdcmckaaGreatDoor
namespace Go.Proofs.YtmbppgjhdcmckaaGreatDoor
open Go.RowKit
namespace Ma
open Dp Dy
def qzb(h:Bool)(mn mx:Int):Bool:=if h then decide (-2147483647<=mn/\mn<=2147483647/\-2147483647<=mx/\mx<=2147483647/\mn<=mx) else decide (mn=0/\mx=0)
noncomputable def qd6(p:Pv):Bool:=!qkg [p.M] && (qzb p.h p.mn p.mx && decide (Least.checkCode p.xs=0))
noncomputable def qey:Int->List Fv->Bool
 | _,[]=>true
 | a,f::l=>decide (a < f.e/\f.e<=65535) && (qd6 f.P && qey f.e l)
noncomputable def qbo(n:Nat)(fs:List Fv):Int:=if 1024 < n then 4 else if qey (-1) fs then 0 else 8
noncomputable def qmh(n:Nat)(fs:List Fv)(z:Int):Int:=if qbo n fs≠0 then qbo n fs else if z < 0∨65535 < z then 2 else 0
def qa9:List Fv->Int->Nat
 | [],_=>0
 | f::l,z=>if f.e < z then qa9 l z+1 else 0
theorem qjz:∀ (fs:List Fv) (z:Int),qa9 fs z<=fs.length
 | [],_=>Nat.le_refl _
 | f::l,z=>by
  have:=qjz l z
  unfold qa9
  split
  . simp; omega
  exact Nat.zero_le _
theorem qut:∀ {fs:List Fv} {a:Int},qey a fs=true->∀ j (h:j < fs.length),a < fs[j].e/\fs[j].e<=65535/\qd6 fs[j].P=true
 | [],_,_,j,h=>absurd h (Nat.not_lt_zero _)
 | f::l,a,hm,j,h=>by
  simp only [qey,Bool.and_eq_true,decide_eq_true_eq] at hm
  obtain⟨⟨h1,h2⟩,h3,h4⟩:=hm
  match j,h with
  | 0,_=>exact⟨h1,h2,h3⟩
  | j+1,h =>
   obtain⟨k1,k2,k3⟩:=qut h4 j (by simpa using h)
   exact⟨by simp; omega,by simpa using k2,by simpa using k3⟩
theorem qnx:∀ {fs:List Fv} {z:Int} (j:Nat) (h:j < fs.length),j < qa9 fs z->fs[j].e < z
 | f::l,z,0,_,hj=>by
  unfold qa9 at hj
  split at hj
  . assumption
  exact absurd hj (Nat.lt_irrefl 0)
 | f::l,z,j+1,h,hj=>by
  unfold qa9 at hj
  split at hj
  . exact qnx (fs:=l) j (by simpa using h) (by omega)
  exact absurd hj (Nat.not_lt_zero _)
theorem qj0:∀ {fs:List Fv} {a z:Int},qey a fs=true->∀ j (h:j < fs.length),qa9 fs z<=j->z<=fs[j].e
 | f::l,a,z,hm,j,h,hj=>by
  have hm':=hm
  simp only [qey,Bool.and_eq_true,decide_eq_true_eq] at hm
  obtain⟨_,_,h4⟩:=hm
  unfold qa9 at hj
  split at hj
  . match j,h with
    | 0,_=>omega
    | j+1,h=>exact qj0 h4 j (by simpa using h) (by omega)
  match j,h with
  | 0,_=>simp; omega
  | j+1,h =>
   have:=(qut h4 j (by simpa using h)).1
   simp
   omega
theorem qm9{fs:List Fv}{i:Nat}(h:i < fs.length)(a:Int):qey a (fs.drop i)=(decide (a < fs[i].e/\fs[i].e<=65535) && (qd6 fs[i].P && qey fs[i].e (fs.drop (i+1)))):=by
 rw [List.drop_eq_getElem_cons h]
 rfl
theorem qql{fs:List Fv}{i:Nat}(h:fs.length<=i)(a:Int):qey a (fs.drop i)=true:=by
 rw [List.drop_eq_nil_of_le h]
 rfl
theorem qjo{n:Nat}{fs:List Fv}(h:qbo n fs=0):n<=1024/\qey (-1) fs=true:=by
 unfold qbo at h
 split at h
 . omega
 split at h
 . exact⟨by omega,by assumption⟩
 omega
theorem qv9{n:Nat}{fs:List Fv}{z:Int}(h:qmh n fs z=0):n<=1024/\qey (-1) fs=true/\0<=z/\z<=65535:=by
 unfold qmh at h
 split at h
 . exact absurd h (by assumption)
 split at h
 . omega
 have h0:qbo n fs=0:=by
  rename_i k _
  exact Classical.byContradiction fun e=>k e
 obtain⟨a,b⟩:=qjo h0
 exact⟨a,b,by omega,by omega⟩
noncomputable def qn4(n:Nat)(fs:List Fv)(z:Int):Int:=if qmh n fs z≠0 then qmh n fs z else match fs[qa9 fs z]? with
 | some f=>if f.e=z then 0 else 6
 | none=>6
end Ma
end Go.Proofs.YtmbppgjhdcmckaaGreatDoor
namespace Go.Proofs.YtmbppgjhdcmckaaGreatDoor
open Go.RowKit
namespace Least
theorem qcb{k:IntKind}{a b:Int}(h:a=b):Ending.returned (.int k a)=.returned (.int k b):=by rw [h]
theorem qio{a b:Bool}(h:a=b):Ending.returned (.bool a)=.returned (.bool b):=by rw [h]
theorem qg2{xs:List Int}{A:Option Addr}{n:Nat}{w:World}{lo hi:Nat}(h:qae w lo hi .u32 A n xs)(hn:0 < n) :
  ∃ b off,A=some ⟨b,off,none⟩/\∀ j,j < n->w.cell? ⟨b,off+j,none⟩=some (.int .u32 (xs[j]?.getD 0)):=by
 obtain⟨b,off,e,_,_,hc⟩:=h.row hn
 exact⟨b,off,e,fun j hj=>(hc j hj).1⟩
theorem Check_any(w:World)(lo hi:Nat)(A:Option Addr)(n c:Nat)(xs:List Int)(h:qae w lo hi .u32 A n xs)(code:Int)(hcode:checkCode xs=code) :
  Calls Tryz.prog 69 #[.slice A n c] w fun e w'=>e=.returned (.int .i64 code)/\∃ m,w'=w.drewN m:=by
 have hlen:=h.len
 have Hl:=Lib.hid h.len
 have hbig:=h.big
 have Hc:=Lib.hid hcode
 clear hcode
 by_cases h8:8 < n
 . have hf:code=4:=by rw [<-Hc.out]; unfold checkCode; rw [if_pos (by omega)]
   have Hf:=Lib.hid hf
   clear hf hlen
   go_enter Tryz.func69,Tryz.ntmps69
   go_wp2
   go_ret
   exact⟨qcb (by rw [Hf.out]),0,rfl⟩
 clear hlen
 go_enter Tryz.func69,Tryz.ntmps69
 go_wp2
 go_loopw [3] (fun i wr=>∃ k:Nat,1<=k/\i=.int .i64 k/\(k<=n∨k=1)/\Hid (qca xs k=true)/\∃ m,wr=w.drewN m) (fun i _=>n-(intOf i).toNat)
 case atStart=>exact⟨1,by omega,rfl,by omega,(by simp [Hid,qca]),0,rfl⟩
 obtain⟨k,hk,rfl,hk1,hr,m,rfl⟩:=hrel
 by_cases hlt:k < n
 . obtain⟨b,off,rfl,hcell⟩:=qg2 h (by omega)
   have g1:w.cell? ⟨b,off+k,none⟩=some (.int .u32 (xs[k]?.getD 0)):=hcell _ (by omega)
   have g2:w.cell? ⟨b,off+(k-1),none⟩=some (.int .u32 (xs[k-1]?.getD 0)):=hcell _ (by omega)
   clear hcell
   go_wp2
   go_quiet (fail)
   go_wp2
   . have hle:xs[k]?.getD 0<=xs[k-1]?.getD 0:=by assumption
     have hf:code=8:=by
      have hl:=Hl.out
      rw [<-Hc.out]; unfold checkCode qmt
      rw [if_neg (by omega),qgj (k:=k+1) (by simp [qca]; omega) (by omega)]
      rfl
     go_ret
     exact⟨qcb (by rw [hf]),m+nq,by simp⟩
   have hgt:xs[k-1]?.getD 0 < xs[k]?.getD 0:=by assumption
   go_roundw
   case rel=>exact⟨k+1,by omega,by go_num,by omega,(by have:=hr.out; simp [Hid,qca,this,hgt]),m+nq,by simp⟩
   case measure=>simp [intOf]; omega
 have hf:code=0:=by
  have hl:=Hl.out
  have hr:=hr.out
  rw [<-Hc.out]; unfold checkCode qmt
  rw [if_neg (by omega)]
  rcases hk1 with hk1|hk1
  . rw [show xs.length=k by omega,hr]; rfl
  subst hk1
  have:xs.length=0∨xs.length=1:=by omega
  rcases this with e|e<;>simp [e,qca]
 have Hf:=Lib.hid hf
 clear hf
 go_wp2
 go_ret
 exact⟨qcb (by rw [Hf.out]),m,rfl⟩
theorem MayLeast_any(w:World)(lo hi:Nat)(A:Option Addr)(n c:Nat)(xs:List Int)(h:qae w lo hi .u32 A n xs)(r:Bool)(hcode:decide (checkCode xs=0)=r) :
  Calls Tryz.prog 85 #[.slice A n c] w fun e w'=>e=.returned (.bool r)/\∃ m,w'=w.drewN m:=by
 have Hl:=Lib.hid h.len
 have hbig:=h.big
 have Hc:=Lib.hid hcode
 clear hcode
 go_enter Tryz.func85,Tryz.ntmps85
 go_wp2
 go_loopw [3] (fun i wr=>∃ k:Nat,1<=k/\i=.int .i64 k/\(k<=n∨k=1)/\Hid (qca xs k=true)/\∃ m,wr=w.drewN m) (fun i _=>n-(intOf i).toNat)
 case atStart=>exact⟨1,by omega,rfl,by omega,(by simp [Hid,qca]),0,rfl⟩
 obtain⟨k,hk,rfl,hk1,hr,m,rfl⟩:=hrel
 by_cases hlt:k < n
 . obtain⟨b,off,rfl,hcell⟩:=qg2 h (by omega)
   have g1:w.cell? ⟨b,off+k,none⟩=some (.int .u32 (xs[k]?.getD 0)):=hcell _ (by omega)
   have g2:w.cell? ⟨b,off+(k-1),none⟩=some (.int .u32 (xs[k-1]?.getD 0)):=hcell _ (by omega)
   clear hcell
   go_wp2
   go_quiet (fail)
   go_wp2
   . have hle:xs[k]?.getD 0<=xs[k-1]?.getD 0:=by assumption
     have hf:r=false:=by
      have hl:=Hl.out
      rw [<-Hc.out]; unfold checkCode qmt
      rw [qgj (k:=k+1) (n:=xs.length) (by simp [qca]; omega) (by omega)]
      split<;>simp
     go_ret
     exact⟨qio (by rw [hf]),m+nq,by simp⟩
   have hgt:xs[k-1]?.getD 0 < xs[k]?.getD 0:=by assumption
   go_roundw
   case rel=>exact⟨k+1,by omega,by go_num,by omega,(by have:=hr.out; simp [Hid,qca,this,hgt]),m+nq,by simp⟩
   case measure=>simp [intOf]; omega
 have hf:r=decide (n<=8):=by
  have hl:=Hl.out
  have hr:=hr.out
  have h2:qmt xs=true:=by
   unfold qmt
   rcases hk1 with hk1|hk1
   . rw [show xs.length=k by omega,hr]
   subst hk1
   have:xs.length=0∨xs.length=1:=by omega
   rcases this with e|e<;>simp [e,qca]
  rw [<-Hc.out]; unfold checkCode
  rw [h2,hl]
  by_cases h9:8 < n
  . simp [h9]
  simp [h9]; omega
 have Hf:=Lib.hid hf
 clear hf
 go_wp2
 go_ret
 refine⟨qio ?_,m,rfl⟩
 rw [Hf.out]
 simp; omega
end Least
end Go.Proofs.YtmbppgjhdcmckaaGreatDoor
namespace Go.Proofs.YtmbppgjhdcmckaaGreatDoor
open Go.RowKit
namespace Ma
open Dp Dy
theorem qc2(mn mx:Int):qzb true mn mx=decide (-2147483647<=mn/\mn<=2147483647/\-2147483647<=mx/\mx<=2147483647/\mn<=mx):=rfl
theorem qdh(mn mx:Int):qzb false mn mx=decide (mn=0/\mx=0):=rfl
theorem qmk(w:World)(x:Int)(b:Bool)(hb:decide (-2147483647<=x/\x<=2147483647)=b) :
  Calls Tryz.prog 131 #[.int .i64 x] w fun e w'=>e=.returned (.bool b)/\Below w.heap.size w w':=by
 by_cases h1:(-2147483647:Int)<=x
 . by_cases h2:x<=2147483647
   . have hb':b=true:=by rw [<-hb]; exact decide_eq_true ⟨h1,h2⟩
     subst hb'
     clear hb
     go_enter Tryz.func131,Tryz.ntmps131
     go_wp2
     go_ret
     exact⟨rfl,Below.refl _ _⟩
   have hb':b=false:=by rw [<-hb]; exact decide_eq_false fun h=>h2 h.2
   subst hb'
   have d2:decide (x<=2147483647)=false:=decide_eq_false h2
   clear hb
   go_enter Tryz.func131,Tryz.ntmps131
   go_wp2
   go_ret
   exact⟨rfl,Below.refl _ _⟩
 have hb':b=false:=by rw [<-hb]; exact decide_eq_false fun h=>h1 h.1
 subst hb'
 have d1:decide ((-2147483647:Int)<=x)=false:=decide_eq_false h1
 clear hb
 go_enter Tryz.func131,Tryz.ntmps131
 go_wp2
 go_ret
 exact⟨rfl,Below.refl _ _⟩
theorem qkn(w:World)(x:Int)(b:Bool)(hb:decide (-2147483647<=x/\x<=2147483647)=b) :
  Calls Tryz.prog 98 #[.int .i64 x] w fun e w'=>e=.returned (.bool b)/\Below w.heap.size w w':=by
 by_cases h1:(-2147483647:Int)<=x
 . by_cases h2:x<=2147483647
   . have hb':b=true:=by rw [<-hb]; exact decide_eq_true ⟨h1,h2⟩
     subst hb'
     clear hb
     go_enter Tryz.func98,Tryz.ntmps98
     go_wp2
     go_ret
     exact⟨rfl,Below.refl _ _⟩
   have hb':b=false:=by rw [<-hb]; exact decide_eq_false fun h=>h2 h.2
   subst hb'
   have d2:decide (x<=2147483647)=false:=decide_eq_false h2
   clear hb
   go_enter Tryz.func98,Tryz.ntmps98
   go_wp2
   go_ret
   exact⟨rfl,Below.refl _ _⟩
 have hb':b=false:=by rw [<-hb]; exact decide_eq_false fun h=>h1 h.1
 subst hb'
 have d1:decide ((-2147483647:Int)<=x)=false:=decide_eq_false h1
 clear hb
 go_enter Tryz.func98,Tryz.ntmps98
 go_wp2
 go_ret
 exact⟨rfl,Below.refl _ _⟩
theorem qlz(w:World)(h:Bool)(mn mx:Int)(k:Bool)(hk:qzb h mn mx=k) :
  Calls Tryz.prog 68 #[.agg #[.bool h,.int .i64 mn,.int .i64 mx]] w fun e w'=>e=.returned (.int .i64 (if k then 0 else 8))/\Below w.heap.size w w':=by
 have fin:=(Below.refl w.heap.size w).alloc (Nat.le_refl _) (.cells #[.bool h,.int .i64 mn,.int .i64 mx] 28)
 have B1:=heap_alloc_last w (.cells #[.bool h,.int .i64 mn,.int .i64 mx] 28)
 have S1:w.heap.size < (w.alloc (.cells #[.bool h,.int .i64 mn,.int .i64 mx] 28)).heap.size:=by simp
 generalize hw:w.alloc (.cells #[.bool h,.int .i64 mn,.int .i64 mx] 28)=w1 at *
 obtain⟨⟨p1,p2,p3⟩,p4,p5,p6⟩:=qam B1
 have HK:=Lib.hid hk
 clear hk
 cases h
 . by_cases e1:mn=0
   . subst e1
     by_cases e2:mx=0
     . subst e2
       have hk':k=true:=by rw [<-HK.out,qdh]; rfl
       subst hk'
       clear HK
       go_enter Tryz.func68,Tryz.ntmps68
       go_wp2
       go_ret
       exact⟨rfl,fin⟩
     have hk':k=false:=by rw [<-HK.out,qdh]; exact decide_eq_false fun h=>e2 h.2
     subst hk'
     have n2:(mx==0)=false:=by simpa using e2
     have n3:(0==mx)=false:=by simpa using Ne.symm e2
     clear HK
     go_enter Tryz.func68,Tryz.ntmps68
     go_wp2
     go_ret
     exact⟨rfl,fin⟩
   have hk':k=false:=by rw [<-HK.out,qdh]; exact decide_eq_false fun h=>e1 h.1
   subst hk'
   have n2:(mn==0)=false:=by simpa using e1
   have n3:(0==mn)=false:=by simpa using Ne.symm e1
   clear HK
   go_enter Tryz.func68,Tryz.ntmps68
   go_wp2
   go_ret
   exact⟨rfl,fin⟩
 obtain⟨b1,hb1⟩:∃ b,decide (-2147483647<=mn/\mn<=2147483647)=b:=⟨_,rfl⟩
 obtain⟨b2,hb2⟩:∃ b,decide (-2147483647<=mx/\mx<=2147483647)=b:=⟨_,rfl⟩
 have HB1:=Lib.hid hb1
 have HB2:=Lib.hid hb2
 clear hb1 hb2
 go_enter Tryz.func68,Tryz.ntmps68
 go_wp2_with fail
 refine (qmk w1 mn b1 HB1.out).mono ?_
 rintro e v1 ⟨rfl,j1⟩
 clear p1 p2 p3 p4 p5 p6
 have B2:=(j1.block _ S1).trans B1
 have fin1:=fin.trans (j1.mono (by omega))
 have S2:=j1.size
 obtain⟨⟨p1,p2,p3⟩,p4,p5,p6⟩:=qam B2
 cases b1
 . have hk':k=false:=by rw [<-HK.out,qc2]; exact decide_eq_false fun h=>of_decide_eq_false HB1.out ⟨h.1,h.2.1⟩
   subst hk'
   clear HK HB1 HB2
   go_wp2
   go_ret
   exact⟨rfl,fin1⟩
 go_wp2_with fail
 refine (qmk v1 mx b2 HB2.out).mono ?_
 rintro e v2 ⟨rfl,j2⟩
 clear p1 p2 p3 p4 p5 p6
 have B3:=(j2.block _ (by omega)).trans B2
 have fin2:=fin1.trans (j2.mono (by omega))
 obtain⟨⟨p1,p2,p3⟩,p4,p5,p6⟩:=qam B3
 cases b2
 . have hk':k=false:=by rw [<-HK.out,qc2]; exact decide_eq_false fun h=>of_decide_eq_false HB2.out ⟨h.2.2.1,h.2.2.2.1⟩
   subst hk'
   clear HK HB1 HB2
   go_wp2
   go_ret
   exact⟨rfl,fin2⟩
 by_cases hlt:mn<=mx
 . have hk':k=true:=by
     rw [<-HK.out,qc2]
     have a1:=of_decide_eq_true HB1.out
     have a2:=of_decide_eq_true HB2.out
     exact decide_eq_true ⟨a1.1,a1.2,a2.1,a2.2,hlt⟩
   subst hk'
   have d1:decide (mx < mn)=false:=decide_eq_false (by omega)
   have d2:decide (mn<=mx)=true:=decide_eq_true hlt
   clear HK HB1 HB2
   go_wp2
   go_ret
   exact⟨rfl,fin2⟩
 have hk':k=false:=by rw [<-HK.out,qc2]; exact decide_eq_false fun h=>hlt h.2.2.2.2
 subst hk'
 have d1:decide (mx < mn)=true:=decide_eq_true (by omega)
 have d2:decide (mn<=mx)=false:=decide_eq_false hlt
 clear HK HB1 HB2
 go_wp2
 go_ret
 exact⟨rfl,fin2⟩
theorem qo1(w:World)(h:Bool)(mn mx:Int)(k:Bool)(hk:qzb h mn mx=k) :
  Calls Tryz.prog 84 #[.agg #[.bool h,.int .i64 mn,.int .i64 mx]] w fun e w'=>e=.returned (.bool k)/\Below w.heap.size w w':=by
 have fin:=(Below.refl w.heap.size w).alloc (Nat.le_refl _) (.cells #[.bool h,.int .i64 mn,.int .i64 mx] 28)
 have B1:=heap_alloc_last w (.cells #[.bool h,.int .i64 mn,.int .i64 mx] 28)
 have S1:w.heap.size < (w.alloc (.cells #[.bool h,.int .i64 mn,.int .i64 mx] 28)).heap.size:=by simp
 generalize hw:w.alloc (.cells #[.bool h,.int .i64 mn,.int .i64 mx] 28)=w1 at *
 obtain⟨⟨p1,p2,p3⟩,p4,p5,p6⟩:=qam B1
 have HK:=Lib.hid hk
 clear hk
 cases h
 . by_cases e1:mn=0
   . subst e1
     by_cases e2:mx=0
     . subst e2
       have hk':k=true:=by rw [<-HK.out,qdh]; rfl
       subst hk'
       clear HK
       go_enter Tryz.func84,Tryz.ntmps84
       go_wp2
       go_ret
       exact⟨rfl,fin⟩
     have hk':k=false:=by rw [<-HK.out,qdh]; exact decide_eq_false fun h=>e2 h.2
     subst hk'
     have n2:(mx==0)=false:=by simpa using e2
     have n3:(0==mx)=false:=by simpa using Ne.symm e2
     clear HK
     go_enter Tryz.func84,Tryz.ntmps84
     go_wp2
     go_ret
     exact⟨rfl,fin⟩
   have hk':k=false:=by rw [<-HK.out,qdh]; exact decide_eq_false fun h=>e1 h.1
   subst hk'
   have n2:(mn==0)=false:=by simpa using e1
   have n3:(0==mn)=false:=by simpa using Ne.symm e1
   clear HK
   go_enter Tryz.func84,Tryz.ntmps84
   go_wp2
   go_ret
   exact⟨rfl,fin⟩
 obtain⟨b1,hb1⟩:∃ b,decide (-2147483647<=mn/\mn<=2147483647)=b:=⟨_,rfl⟩
 obtain⟨b2,hb2⟩:∃ b,decide (-2147483647<=mx/\mx<=2147483647)=b:=⟨_,rfl⟩
 have HB1:=Lib.hid hb1
 have HB2:=Lib.hid hb2
 clear hb1 hb2
 go_enter Tryz.func84,Tryz.ntmps84
 go_wp2_with fail
 refine (qkn w1 mn b1 HB1.out).mono ?_
 rintro e v1 ⟨rfl,j1⟩
 clear p1 p2 p3 p4 p5 p6
 have B2:=(j1.block _ S1).trans B1
 have fin1:=fin.trans (j1.mono (by omega))
 have S2:=j1.size
 obtain⟨⟨p1,p2,p3⟩,p4,p5,p6⟩:=qam B2
 cases b1
 . have hk':k=false:=by rw [<-HK.out,qc2]; exact decide_eq_false fun h=>of_decide_eq_false HB1.out ⟨h.1,h.2.1⟩
   subst hk'
   clear HK HB1 HB2
   go_wp2
   go_ret
   exact⟨rfl,fin1⟩
 go_wp2_with fail
 refine (qkn v1 mx b2 HB2.out).mono ?_
 rintro e v2 ⟨rfl,j2⟩
 clear p1 p2 p3 p4 p5 p6
 have B3:=(j2.block _ (by omega)).trans B2
 have fin2:=fin1.trans (j2.mono (by omega))
 obtain⟨⟨p1,p2,p3⟩,p4,p5,p6⟩:=qam B3
 cases b2
 . have hk':k=false:=by rw [<-HK.out,qc2]; exact decide_eq_false fun h=>of_decide_eq_false HB2.out ⟨h.2.2.1,h.2.2.2.1⟩
   subst hk'
   clear HK HB1 HB2
   go_wp2
   go_ret
   exact⟨rfl,fin2⟩
 by_cases hlt:mn<=mx
 . have hk':k=true:=by
     rw [<-HK.out,qc2]
     have a1:=of_decide_eq_true HB1.out
     have a2:=of_decide_eq_true HB2.out
     exact decide_eq_true ⟨a1.1,a1.2,a2.1,a2.2,hlt⟩
   subst hk'
   have d1:decide (mx < mn)=false:=decide_eq_false (by omega)
   have d2:decide (mn<=mx)=true:=decide_eq_true hlt
   clear HK HB1 HB2
   go_wp2
   go_ret
   exact⟨rfl,fin2⟩
 have hk':k=false:=by rw [<-HK.out,qc2]; exact decide_eq_false fun h=>hlt h.2.2.2.2
 subst hk'
 have d1:decide (mx < mn)=true:=decide_eq_true (by omega)
 have d2:decide (mn<=mx)=false:=decide_eq_false hlt
 clear HK HB1 HB2
 go_wp2
 go_ret
 exact⟨rfl,fin2⟩
theorem CheckPart_any(w:World)(p:Pv)(hR:PRows w 0 w.heap.size p)(k:Bool)(hk:qd6 p=k) :
  Calls Tryz.prog 35 #[.agg #[.bool p.M.S.s,.slice p.M.S.A p.M.S.n p.M.S.c,.int .i64 p.M.S.e,.bool p.M.W.s,.slice p.M.W.A p.M.W.n p.M.W.c,.int .i64 p.M.W.e,.bool p.M.C.s,.slice p.M.C.A p.M.C.n p.M.C.c,.int .i64 p.M.C.e,.bool p.M.A.s,.slice p.M.A.A p.M.A.n p.M.A.c,.int .i64 p.M.A.e,.bool p.h,.int .i64 p.mn,.int .i64 p.mx,.slice p.A p.n p.c]] w fun e w'=>e=.returned (.int .i64 (if k then 0 else 8))/\Below w.heap.size w w':=by
 obtain⟨w1,hw,bP,j1,S1⟩:=alloc_p w p
 obtain⟨q,hq⟩:∃ q,qkg [p.M]=q:=⟨_,rfl⟩
 obtain⟨r,hr⟩:∃ q,qzb p.h p.mn p.mx=q:=⟨_,rfl⟩
 have HQ:=Lib.hid hq
 have HR:=Lib.hid hr
 have HK:=Lib.hid hk
 clear hq hr hk
 go_enter Tryz.func35,Tryz.ntmps35
 obtain⟨⟨q10,q11,q12,q13,q14,q15,q16,q17,q18,q19,q110,q111,q112,q113,q114,q115⟩,q1f⟩:=PBox.cell bP
 go_wp2_with fail
 refine (qte w1 p.M (PRows.on hR j1).M q HQ.out).mono ?_
 rintro e' v2 ⟨rfl,j3⟩
 clear q10 q11 q12 q13 q14 q15 q16 q17 q18 q19 q110 q111 q112 q113 q114 q115 q1f
 try clear hw
 obtain⟨⟨q40,q41,q42,q43,q44,q45,q46,q47,q48,q49,q410,q411,q412,q413,q414,q415⟩,q4f⟩:=PBox.cell (qaa bP j3 S1)
 cases q
 rotate_left
 . have hk':k=false:=by rw [<-HK.out,qd6,HQ.out]; rfl
   subst hk'
   clear HK HQ HR
   go_wp2
   go_ret
   exact⟨rfl,(lz j1 j3)⟩
 skip
 go_wp2_with fail
 refine (qlz v2 p.h p.mn p.mx r HR.out).mono ?_
 rintro e' v5 ⟨rfl,j6⟩
 clear q40 q41 q42 q43 q44 q45 q46 q47 q48 q49 q410 q411 q412 q413 q414 q415 q4f
 try clear hw
 obtain⟨⟨q70,q71,q72,q73,q74,q75,q76,q77,q78,q79,q710,q711,q712,q713,q714,q715⟩,q7f⟩:=PBox.cell (qaa bP (lz j3 j6) S1)
 cases r
 . have hk':k=false:=by rw [<-HK.out,qd6,HQ.out,HR.out]; rfl
   subst hk'
   clear HK HQ HR
   go_wp2
   go_ret
   exact⟨rfl,(lz j1 (lz j3 j6))⟩
 skip
 obtain⟨cd,hcd⟩:∃ c,Least.checkCode p.xs=c:=⟨_,rfl⟩
 have HC:=Lib.hid hcd
 clear hcd
 go_wp2_with fail
 refine (Least.Check_any v5 0 v5.heap.size p.A p.n p.c p.xs (PRows.on hR (lz j1 (lz j3 j6))).L cd HC.out).mono ?_
 rintro e' v_ ⟨rfl,m_,rfl⟩
 have jd:Below w.heap.size w (v5.drewN m_):=qbg (lz j1 (lz j3 j6)) m_
 by_cases h0:cd=0
 . subst h0
   have hk':k=true:=by rw [<-HK.out,qd6,HQ.out,HR.out,HC.out]; rfl
   subst hk'
   clear HK HQ HR HC
   go_wp2
   go_ret
   exact⟨rfl,jd⟩
 have hk':k=false:=by rw [<-HK.out,qd6,HQ.out,HR.out,HC.out,decide_eq_false h0]; rfl
 subst hk'
 have n0:(cd != 0)=true:=by simpa using h0
 clear HK HQ HR HC
 go_wp2
 go_ret
 exact⟨rfl,jd⟩
theorem MayPart_any(w:World)(p:Pv)(hR:PRows w 0 w.heap.size p)(k:Bool)(hk:qd6 p=k) :
  Calls Tryz.prog 41 #[.agg #[.bool p.M.S.s,.slice p.M.S.A p.M.S.n p.M.S.c,.int .i64 p.M.S.e,.bool p.M.W.s,.slice p.M.W.A p.M.W.n p.M.W.c,.int .i64 p.M.W.e,.bool p.M.C.s,.slice p.M.C.A p.M.C.n p.M.C.c,.int .i64 p.M.C.e,.bool p.M.A.s,.slice p.M.A.A p.M.A.n p.M.A.c,.int .i64 p.M.A.e,.bool p.h,.int .i64 p.mn,.int .i64 p.mx,.slice p.A p.n p.c]] w fun e w'=>e=.returned (.bool k)/\Below w.heap.size w w':=by
 obtain⟨w1,hw,bP,j1,S1⟩:=alloc_p w p
 obtain⟨q,hq⟩:∃ q,qkg [p.M]=q:=⟨_,rfl⟩
 obtain⟨r,hr⟩:∃ q,qzb p.h p.mn p.mx=q:=⟨_,rfl⟩
 have HQ:=Lib.hid hq
 have HR:=Lib.hid hr
 have HK:=Lib.hid hk
 clear hq hr hk
 go_enter Tryz.func41,Tryz.ntmps41
 obtain⟨⟨q80,q81,q82,q83,q84,q85,q86,q87,q88,q89,q810,q811,q812,q813,q814,q815⟩,q8f⟩:=PBox.cell bP
 go_wp2_with fail
 refine (qwl w1 p.M (PRows.on hR j1).M q HQ.out).mono ?_
 rintro e' v9 ⟨rfl,j10⟩
 clear q80 q81 q82 q83 q84 q85 q86 q87 q88 q89 q810 q811 q812 q813 q814 q815 q8f
 try clear hw
 obtain⟨⟨q110,q111,q112,q113,q114,q115,q116,q117,q118,q119,q1110,q1111,q1112,q1113,q1114,q1115⟩,q11f⟩:=PBox.cell (qaa bP j10 S1)
 cases q
 rotate_left
 . have hk':k=false:=by rw [<-HK.out,qd6,HQ.out]; rfl
   subst hk'
   clear HK HQ HR
   go_wp2
   go_ret
   exact⟨rfl,(lz j1 j10)⟩
 skip
 go_wp2_with fail
 refine (qo1 v9 p.h p.mn p.mx r HR.out).mono ?_
 rintro e' v12 ⟨rfl,j13⟩
 clear q110 q111 q112 q113 q114 q115 q116 q117 q118 q119 q1110 q1111 q1112 q1113 q1114 q1115 q11f
 try clear hw
 obtain⟨⟨q140,q141,q142,q143,q144,q145,q146,q147,q148,q149,q1410,q1411,q1412,q1413,q1414,q1415⟩,q14f⟩:=PBox.cell (qaa bP (lz j10 j13) S1)
 cases r
 . have hk':k=false:=by rw [<-HK.out,qd6,HQ.out,HR.out]; rfl
   subst hk'
   clear HK HQ HR
   go_wp2
   go_ret
   exact⟨rfl,(lz j1 (lz j10 j13))⟩
 skip
 have hk2:decide (Least.checkCode p.xs=0)=k:=by rw [<-HK.out,qd6,HQ.out,HR.out]; simp
 have HC:=Lib.hid hk2
 clear hk2 HK HQ HR
 go_wp2_with fail
 refine (Least.MayLeast_any v12 0 v12.heap.size p.A p.n p.c p.xs (PRows.on hR (lz j1 (lz j10 j13))).L k HC.out).mono ?_
 rintro e' v_ ⟨rfl,m_,rfl⟩
 have jd:Below w.heap.size w (v12.drewN m_):=qbg (lz j1 (lz j10 j13)) m_
 cases k
 . go_wp2
   go_ret
   exact⟨rfl,jd⟩
 skip
 go_wp2
 go_ret
 exact⟨rfl,jd⟩
def cells17(f:Fv):List Value:=[.int .i64 f.e,.bool f.P.M.S.s,.slice f.P.M.S.A f.P.M.S.n f.P.M.S.c,.int .i64 f.P.M.S.e,.bool f.P.M.W.s,.slice f.P.M.W.A f.P.M.W.n f.P.M.W.c,.int .i64 f.P.M.W.e,.bool f.P.M.C.s,.slice f.P.M.C.A f.P.M.C.n f.P.M.C.c,.int .i64 f.P.M.C.e,.bool f.P.M.A.s,.slice f.P.M.A.A f.P.M.A.n f.P.M.A.c,.int .i64 f.P.M.A.e,.bool f.P.h,.int .i64 f.P.mn,.int .i64 f.P.mx,.slice f.P.A f.P.n f.P.c]
def qih:List Fv->List Value
 | []=>[]
 | f::l=>cells17 f++qih l
theorem qh7:∀ l k,qih (l++k)=qih l++qih k
 | [],_=>rfl
 | f::l,k=>by simp [qih,qh7 l k]
theorem qvg(f:Fv):qih [f]=cells17 f:=by simp [qih]
theorem qeo(f:Fv):∀ u∈cells17 f,u.oneCell'=true:=by
 intro u hu
 simp only [cells17,List.mem_cons,List.not_mem_nil,or_false] at hu
 rcases hu with rfl|rfl|rfl|rfl|rfl|rfl|rfl|rfl|rfl|rfl|rfl|rfl|rfl|rfl|rfl|rfl|rfl<;>rfl
theorem qnj:∀ (l:List Fv) (j k:Nat) (h:j < l.length),k < 17->(qih l)[j*17+k]? = (cells17 l[j])[k]?
 | [],j,k,h,_=>absurd h (Nat.not_lt_zero _)
 | f::l,0,k,_,hk=>by
  simp only [qih,Nat.zero_mul,Nat.zero_add,List.getElem_cons_zero]
  rw [List.getElem?_append_left (by simp [cells17]; omega)]
 | f::l,j+1,k,h,hk=>by
  have e:(j+1)*17+k=(cells17 f).length+(j*17+k):=by simp [cells17]; omega
  simp only [qih,List.getElem_cons_succ]
  rw [e,List.getElem?_append_right (by omega),Nat.add_sub_cancel_left]
  exact qnj l j k (by simpa using h) hk
theorem fcells_of{w:World}{b o:Nat}{f:Fv}(h:∀ k,k < 17->w.cell? ⟨b,o+k,none⟩=(cells17 f)[k]?):qfb w b o f :=
 ⟨h 0 (by decide),h 1 (by decide),h 2 (by decide),h 3 (by decide),h 4 (by decide),h 5 (by decide),h 6 (by decide),h 7 (by decide),h 8 (by decide),h 9 (by decide),h 10 (by decide),h 11 (by decide),h 12 (by decide),h 13 (by decide),h 14 (by decide),h 15 (by decide),h 16 (by decide)⟩
def Fv.off(f:Fv)(g:Option Nat):Prop:=f.P.M.off g/\∀ a,f.P.A=some a->0 < f.P.n->g≠some a.block
theorem qom{w w':World}{row:Option Nat}{f:Fv}(h:PRows w 0 w.heap.size f.P)(hg:w.grownBy w' row)(hr:f.off row):PRows w' 0 w'.heap.size f.P:=⟨qrl h.M hg hr.1,qd7 h.L hg hr.2⟩
theorem qmx{w:World}{lo hi:Nat}{f:Fv}(h:PRows w lo hi f.P){g:Option Nat}(hg:∀ k,g=some k->k < lo∨hi<=k):f.off g:=⟨qw7 h.M hg,fun a e h0 hk=>by
 obtain⟨b,off,e',h1,h2,_⟩:=h.L.row h0
 rw [e'] at e
 injection e with e
 subst e
 have:=hg _ hk
 simp only at this
 omega⟩
structure qk5(w:World)(base:Nat)(v:Value)(n:Nat)(fs:List Fv):Prop where
 own:w.ownsRow base 115 17 v n (qih fs)
 len:fs.length=n
 rows:∀ f∈fs,PRows w 0 w.heap.size f.P
 off:∀ f∈fs,f.off v.ownBlock
theorem qk5.nil_(w:World)(base:Nat):qk5 w base (.slice none 0 0) 0 []:=⟨World.ownsRow_nil ..,rfl,fun _ h=>absurd h (by simp),fun _ h=>absurd h (by simp)⟩
theorem qk5.on{w w':World}{base:Nat}{v:Value}{n:Nat}{fs:List Fv}(h:qk5 w base v n fs)(hb:Below w.heap.size w w'):qk5 w' base v n fs :=
 ⟨h.own.kept (qcy hb none) (by cases v.ownBlock<;>simp),h.len,fun f hf=>(h.rows f hf).on hb,h.off⟩
theorem qk5.push{w w':World}{base:Nat}{v v':Value}{n:Nat}{fs:List Fv}(h:qk5 w base v n fs){d:Fv}(hd:PRows w 0 w.heap.size d.P)(ho:d.off v.ownBlock)
  (hown:w'.ownsRow base 115 17 v' (n+1) (qih fs++cells17 d)) (hg:w.grownBy w' v.ownBlock) (hob:v'.ownBlock=v.ownBlock∨v'.ownBlock=some w.heap.size):qk5 w' base v' (n+1) (fs++[d]):=by
 have hrow:∀ f∈fs++[d],PRows w 0 w.heap.size f.P/\f.off v.ownBlock:=fun f hf=>by
  rcases List.mem_append.1 hf with hf|hf
  . exact⟨h.rows f hf,h.off f hf⟩
  obtain rfl:f=d:=by simpa using hf
  exact⟨hd,ho⟩
 refine⟨by rw [qh7,qvg]; exact hown,by simp [h.len],fun f hf=>qom (hrow f hf).1 hg (hrow f hf).2,fun f hf=>?_⟩
 rcases hob with e|e
 . rw [e]
   exact (hrow f hf).2
 rw [e]
 exact qmx (hrow f hf).1 fun k hk=>by
  injection hk with hk
  omega
theorem qk5.shape{w:World}{base:Nat}{v:Value}{n:Nat}{fs:List Fv}(h:qk5 w base v n fs):∃ A c,v=.slice A n c/\n<=c/\c<=maxLen:=qbb h.own
theorem qk5.lfs{w:World}{base c:Nat}{A:Option Addr}{n:Nat}{fs:List Fv}(h:qk5 w base (.slice A n c) n fs):LFs w 0 w.heap.size A n fs:=by
 have hcap:n<=9223372036854775807:=by
  obtain⟨A',c',e,h1,h2⟩:=qbb h.own
  unfold maxLen at h2
  omega
 refine⟨h.len,hcap,fun h0=>?_,fun j hj=>h.rows _ (List.getElem_mem hj)⟩
 rcases h.own.2 with ⟨e,e0⟩|⟨g,cap,cur,e,hb,hg,_⟩
 . omega
 have hown:=h.own
 rw [e] at hown
 injection e with e1 e2 e3
 refine⟨g,0,e1,Nat.zero_le _,(Array.getElem?_eq_some_iff.1 hg).1,fun j hj=>?_⟩
 rw [Nat.zero_add]
 refine fcells_of fun k hk=>?_
 have hlt:j*17+k < n*17:=by have:=h.len; omega
 rw [hown.cellAt (j*17+k) hlt]
 exact qnj fs j k hj hk
theorem qxe(w:World)(f:Fv){W:World}(hW:w.alloc (.cells #[.int .i64 f.e,.bool f.P.M.S.s,.slice f.P.M.S.A f.P.M.S.n f.P.M.S.c,.int .i64 f.P.M.S.e,.bool f.P.M.W.s,.slice f.P.M.W.A f.P.M.W.n f.P.M.W.c,.int .i64 f.P.M.W.e,.bool f.P.M.C.s,.slice f.P.M.C.A f.P.M.C.n f.P.M.C.c,.int .i64 f.P.M.C.e,.bool f.P.M.A.s,.slice f.P.M.A.A f.P.M.A.n f.P.M.A.c,.int .i64 f.P.M.A.e,.bool f.P.h,.int .i64 f.P.mn,.int .i64 f.P.mx,.slice f.P.A f.P.n f.P.c] 115)=W):Raw W 0 (w.heap.size+1) (some ⟨w.heap.size,0,none⟩) (1*17) (cells17 f):=by
 subst hW
 have hX:=heap_alloc_last w (.cells #[.int .i64 f.e,.bool f.P.M.S.s,.slice f.P.M.S.A f.P.M.S.n f.P.M.S.c,.int .i64 f.P.M.S.e,.bool f.P.M.W.s,.slice f.P.M.W.A f.P.M.W.n f.P.M.W.c,.int .i64 f.P.M.W.e,.bool f.P.M.C.s,.slice f.P.M.C.A f.P.M.C.n f.P.M.C.c,.int .i64 f.P.M.C.e,.bool f.P.M.A.s,.slice f.P.M.A.A f.P.M.A.n f.P.M.A.c,.int .i64 f.P.M.A.e,.bool f.P.h,.int .i64 f.P.mn,.int .i64 f.P.mx,.slice f.P.A f.P.n f.P.c] 115)
 refine⟨rfl,fun _=>⟨w.heap.size,0,rfl,Nat.zero_le _,by omega,fun j hj=>⟨?_,frozen_of_row _ _ _ _ _ hX⟩⟩⟩
 rw [cell_of_row _ _ _ _ _ _ hX]
 simp [cells17]
theorem qi1{fs gs:List Fv}(hl:fs.length=gs.length)(h:∀ j (h1:j < fs.length) (h2:j < gs.length),fs[j].e=gs[j].e/\qbf fs[j].P gs[j].P=true):qcp fs gs=true:=by
 unfold qcp
 rw [decide_eq_true hl,Bool.true_and,List.all_eq_true]
 intro x hx
 obtain⟨j,hj,rfl⟩:=List.mem_iff_getElem.1 hx
 rw [List.getElem_zip]
 have h1:j < fs.length:=by rw [List.length_zip] at hj; omega
 have h2:j < gs.length:=by omega
 obtain⟨k1,k2⟩:=h j h1 h2
 show (decide (fs[j].e=gs[j].e) && qbf fs[j].P gs[j].P)=true
 rw [decide_eq_true k1,k2]
 rfl
theorem qlc{fs gs:List Fv}{i:Nat}(h1:i < fs.length)(h2:i < gs.length)(h:¬ (fs[i].e=gs[i].e/\qbf fs[i].P gs[i].P=true)):qcp fs gs=false:=by
 cases hx:qcp fs gs
 . rfl
 exfalso
 unfold qcp at hx
 rw [Bool.and_eq_true,List.all_eq_true] at hx
 have hz:i < (fs.zip gs).length:=by rw [List.length_zip]; omega
 have:=hx.2 _ (List.getElem_mem hz)
 rw [List.getElem_zip] at this
 have k:(decide (fs[i].e=gs[i].e) && qbf fs[i].P gs[i].P)=true:=this
 rw [Bool.and_eq_true,decide_eq_true_eq] at k
 exact h k
theorem qmr{fs gs:List Fv}(h:fs.length≠gs.length):qcp fs gs=false:=by
 unfold qcp
 rw [decide_eq_false h]
 rfl
theorem RSameF_any(w:World)(A A':Option Addr)(n c n' c':Nat)(fs gs:List Fv)(hL:LFs w 0 w.heap.size A n fs)(hL':LFs w 0 w.heap.size A' n' gs)(r:Bool)(hr:qcp fs gs=r) :
  Calls Tryz.prog 59 #[.slice A n c,.slice A' n' c'] w fun e w'=>e=.returned (.bool r)/\Below w.heap.size w w':=by
 have HL:=Lib.hid hL.len
 have HL':=Lib.hid hL'.len
 have HR:=Lib.hid hr
 have hbig:=hL.big
 have hbig':=hL'.big
 clear hr
 go_enter Tryz.func59,Tryz.ntmps59
 by_cases hnn:n=n'
 rotate_left
 . have hr':r=false:=by rw [<-HR.out]; exact qmr (by rw [HL.out,HL'.out]; exact hnn)
   subst hr'
   have hnb:((n:Int) != (n':Int))=true:=by
    have:(n:Int)≠(n':Int):=by omega
    simpa using this
   clear HR
   go_wp2
   go_ret
   exact⟨rfl,Below.refl _ _⟩
 subst hnn
 go_wp2
 go_loopw [4,5] (fun ev iv wr=>∃ i:Nat,iv=.int .i64 i/\ev=.bool false/\i<=n/\Below w.heap.size w wr/\Hid (∀ j (h1:j < fs.length) (h2:j < gs.length),j < i->fs[j].e=gs[j].e/\qbf fs[j].P gs[j].P=true)) (fun _ iv _=>n-(intOf iv).toNat)
 case atStart=>exact⟨0,rfl,rfl,Nat.zero_le _,Below.refl _ _,Lib.hid fun _ _ _ h=>absurd h (Nat.not_lt_zero _)⟩
 obtain⟨i,rfl,rfl,hi1,hb,hall⟩:=hrel
 by_cases hi:i < n
 rotate_left
 . have hr':r=true:=by
     rw [<-HR.out]
     exact qi1 (HL.out.trans HL'.out.symm) fun j h1 h2=>hall.out j h1 h2 (by have:=HL.out; omega)
   subst hr'
   go_wp2
   go_ret
   exact⟨rfl,hb⟩
 have hi2:i < fs.length:=by rw [HL.out]; exact hi
 have hi3:i < gs.length:=by rw [HL'.out]; exact hi
 obtain⟨b,off,hA,hb1,hb2,hc⟩:=(hL.below hb (Nat.le_refl _)).row (by omega)
 obtain⟨b',off',hA',hb1',hb2',hc'⟩:=(hL'.below hb (Nat.le_refl _)).row (by omega)
 have hci:=Lib.hid (hc i hi2)
 have hdi:=Lib.hid (hc' i hi3)
 have hri:=(hL.below hb (Nat.le_refl _)).rows i hi2
 have hsi:=(hL'.below hb (Nat.le_refl _)).rows i hi3
 obtain⟨f,hf⟩:∃ f,fs[i]=f:=⟨_,rfl⟩
 obtain⟨h,hh⟩:∃ f,gs[i]=f:=⟨_,rfl⟩
 rw [hf] at hci hri
 rw [hh] at hdi hsi
 have HF:=Lib.hid hf
 have HH:=Lib.hid hh
 have hwrj:IntKind.i64.wrap ((i:Int)+1)=((i+1:Nat):Int):=by rw [IntKind.wrap_i64]; omega
 clear hc hc' hf hh
 subst hA hA'
 have lw:=hb.size
 go_wp2_with fail
 refine zB (qan wr) [] 25 ?_
 have kp0:qan wr wr.drew:=fun _ _=>rfl
 have b0:Below wr.heap.size wr wr.drew:=(Below.refl _ _).drew
 have hbw:b < wr.heap.size:=by omega
 have hbw':b' < wr.heap.size:=by omega
 generalize wr.drew=v0 at *
 refine zM 4 [0,1,2,3] ?_ ?_
 refine zD 4 (.int .i64 f.e) rfl ?y4_ ?z4_
 case y4_ =>
  intro w' h1
  have k_:=(hci.out.blk (h1 _ hbw)).1
  go_simp
 try simp only [Act.put,zp]
 refine zM 4 [5,6,7,8] ?_ ?_
 refine zD 9 (.int .i64 h.e) rfl ?y9_ ?z9_
 case y9_ =>
  intro w' h1
  have k_:=(hdi.out.blk (h1 _ hbw')).1
  go_simp
 try simp only [Act.put,zp]
 by_cases he:f.e=h.e
 rotate_left
 . have heb:(f.e != h.e)=true:=by simpa using he
   have hr':r=false:=by
    rw [<-HR.out]
    exact qlc hi2 hi3 (by rw [HF.out,HH.out]; exact fun k=>he k.1)
   subst hr'
   refine zM 2 [10,11] ?_ ?_
   refine zS 12 [12,13,14,15,16,17,18,19,20,21,22,23] ?_ ?_
   refine zM 1 [24] ?_ ?_
   refine qa2 (by kernel_rfl) ?_ _
   clear heb
   go_wp2
   go_ret
   exact⟨rfl,hb.trans (b0.mono lw)⟩
 have heb:(f.e != h.e)=false:=by simpa using he
 refine zM 2 [10,11] ?_ ?_
 clear heb
 refine zM 4 [12,13,14,15] ?_ ?_
 refine zD 16 (.agg #[.bool f.P.M.S.s,.slice f.P.M.S.A f.P.M.S.n f.P.M.S.c,.int .i64 f.P.M.S.e,.bool f.P.M.W.s,.slice f.P.M.W.A f.P.M.W.n f.P.M.W.c,.int .i64 f.P.M.W.e,.bool f.P.M.C.s,.slice f.P.M.C.A f.P.M.C.n f.P.M.C.c,.int .i64 f.P.M.C.e,.bool f.P.M.A.s,.slice f.P.M.A.A f.P.M.A.n f.P.M.A.c,.int .i64 f.P.M.A.e,.bool f.P.h,.int .i64 f.P.mn,.int .i64 f.P.mx,.slice f.P.A f.P.n f.P.c]) rfl ?y16_ ?z16_
 case y16_ =>
  intro w' h1
  exact run_load_op 30 (.tmp 32) rfl b (off+i*17+1) rfl (qbk f.P) _ (hci.out.blk (h1 _ hbw)).part Tryz.underlying30 rfl (by kernel_rfl)
 try simp only [Act.put,zp]
 refine zM 4 [17,18,19,20] ?_ ?_
 refine zD 21 (.agg #[.bool h.P.M.S.s,.slice h.P.M.S.A h.P.M.S.n h.P.M.S.c,.int .i64 h.P.M.S.e,.bool h.P.M.W.s,.slice h.P.M.W.A h.P.M.W.n h.P.M.W.c,.int .i64 h.P.M.W.e,.bool h.P.M.C.s,.slice h.P.M.C.A h.P.M.C.n h.P.M.C.c,.int .i64 h.P.M.C.e,.bool h.P.M.A.s,.slice h.P.M.A.A h.P.M.A.n h.P.M.A.c,.int .i64 h.P.M.A.e,.bool h.P.h,.int .i64 h.P.mn,.int .i64 h.P.mx,.slice h.P.A h.P.n h.P.c]) rfl ?y21_ ?z21_
 case y21_ =>
  intro w' h1
  exact run_load_op 30 (.tmp 37) rfl b' (off'+i*17+1) rfl (qbk h.P) _ (hdi.out.blk (h1 _ hbw')).part Tryz.underlying30 rfl (by kernel_rfl)
 try simp only [Act.put,zp]
 obtain⟨q,hq⟩:∃ q,qbf f.P h.P=q:=⟨_,rfl⟩
 have HQ:=Lib.hid hq
 clear hq
 refine zK 22 rfl fun K hK=>?_
 go_simp
 go_at_call 16
 refine (RSamePart_any v0 f.P h.P ((hri.more (Nat.le_refl _) lw).on b0) ((hsi.more (Nat.le_refl _) lw).on b0) q HQ.out).mono ?_
 rintro e' v1 ⟨rfl,j1⟩
 have b1:=lz b0 j1
 have hb5:=hb.trans (b1.mono lw)
 refine hK _ _ ⟨fun _ _=>fun p hp=>b1.block p hp,?_⟩
 clear hK K kp0
 try simp only [Act.put,zp]
 cases q
 . have hr':r=false:=by
     rw [<-HR.out]
     exact qlc hi2 hi3 (by rw [HF.out,HH.out,HQ.out]; exact fun k=>by cases k.2)
   subst hr'
   refine zM 2 [23,24] ?_ ?_
   refine qa2 (by kernel_rfl) ?_ _
   go_wp2
   go_ret
   exact⟨rfl,hb5⟩
 have hall2:Hid (∀ j (h1:j < fs.length) (h2:j < gs.length),j < i+1->fs[j].e=gs[j].e/\qbf fs[j].P gs[j].P=true):=Lib.hid fun j h1 h2 h3=>by
  by_cases e:j=i
  . subst e
    rw [HF.out,HH.out]
    exact⟨he,HQ.out⟩
  exact hall.out j h1 h2 (by omega)
 refine zM 2 [23,24] ?_ ?_
 refine qa2 (by kernel_rfl) ?_ _
 go_wp2
 go_roundw
 case rel=>exact⟨i+1,by first | rfl | (congr 1; omega) | go_num,rfl,by omega,hb5,hall2⟩
 case measure=>first | (simp [intOf]; done) | (simp [intOf]; omega)
end Ma
end Go.Proofs.YtmbppgjhdcmckaaGreatDoor