/- Dyads: copies; the reference's: whether they are great, the same, copies: walks. -/
import Derived.Test.YtmbppgjhdcmckaaGreatDoorBj08
set_option maxHeartbeats 102400000
set_option maxRecDepth 100000
namespace Go.Proofs.YtmbppgjhdcmckaaGreatDoor
open Go.RowKit
namespace Pa
theorem qs1{w:World}{g:Nat}{x y z:Value}{t:TypeId}(h:w.heap[g]? = some (.cells #[x,y,z] t (0,0))) :
  (w.cell? ⟨g,0,none⟩=some x/\w.cell? ⟨g,1,none⟩=some y/\w.cell? ⟨g,2,none⟩=some z)/\(w.frozen? ⟨g,0,none⟩=false/\w.frozen? ⟨g,1,none⟩=false/\w.frozen? ⟨g,2,none⟩=false) :=
 ⟨⟨cell_of_row w g 0 _ t _ h,cell_of_row w g 1 _ t _ h,cell_of_row w g 2 _ t _ h⟩,frozen_of_row w g 0 _ t h,frozen_of_row w g 1 _ t h,frozen_of_row w g 2 _ t h⟩
theorem qfm{base g:Nat}{w w':World}{x}(hb:Below base w w')(hg:g < base)(h:w.heap[g]? = some x):w'.heap[g]? = some x:=(hb.block _ hg).trans h
theorem qce{g:Nat}{w:World}{x}(o)(h:w.heap[g]? = some x):(w.alloc o).heap[g]? = some x:=(Below.heap_alloc _ _ _ (qos h)).trans h
theorem qad{w:World}{lo hi:Nat}{k:IntKind}{A:Option Addr}{n:Nat}{xs:List Int}(h:qae w lo hi k A n xs){p:Addr}(hp:p.block < lo∨hi<=p.block)(u:Value):qae (w.setCell p u) lo hi k A n xs :=
 ⟨h.len,h.wf,h.big,fun hn=>by
  obtain⟨b,off,e,h1,h2,hc⟩:=h.row hn
  exact⟨b,off,e,h1,h2,fun j hj=>⟨(World.cell?_setCell_other w p _ u (fun e=>by subst e; simp at hp; omega)).trans (hc j hj).1,(World.frozen?_setCell ..).trans (hc j hj).2⟩⟩⟩
theorem dyadTwin_any(w:World)(s:Bool)(A:Option Addr)(n c:Nat)(xs:List Int)(e:Int)(hX:qae w 0 w.heap.size .u32 A n xs)(hn:n<=1000000) :
  Calls Tryz.prog 73 #[.agg #[.bool s,.slice A n c,.int .i64 e]] w fun r w'=>∃ A' c',r=.returned (.agg #[.bool s,.slice A' n c',.int .i64 e])/\n<=c'/\Below w.heap.size w w'/\w.heap.size < w'.heap.size/\qae w' (w.heap.size+2) w'.heap.size .u32 A' n xs:=by
 have hxw:=Lib.hid hX.wf
 have hbig:=hX.big
 have hX2:=(hX.alloc (Nat.le_refl _) (.cells #[.bool s,.slice A n c,.int .i64 e] 24)).alloc (by simp) (.cells #[.bool false,.slice none 0 0,.int .i64 0] 24)
 go_enter Tryz.func73,Tryz.ntmps73
 go_wp2_with fail
 refine (qj6 _ _ _ A n c xs hX2 (by simp; omega) hn).mono ?_
 rintro e w1 ⟨A2,c2,rfl,hc2,hb1,hown1⟩
 (try simp at hown1)
 have hD:=qae.of_own hown1 hxw.out hbig
 have hs1:=hb1.size
 simp at hs1
 have G1:=qfm hb1 (by simp; omega) (qce (.cells #[.bool false,.slice none 0 0,.int .i64 0] 24) (qd8 w (.cells #[.bool s,.slice A n c,.int .i64 e] 24) _ rfl))
 have G2:=qfm hb1 (by simp) (qd8 (w.alloc (.cells #[.bool s,.slice A n c,.int .i64 e] 24)) (.cells #[.bool false,.slice none 0 0,.int .i64 0] 24) (w.heap.size+1) (by simp))
 obtain⟨⟨k1,k2,k3⟩,k4,k5,k6⟩:=qs1 G1
 obtain⟨⟨p1,p2,p3⟩,p4,p5,p6⟩:=qs1 G2
 have hbb:=(((Below.refl w.heap.size w).alloc (Nat.le_refl _) (.cells #[.bool s,.slice A n c,.int .i64 e] 24)).alloc (by simp) (.cells #[.bool false,.slice none 0 0,.int .i64 0] 24)).trans (hb1.mono (by simp; omega))
 clear hb1 hown1 G1 G2
 go_wp2
 refine bodyPost_ret (v:=.agg #[.bool s,.slice A2 n c2,.int .i64 e]) (by simp [results,Tryz.results73,go_sem,p1,p2,p3]) rfl ⟨A2,c2,rfl,hc2,?_,?_,?_⟩
 . repeat (refine Below.setCell ?_ (by simp; try omega) _)
   exact hbb
 . simp [World.setCell]
   omega
 refine qae.more (lo:=w.heap.size+2) (hi:=w1.heap.size) ?_ (Nat.le_refl _) (by simp [World.setCell])
 repeat (refine qad ?_ (by simp; try omega) _)
 exact hD
theorem own_emptyg(w:World)(g base:Nat)(e:TypeId)(size:Nat)(hg:g=w.heap.size)(h:base<=w.heap.size):(w.alloc (.cells #[] e)).ownsRow base e size (.slice (some ⟨g,0,none⟩) 0 0) 0 []:=by
 subst hg
 exact qdl w base e size h
theorem rTwin_any(w:World)(s:Bool)(A:Option Addr)(n c:Nat)(xs:List Int)(e:Int)(hX:qae w 0 w.heap.size .u32 A n xs)(hn:n<=1000000) :
  Calls Tryz.prog 66 #[.agg #[.bool s,.slice A n c,.int .i64 e]] w fun r w'=>∃ A' c',r=.returned (.agg #[.bool s,.slice A' n c',.int .i64 e])/\n<=c'/\Below w.heap.size w w'/\w.heap.size < w'.heap.size/\qae w' (w.heap.size+2) w'.heap.size .u32 A' n xs:=by
 have hxw:=Lib.hid hX.wf
 have hbig:=hX.big
 have hX2:=(hX.alloc (Nat.le_refl _) (.cells #[.bool s,.slice A n c,.int .i64 e] 24)).alloc (by simp) (.cells #[.bool false,.slice none 0 0,.int .i64 0] 24)
 obtain⟨i0,hi0,hz0,hz1,hz2⟩:=info_parts infoU32
 go_enter Tryz.func66,Tryz.ntmps66
 go_wp2_with (first
  | (at_builtin; refine qag _ rfl (.tmp 3) (.tmp 5) 22 rfl (w.heap.size+1+1) 48 i0 _ 1 4 Tryz.underlying22 hi0 hz0 hz1 hz2 rfl (by decide) _ _ _ rfl (own_emptyg _ _ _ _ 1 (by simp) (by simp)) _ _ _ n _ _ rfl (hX2.alloc (by simp; omega) _).raw ?c1 ?c2 ?c3 ?c4 ?_))
 case c1=>exact u32_one _
 case c2=>unfold maxLen; omega
 case c3=>omega
 case c4=>simp
 intro A2 c2 w1 hown1 hgrow1 _
 have hb1:Below ((w.alloc (.cells #[.bool s,.slice A n c,.int .i64 e] 24)).alloc (.cells #[.bool false,.slice none 0 0,.int .i64 0] 24)).heap.size ((w.alloc (.cells #[.bool s,.slice A n c,.int .i64 e] 24)).alloc (.cells #[.bool false,.slice none 0 0,.int .i64 0] 24)) w1:=((Below.refl _ _).alloc (Nat.le_refl _) _).grown hgrow1 (by simp) (fun q hq=>by simp [Value.ownBlock] at hq; simp; omega)
 have hc2:=qd0 hown1
 clear hgrow1
 (try simp at hown1)
 have hD:=qae.of_own hown1 hxw.out hbig
 have hs1:=hb1.size
 simp at hs1
 have G1:=qfm hb1 (by simp; omega) (qce (.cells #[.bool false,.slice none 0 0,.int .i64 0] 24) (qd8 w (.cells #[.bool s,.slice A n c,.int .i64 e] 24) _ rfl))
 have G2:=qfm hb1 (by simp) (qd8 (w.alloc (.cells #[.bool s,.slice A n c,.int .i64 e] 24)) (.cells #[.bool false,.slice none 0 0,.int .i64 0] 24) (w.heap.size+1) (by simp))
 obtain⟨⟨k1,k2,k3⟩,k4,k5,k6⟩:=qs1 G1
 obtain⟨⟨p1,p2,p3⟩,p4,p5,p6⟩:=qs1 G2
 have hbb:=(((Below.refl w.heap.size w).alloc (Nat.le_refl _) (.cells #[.bool s,.slice A n c,.int .i64 e] 24)).alloc (by simp) (.cells #[.bool false,.slice none 0 0,.int .i64 0] 24)).trans (hb1.mono (by simp; omega))
 clear hb1 hown1 G1 G2
 go_wp2
 refine bodyPost_ret (v:=.agg #[.bool s,.slice A2 n c2,.int .i64 e]) (by simp [results,Tryz.results66,go_sem,p1,p2,p3]) rfl ⟨A2,c2,rfl,hc2,?_,?_,?_⟩
 . repeat (refine Below.setCell ?_ (by simp; try omega) _)
   exact hbb
 . simp [World.setCell]
   omega
 refine qae.more (lo:=w.heap.size+2) (hi:=w1.heap.size) ?_ (Nat.le_refl _) (by simp [World.setCell])
 repeat (refine qad ?_ (by simp; try omega) _)
 exact hD
theorem qrs(w:World)(lo hi lo' hi':Nat)(A A':Option Addr)(n c n' c':Nat)(xs ys:List Int)(hX:qae w lo hi .u32 A n xs)(hY:qae w lo' hi' .u32 A' n' ys)(r:Bool)(hr:Sm xs ys=r) :
  Calls Tryz.prog 44 #[.slice A n c,.slice A' n' c'] w fun e w'=>e=.returned (.bool r)/\∃ m,w'=w.drewN m:=by
 have HR:=Lib.hid hr
 have HX:=Lib.hid hX.len
 have HY:=Lib.hid hY.len
 have hbx:=hX.big
 have hby:=hY.big
 clear hr
 by_cases hnn:n=n'
 . subst hnn
   go_enter Tryz.func44,Tryz.ntmps44
   go_wp2
   go_loopw [5] (fun iv wr=>∃ k:Nat,iv=.int .i64 k/\k<=n/\Hid (xs.take k=ys.take k)/\∃ m,wr=w.drewN m) (fun iv _=>n-(intOf iv).toNat)
   case atStart=>exact⟨0,rfl,Nat.zero_le _,rfl,0,rfl⟩
   obtain⟨k,rfl,hk,htk,m,rfl⟩:=hrel
   by_cases hlt:k < n
   . obtain⟨b,off,rfl,_,_,hc⟩:=hX.row (by omega)
     obtain⟨b',off',rfl,_,_,hc'⟩:=hY.row (by omega)
     have g1:=(hc k hlt).1
     have g2:=(hc' k hlt).1
     have hk0:(0:Int)<=k:=by omega
     have hkn:(k:Int) < n:=by omega
     have hnx:Hid (xs[k]?.getD 0=ys[k]?.getD 0->xs.take (k+1)=ys.take (k+1)):=fun he=>qbh (by rw [HX.out]; exact hlt) (by rw [HY.out]; exact hlt) htk.out he
     have hno:Hid (xs[k]?.getD 0≠ys[k]?.getD 0->Sm xs ys=false):=fun he=>qs7 he
     clear hc hc'
     generalize xs[k]?.getD 0=x at g1 hnx hno
     generalize ys[k]?.getD 0=y at g2 hnx hno
     by_cases he:x=y
     . subst he
       have hn2:=Lib.hid (hnx.out rfl)
       have hne:(x != x)=false:=by simp
       go_wp2
       go_quiet (fail)
       go_wp2
       go_roundw
       case rel=>exact⟨k+1,by go_num,by omega,hn2,_,rfl⟩
       case measure=>simp [intOf]; omega
     have e2:r=false:=by rw [<-HR.out]; exact hno.out he
     subst e2
     have hne:(x != y)=true:=by simpa using he
     go_wp2
     go_quiet (fail)
     go_wp2
     go_ret
     exact⟨rfl,_,qb5 ..⟩
   obtain rfl:k=n:=by omega
   have e2:r=true:=by
    rw [<-HR.out]
    have:=htk.out
    rw [List.take_of_length_le (by rw [HX.out]; exact Nat.le_refl _),List.take_of_length_le (by rw [HY.out]; exact Nat.le_refl _)] at this
    rw [this]
    exact Sm_refl _
   subst e2
   go_wp2
   go_ret
   exact⟨rfl,m,rfl⟩
 have e2:r=false:=by rw [<-HR.out]; exact qk3 (by rw [HX.out,HY.out]; exact hnn)
 subst e2
 have hne:((n:Int) != n')=true:=by simpa using (show ¬ (n:Int)=n' by omega)
 have hne2:(n != n')=true:=by simpa using hnn
 go_enter Tryz.func44,Tryz.ntmps44
 go_wp2
 go_ret
 exact⟨rfl,0,rfl⟩
theorem rSame_any(w:World)(s s':Bool)(A A':Option Addr)(n c n' c':Nat)(xs ys:List Int)(e e':Int)(hX:qae w 0 w.heap.size .u32 A n xs)(hY:qae w 0 w.heap.size .u32 A' n' ys)(r:Bool)(hr:Dy.same ⟨s,xs,e⟩ ⟨s',ys,e'⟩=r) :
  Calls Tryz.prog 15 #[.agg #[.bool s,.slice A n c,.int .i64 e],.agg #[.bool s',.slice A' n' c',.int .i64 e']] w fun e w'=>e=.returned (.bool r)/\Below w.heap.size w w':=by
 have fin:=((Below.refl w.heap.size w).alloc (Nat.le_refl _) (.cells #[.bool s,.slice A n c,.int .i64 e] 24)).alloc (by simp) (.cells #[.bool s',.slice A' n' c',.int .i64 e'] 24)
 have hX2:=(hX.alloc (Nat.le_refl _) (.cells #[.bool s,.slice A n c,.int .i64 e] 24)).alloc (by simp) (.cells #[.bool s',.slice A' n' c',.int .i64 e'] 24)
 have hY2:=(hY.alloc (Nat.le_refl _) (.cells #[.bool s,.slice A n c,.int .i64 e] 24)).alloc (by simp) (.cells #[.bool s',.slice A' n' c',.int .i64 e'] 24)
 have HR:=Lib.hid hr
 clear hr
 by_cases h1:s=s'
 . subst h1
   have h1':(s==s)=true:=by simp
   by_cases h2:e=e'
   . subst h2
     have h2':(e==e)=true:=by simp
     have hs:Hid (Sm xs ys=r):=by rw [Hid,<-HR.out]; simp [Dy.same]
     go_enter Tryz.func15,Tryz.ntmps15
     go_wp2_with fail
     refine (qrs _ _ _ _ _ A A' n c n' c' xs ys hX2 hY2 r hs.out).mono ?_
     rintro e w1 ⟨rfl,m,rfl⟩
     go_wp2
     go_ret
     exact⟨rfl,qbg fin m⟩
   have h2':(e==e')=false:=by simpa using h2
   have e2:r=false:=by rw [<-HR.out]; simp [Dy.same,h2]
   subst e2
   go_enter Tryz.func15,Tryz.ntmps15
   go_wp2
   go_ret
   exact⟨rfl,fin⟩
 have h1':(s==s')=false:=by simpa using h1
 have e2:r=false:=by rw [<-HR.out]; simp [Dy.same,h1]
 subst e2
 go_enter Tryz.func15,Tryz.ntmps15
 go_wp2
 go_ret
 exact⟨rfl,fin⟩
def Dy.great(a:Dy):Bool:=decide (42 < a.limbs.length) || decide (1100 < a.exp)
theorem rGreat_any(w:World)(s:Bool)(A:Option Addr)(n c:Nat)(xs:List Int)(e:Int)(hl:xs.length=n)(r:Bool)(hr:Dy.great ⟨s,xs,e⟩=r) :
  Calls Tryz.prog 33 #[.agg #[.bool s,.slice A n c,.int .i64 e]] w fun q w'=>q=.returned (.bool r)/\Below w.heap.size w w':=by
 have HR:=Lib.hid hr
 have HL:=Lib.hid hl
 have fin:=(Below.refl w.heap.size w).alloc (Nat.le_refl _) (.cells #[.bool s,.slice A n c,.int .i64 e] 24)
 clear hr hl
 by_cases h1:42 < n
 . have e2:r=true:=by rw [<-HR.out,Dy.great]; simp; left; rw [HL.out]; exact h1
   subst e2
   have h1':decide ((42:Int) < n)=true:=by simp; omega
   go_enter Tryz.func33,Tryz.ntmps33
   go_wp2
   go_ret
   exact⟨rfl,fin⟩
 have h1':decide ((42:Int) < n)=false:=by simp; omega
 have e2:Hid (decide ((1100:Int) < e)=r):=by rw [Hid,<-HR.out,Dy.great]; simp [HL.out,h1]
 go_enter Tryz.func33,Tryz.ntmps33
 go_wp2
 go_ret
 exact⟨by rw [<-e2.out]; rfl,fin⟩
end Pa
end Go.Proofs.YtmbppgjhdcmckaaGreatDoor
namespace Go.Proofs.YtmbppgjhdcmckaaGreatDoor
open Go.RowKit
namespace Dy
open Dp
theorem qck{w:World}{lo hi:Nat}{A:Option Addr}{n:Nat}{xs:List Int}(h:qae w lo hi .u32 A n xs):Dig 4294967296 xs:=fun x hx=>by
 have h1:=h.wf x hx
 have h2:0<=x/\x<=4294967295:=by simpa [IntKind.min,IntKind.max,IntKind.signed,IntKind.bits] using h1
 omega
def dn(s:Bool)(xs:List Int)(e:Int):Dn:=⟨s,num 4294967296 xs,e.toNat⟩
theorem qii{s:Bool}{xs:List Int}{e:Int}(hd:Dig 4294967296 xs)(h:qik s xs e):(dn s xs e).May/\qaf 4294967296 (dn s xs e).m=xs/\((dn s xs e).e:Int)=e :=
 ⟨(quq hd h).1,(quq hd h).2,by have:=h.2.1; show ((e.toNat:Nat):Int)=e; omega⟩
theorem dn_of{r:Dn}:dn r.neg (qaf 4294967296 r.m) r.e=r:=by
 unfold dn
 rw [(qah 4294967296 r.m (by decide)).2.2]
 rfl
theorem qyx(w:World)(s1:Bool)(A1:Option Addr)(n1 c1:Nat)(xs1:List Int)(e1:Int)(h1:qae w 0 w.heap.size .u32 A1 n1 xs1)(m1:qik s1 xs1 e1)(hT:Tab w)(r:Dn)(code:Int)(h:qgt (dn s1 xs1 e1)=(r,code)) :
  Calls Tryz.prog 82 #[.agg #[.bool s1,.slice A1 n1 c1,.int .i64 e1]] w (qb0 w r code):=by
 obtain⟨y1,c1',k1⟩:=qii (qck h1) m1
 have:=q03 w (dn s1 xs1 e1) y1 A1 n1 c1 (by rw [c1']; exact h1) hT r code h
 rw [k1] at this
 exact this
theorem qze{a b:Dn}(ha:a.May)(hb:b.May)(hn:b.neg=false)(h0:b.m≠0){k:Nat}(hk:k<=64):qez a.neg (qaf 4294967296 a.m) a.e b.neg (qaf 4294967296 b.m) b.e k=0:=by
 unfold qez
 rw [if_pos ⟨qgy ha,qgy hb⟩,if_neg]
 rintro (h|h|h|h)
 . rw [hn] at h
   cases h
 . exact h0 (qc5 (by decide) h)
 . omega
 omega
theorem qjx(s1:Bool)(xs1:List Int)(e1:Int)(s2:Bool)(xs2:List Int)(e2 k:Int):qez s1 xs1 e1 s2 xs2 e2 k=0∨qez s1 xs1 e1 s2 xs2 e2 k=2∨qez s1 xs1 e1 s2 xs2 e2 k=8:=by
 unfold qez
 split
 . split
   . exact .inr (.inl rfl)
   exact .inl rfl
 exact .inr (.inr rfl)
theorem qg5{s1:Bool}{xs1:List Int}{e1:Int}{s2:Bool}{xs2:List Int}{e2 k:Int}(h:qez s1 xs1 e1 s2 xs2 e2 k=0):qik s1 xs1 e1/\qik s2 xs2 e2/\s2=false/\xs2≠[]/\0<=k/\k<=64:=by
 unfold qez at h
 split at h
 . rename_i hm
   split at h
   . omega
   rename_i hn
   refine⟨hm.1,hm.2,?_,fun e=>hn (.inr (.inl e)),?_,?_⟩
   . cases s2
     . rfl
     exact absurd (.inl rfl) hn
   . by_cases hk:0<=k
     . exact hk
     exact absurd (.inr (.inr (.inl (by omega)))) hn
   by_cases hk:k<=64
   . exact hk
   exact absurd (.inr (.inr (.inr (by omega)))) hn
 omega
theorem qqb{a b:Dn}(ha:a.May)(hb:b.May){k:Nat}(hk:k<=64):(qew a b k).1+1 < 4294967296^76:=by
 obtain⟨E,hE,hcap⟩:∃ E,E=1280/\qjq=2^E:=⟨qyi,rfl,qht⟩
 have h:=ha.1
 rw [hcap] at h
 have hbe:b.e<=1024:=hb.2.1
 have h0:(qew a b k).1<=a.m*2^(b.e+k):=Nat.div_le_self _ _
 have h1:a.m*2^(b.e+k)<=2^E*2^(b.e+k):=Nat.mul_le_mul_right _ (Nat.le_of_lt h)
 rw [<-Nat.pow_add] at h1
 obtain⟨K,hK⟩:∃ K,K=76:=⟨_,rfl⟩
 have h2:2^(E+(b.e+k))*2<=2^(32*K):=by
  rw [<-Nat.pow_succ]
  exact Nat.pow_le_pow_right (by decide) (by omega)
 have h3:2<=2^(E+(b.e+k)):=by
  have:=Nat.pow_le_pow_right (show 0 < 2 by decide) (show 1<=E+(b.e+k) by omega)
  simpa using this
 rw [<-hK,b32]
 generalize 2^(32*K)=c at *
 omega
theorem to_dn(w:World)(a b:Dn)(ha:a.May)(hb_:b.May)(hbn:b.neg=false)(hb0:b.m≠0)(A1 A2:Option Addr)(n1 c1 n2 c2:Nat)(h1:qae w 0 w.heap.size .u32 A1 n1 (qaf 4294967296 a.m))(h2:qae w 0 w.heap.size .u32 A2 n2 (qaf 4294967296 b.m))(k:Nat)(hk:k<=64)(away:Bool)(r:Dn)(code:Int)(h:toD a b k away=(r,code)) :
  Calls Tryz.prog 136 #[.agg #[.bool a.neg,.slice A1 n1 c1,.int .i64 a.e],.agg #[.bool b.neg,.slice A2 n2 c2,.int .i64 b.e],.int .i64 k,.bool away] w (qb0 w r code):=by
 have H:=Lib.hid h
 have HA:=Lib.hid ha
 have HB:=Lib.hid hb_
 have HB0:=Lib.hid hb0
 have HASK:=Lib.hid (qze ha hb_ hbn hb0 hk)
 have HRM:=Lib.hid (qqb ha hb_ hk)
 clear h ha hb_ hbn hb0
 obtain⟨z,hz⟩:∃ z,decide ((qew a b k).2=0)=z:=⟨_,rfl⟩
 have HZ:=Lib.hid hz
 clear hz
 obtain⟨hz_,hi81⟩:=zero_of_info Tryz.info157
 have hI:=Lib.hid hi81
 clear hi81
 have hz76:qas.length=76:=by simp [qas]
 have HZL:=Lib.hid hz76
 clear hz76
 generalize hw:((w.alloc (.cells #[.bool a.neg,.slice A1 n1 c1,.int .i64 a.e] 24)).alloc (.cells #[.bool b.neg,.slice A2 n2 c2,.int .i64 b.e] 24)).alloc (.cells #[.bool false,.slice none 0 0,.int .i64 0] 24)=w1
 obtain⟨D1,D2,D3,b1,l1,l2⟩:=qcn w _ _ _ hw
 replace D3:w1.heap[w.heap.size+1+1]? = some (.cells #[.bool false,.slice none 0 0,.int .i64 0] 24 (0,0)):=D3
 replace h1:=h1.below b1 (Nat.le_refl _)
 replace h2:=h2.below b1 (Nat.le_refl _)
 obtain⟨⟨p0,p1,p2⟩,p3,p4,p5⟩:=qam D1
 obtain⟨⟨q0,q1,q2⟩,q3,q4,q5⟩:=qam D2
 go_enter Tryz.func136,Tryz.ntmps136
 go_wp2_with fail
 try clear hw
 refine (qg4 w1 a.neg b.neg A1 A2 n1 c1 n2 c2 _ _ a.e b.e (h1.more (Nat.le_refl _) (by omega)) (h2.more (Nat.le_refl _) (by omega)) k 0 HASK.out).mono ?_
 rintro e w2 ⟨rfl,hB⟩
 have ls2:=hB.size
 replace D1:=(hB.block _ (by omega)).trans D1
 replace D2:=(hB.block _ (by omega)).trans D2
 replace D3:=(hB.block _ (by omega)).trans D3
 replace h1:=h1.below hB (by omega)
 replace h2:=h2.below hB (by omega)
 replace b1:=b1.trans (hB.mono (by omega))
 clear hB p0 p1 p2 p3 p4 p5 q0 q1 q2 q3 q4 q5
 obtain⟨⟨p0,p1,p2⟩,p3,p4,p5⟩:=qam D1
 obtain⟨⟨q0,q1,q2⟩,q3,q4,q5⟩:=qam D2
 go_wp2_with fail
 refine (qgl w2 a b HA.out HB.out HB0.out A1 A2 n1 c1 n2 c2 (h1.more (Nat.le_refl _) (by omega)) (h2.more (Nat.le_refl _) (by omega)) k hk z HZ.out).mono ?_
 rintro e w3 ⟨qs,rfl,hB,hql,hqd,hqn⟩
 have ls3:=hB.size
 replace D1:=(hB.block _ (by omega)).trans D1
 replace D3:=(hB.block _ (by omega)).trans D3
 replace b1:=b1.trans (hB.mono (by omega))
 replace hql:=Lib.hid hql
 replace hqn:=Lib.hid hqn
 clear hB p0 p1 p2 p3 p4 p5 q0 q1 q2 q3 q4 q5 h1 h2 D2
 obtain⟨⟨p0,p1,p2⟩,p3,p4,p5⟩:=qam D1
 have hX0:(w3.alloc (.cells (qat qas) 157)).heap[w3.heap.size]? = some (.cells (qat qas) 157 (0,0)):=heap_alloc_last _ _
 have hsz0:(Tryz.prog.info? 157).map (·.size)=some (qat qs).size:=by rw [qau,hql.out]; exact hI.out
 have HS0:=Lib.hid hsz0
 clear hsz0
 have hV:=setRow_heap (w3.alloc (.cells (qat qas) 157)) w3.heap.size (qat qas) (qat qs) _ _ hX0
 have hB4:Below w3.heap.size w3 ((w3.alloc (.cells (qat qas) 157)).setRow w3.heap.size (qat qs)):=qcf ((Below.refl _ _).alloc (Nat.le_refl _) _) (Nat.le_refl _) _
 have ls4:w3.heap.size < ((w3.alloc (.cells (qat qas) 157)).setRow w3.heap.size (qat qs)).heap.size:=by rw [size_setRow,World.size_alloc]; exact Nat.lt_succ_self _
 obtain⟨w4,hw4⟩:∃ w4,(w3.alloc (.cells (qat qas) 157)).setRow w3.heap.size (qat qs)=w4:=⟨_,rfl⟩
 rw [hw4] at hV hB4 ls4
 have hW4:qbj w4 w3.heap.size qs:=⟨hV,hql.out,hqd⟩
 replace D1:=(hB4.block _ (by omega)).trans D1
 replace D3:=(hB4.block _ (by omega)).trans D3
 replace b1:=b1.trans (hB4.mono (by omega))
 clear hV hB4
 have one:z=false->away=true->Hid (qa4 a.neg (num 4294967296 qs+1) k=(r,code)):=fun hzf ha=>Lib.hid (by
  have hh:=H.out
  have h2:(qew a b k).2≠0:=by have:=HZ.out; rw [hzf] at this; simpa using this
  unfold toD at hh
  rw [if_pos ⟨h2,ha⟩,<-hqn.out] at hh
  exact hh)
 have none_:z=true∨away=false->Hid (qa4 a.neg (num 4294967296 qs) k=(r,code)):=fun hh2=>Lib.hid (by
  have hh:=H.out
  unfold toD at hh
  rw [if_neg (by
   rintro⟨h2,ha⟩
   rcases hh2 with h|h
   . have:=HZ.out
     rw [h] at this
     exact h2 (by simpa using this)
   rw [h] at ha
   cases ha),Nat.add_zero,<-hqn.out] at hh
  exact hh)
 replace one:=Lib.hid one
 replace none_:=Lib.hid none_
 cases z
 . cases away
   . obtain⟨⟨p0',p1',p2'⟩,p3',p4',p5'⟩:=qam D1
     go_wp2_with (first
      | (refine wpList_store_row rfl 157 (.tmp 11) (.tmp 26) rfl w3.heap.size (qat qs) rfl rfl _ _ hX0 HS0.out (by rw [qau,qau,hql.out]; exact HZL.out) (qde qs) ?_))
     try rw [hw4]
     have HF:=none_.out (.inr (by first | rfl | trivial))
     refine (qc4 w4 w3.heap.size qs hW4 a.neg k hk r code HF.out).mono ?_
     rintro e w9 ⟨A9,n9,c9,rfl,hnc,hB,I9⟩
     have ls9:=hB.size
     replace D3:=(hB.block _ (by omega)).trans D3
     replace b1:=b1.trans (hB.mono (by omega))
     clear hB p0 p1 p2 p3 p4 p5
     obtain⟨⟨z0,z1,z2⟩,z3,z4,z5⟩:=qam D3
     obtain⟨U,hU,hX,hbU,hfU,s1,s2⟩:=qco D3 (.bool r.neg) (.slice A9 n9 c9) (.int .i64 r.e)
     go_wp2
     try rw [hU]
     clear hU z0 z1 z2 z3 z4 z5
     obtain⟨⟨z0,z1,z2⟩,_⟩:=qam hX
     exact bodyPost_ret (v:=.tuple #[.agg #[.bool r.neg,.slice A9 n9 c9,.int .i64 r.e],.int .i64 code]) (by simp [results,Tryz.results136,go_sem,z0,z1,z2]) rfl ⟨A9,n9,c9,rfl,hnc,hbU _ _ b1 (by omega),(qaq I9 (fun b h1 h2=>hfU b (by omega))).more (by omega) (by omega)⟩
   skip
   obtain⟨⟨p0',p1',p2'⟩,p3',p4',p5'⟩:=qam D1
   go_wp2_with (first
    | (refine wpList_store_row rfl 157 (.tmp 11) (.tmp 26) rfl w3.heap.size (qat qs) rfl rfl _ _ hX0 HS0.out (by rw [qau,qau,hql.out]; exact HZL.out) (qde qs) ?_))
   try rw [hw4]
   clear p0' p1' p2' p3' p4' p5'
   refine (qln w4 w3.heap.size qs hW4 (num 4294967296 qs+1) rfl (by rw [hqn.out]; exact HRM.out)).mono ?_
   rintro e w5 ⟨rfl,hO,vs,hW5,hvn⟩
   have ls5:=hO.size
   replace D1:=(hO.block _ (by omega) (by omega)).trans D1
   replace D3:=(hO.block _ (by omega) (by omega)).trans D3
   replace b1:=hO.below b1 (by omega) (by omega)
   replace hvn:=Lib.hid hvn
   clear hO hW4 p0 p1 p2 p3 p4 p5
   obtain⟨⟨p0,p1,p2⟩,p3,p4,p5⟩:=qam D1
   go_wp2_with fail
   have HF:=Lib.hid (show qa4 a.neg (num 4294967296 vs) k=(r,code) by rw [hvn.out]; exact (one.out (by first | rfl | trivial) (by first | rfl | trivial)).out)
   refine (qc4 w5 w3.heap.size vs hW5 a.neg k hk r code HF.out).mono ?_
   rintro e w9 ⟨A9,n9,c9,rfl,hnc,hB,I9⟩
   have ls9:=hB.size
   replace D3:=(hB.block _ (by omega)).trans D3
   replace b1:=b1.trans (hB.mono (by omega))
   clear hB p0 p1 p2 p3 p4 p5
   obtain⟨⟨z0,z1,z2⟩,z3,z4,z5⟩:=qam D3
   obtain⟨U,hU,hX,hbU,hfU,s1,s2⟩:=qco D3 (.bool r.neg) (.slice A9 n9 c9) (.int .i64 r.e)
   go_wp2
   try rw [hU]
   clear hU z0 z1 z2 z3 z4 z5
   obtain⟨⟨z0,z1,z2⟩,_⟩:=qam hX
   exact bodyPost_ret (v:=.tuple #[.agg #[.bool r.neg,.slice A9 n9 c9,.int .i64 r.e],.int .i64 code]) (by simp [results,Tryz.results136,go_sem,z0,z1,z2]) rfl ⟨A9,n9,c9,rfl,hnc,hbU _ _ b1 (by omega),(qaq I9 (fun b h1 h2=>hfU b (by omega))).more (by omega) (by omega)⟩
 skip
 obtain⟨⟨p0',p1',p2'⟩,p3',p4',p5'⟩:=qam D1
 go_wp2_with (first
  | (refine wpList_store_row rfl 157 (.tmp 11) (.tmp 26) rfl w3.heap.size (qat qs) rfl rfl _ _ hX0 HS0.out (by rw [qau,qau,hql.out]; exact HZL.out) (qde qs) ?_))
 try rw [hw4]
 have HF:=none_.out (.inl (by first | rfl | trivial))
 refine (qc4 w4 w3.heap.size qs hW4 a.neg k hk r code HF.out).mono ?_
 rintro e w9 ⟨A9,n9,c9,rfl,hnc,hB,I9⟩
 have ls9:=hB.size
 replace D3:=(hB.block _ (by omega)).trans D3
 replace b1:=b1.trans (hB.mono (by omega))
 clear hB p0 p1 p2 p3 p4 p5
 obtain⟨⟨z0,z1,z2⟩,z3,z4,z5⟩:=qam D3
 obtain⟨U,hU,hX,hbU,hfU,s1,s2⟩:=qco D3 (.bool r.neg) (.slice A9 n9 c9) (.int .i64 r.e)
 go_wp2
 try rw [hU]
 clear hU z0 z1 z2 z3 z4 z5
 obtain⟨⟨z0,z1,z2⟩,_⟩:=qam hX
 exact bodyPost_ret (v:=.tuple #[.agg #[.bool r.neg,.slice A9 n9 c9,.int .i64 r.e],.int .i64 code]) (by simp [results,Tryz.results136,go_sem,z0,z1,z2]) rfl ⟨A9,n9,c9,rfl,hnc,hbU _ _ b1 (by omega),(qaq I9 (fun b h1 h2=>hfU b (by omega))).more (by omega) (by omega)⟩
noncomputable def toX(s1:Bool)(xs1:List Int)(e1:Int)(s2:Bool)(xs2:List Int)(e2:Int)(k:Int)(away:Bool):Dn×Int :=
 if qez s1 xs1 e1 s2 xs2 e2 k=0 then toD (dn s1 xs1 e1) (dn s2 xs2 e2) k.toNat away else (Dn.zero,qez s1 xs1 e1 s2 xs2 e2 k)
theorem q1b(w:World)(s1 s2:Bool)(A1 A2:Option Addr)(n1 c1 n2 c2:Nat)(xs1 xs2:List Int)(e1 e2:Int)(h1:qae w 0 w.heap.size .u32 A1 n1 xs1)(h2:qae w 0 w.heap.size .u32 A2 n2 xs2)(k:Int)(away:Bool)(q:Int)(hq:qez s1 xs1 e1 s2 xs2 e2 k=q)(hq0:q=2∨q=8) :
  Calls Tryz.prog 136 #[.agg #[.bool s1,.slice A1 n1 c1,.int .i64 e1],.agg #[.bool s2,.slice A2 n2 c2,.int .i64 e2],.int .i64 k,.bool away] w (qb0 w Dn.zero q):=by
 have HQ:=Lib.hid hq
 clear hq
 generalize hw:((w.alloc (.cells #[.bool s1,.slice A1 n1 c1,.int .i64 e1] 24)).alloc (.cells #[.bool s2,.slice A2 n2 c2,.int .i64 e2] 24)).alloc (.cells #[.bool false,.slice none 0 0,.int .i64 0] 24)=w1
 obtain⟨D1,D2,D3,b1,l1,l2⟩:=qcn w _ _ _ hw
 replace D3:w1.heap[w.heap.size+1+1]? = some (.cells #[.bool false,.slice none 0 0,.int .i64 0] 24 (0,0)):=D3
 replace h1:=h1.below b1 (Nat.le_refl _)
 replace h2:=h2.below b1 (Nat.le_refl _)
 obtain⟨⟨p0,p1,p2⟩,p3,p4,p5⟩:=qam D1
 obtain⟨⟨q0,q1,q2⟩,q3,q4,q5⟩:=qam D2
 go_enter Tryz.func136,Tryz.ntmps136
 go_wp2_with fail
 try clear hw
 refine (qg4 w1 s1 s2 A1 A2 n1 c1 n2 c2 xs1 xs2 e1 e2 (h1.more (Nat.le_refl _) (by omega)) (h2.more (Nat.le_refl _) (by omega)) k q HQ.out).mono ?_
 rintro e w2 ⟨rfl,hB⟩
 have ls2:=hB.size
 replace D3:=(hB.block _ (by omega)).trans D3
 replace b1:=b1.trans (hB.mono (by omega))
 clear hB p0 p1 p2 p3 p4 p5 q0 q1 q2 q3 q4 q5 h1 h2 D2 D1
 obtain⟨⟨z0,z1,z2⟩,z3,z4,z5⟩:=qam D3
 obtain⟨U,hU,hX,hbU,hfU,s1',s2'⟩:=qco D3 (.bool false) (.slice none 0 0) (.int .i64 0)
 rcases hq0 with rfl|rfl
 all_goals
  go_wp2
  try rw [hU]
  clear hU z0 z1 z2 z3 z4 z5
  obtain⟨⟨z0,z1,z2⟩,_⟩:=qam hX
  exact bodyPost_ret (v:=.tuple #[.agg #[.bool false,.slice none 0 0,.int .i64 0],.int .i64 _]) (by simp [results,Tryz.results136,go_sem,z0,z1,z2]) rfl ⟨none,0,0,rfl,Nat.le_refl _,hbU _ _ b1 (by omega),qae.nil_ ..⟩
theorem qy7(w:World)(s1 s2:Bool)(A1 A2:Option Addr)(n1 c1 n2 c2:Nat)(xs1 xs2:List Int)(e1 e2:Int)(h1:qae w 0 w.heap.size .u32 A1 n1 xs1)(h2:qae w 0 w.heap.size .u32 A2 n2 xs2)(k:Int)(away:Bool)(r:Dn)(code:Int)(h:toX s1 xs1 e1 s2 xs2 e2 k away=(r,code)) :
  Calls Tryz.prog 136 #[.agg #[.bool s1,.slice A1 n1 c1,.int .i64 e1],.agg #[.bool s2,.slice A2 n2 c2,.int .i64 e2],.int .i64 k,.bool away] w (qb0 w r code):=by
 unfold toX at h
 split at h
 . rename_i hm
   obtain⟨m1,m2,hs,hx,k0,k1⟩:=qg5 hm
   obtain⟨y1,c1',t1⟩:=qii (qck h1) m1
   obtain⟨y2,c2',t2⟩:=qii (qck h2) m2
   have hb0:(dn s2 xs2 e2).m≠0:=fun e=>hx (by rw [<-c2',e]; rfl)
   have:=to_dn w (dn s1 xs1 e1) (dn s2 xs2 e2) y1 y2 hs hb0 A1 A2 n1 c1 n2 c2 (by rw [c1']; exact h1) (by rw [c2']; exact h2) k.toNat (by omega) away r code h
   rw [t1,t2,show ((k.toNat:Nat):Int)=k by omega] at this
   exact this
 rename_i hm
 injection h with h3 h4
 subst h3 h4
 exact q1b w s1 s2 A1 A2 n1 c1 n2 c2 xs1 xs2 e1 e2 h1 h2 k away _ rfl ((qjx ..).resolve_left hm)
theorem qwq(w:World)(s1 s2:Bool)(A1 A2:Option Addr)(n1 c1 n2 c2:Nat)(xs1 xs2:List Int)(e1 e2:Int)(h1:qae w 0 w.heap.size .u32 A1 n1 xs1)(h2:qae w 0 w.heap.size .u32 A2 n2 xs2)(k:Int)(r:Dn)(code:Int)(h:toX s1 xs1 e1 s2 xs2 e2 k s1=(r,code)) :
  Calls Tryz.prog 75 #[.agg #[.bool s1,.slice A1 n1 c1,.int .i64 e1],.agg #[.bool s2,.slice A2 n2 c2,.int .i64 e2],.int .i64 k] w (qb0 w r code):=by
 have H:=Lib.hid h
 clear h
 generalize hw:((w.alloc (.cells #[.bool s1,.slice A1 n1 c1,.int .i64 e1] 24)).alloc (.cells #[.bool s2,.slice A2 n2 c2,.int .i64 e2] 24)).alloc (.cells #[.bool false,.slice none 0 0,.int .i64 0] 24)=w1
 obtain⟨D1,D2,D3,b1,l1,l2⟩:=qcn w _ _ _ hw
 replace D3:w1.heap[w.heap.size+1+1]? = some (.cells #[.bool false,.slice none 0 0,.int .i64 0] 24 (0,0)):=D3
 replace h1:=h1.below b1 (Nat.le_refl _)
 replace h2:=h2.below b1 (Nat.le_refl _)
 obtain⟨⟨p0,p1,p2⟩,p3,p4,p5⟩:=qam D1
 obtain⟨⟨q0,q1,q2⟩,q3,q4,q5⟩:=qam D2
 go_enter Tryz.func75,Tryz.ntmps75
 go_wp2_with fail
 try clear hw
 refine (qy7 w1 s1 s2 A1 A2 n1 c1 n2 c2 xs1 xs2 e1 e2 (h1.more (Nat.le_refl _) (by omega)) (h2.more (Nat.le_refl _) (by omega)) k s1 r code H.out).mono ?_
 rintro e w2 ⟨A9,n9,c9,rfl,hnc,hB,I9⟩
 have ls2:=hB.size
 replace D3:=(hB.block _ (by omega)).trans D3
 replace b1:=b1.trans (hB.mono (by omega))
 clear hB p0 p1 p2 p3 p4 p5 q0 q1 q2 q3 q4 q5 h1 h2 D2 D1
 obtain⟨⟨z0,z1,z2⟩,z3,z4,z5⟩:=qam D3
 obtain⟨U,hU,hX,hbU,hfU,s1',s2'⟩:=qco D3 (.bool r.neg) (.slice A9 n9 c9) (.int .i64 r.e)
 go_wp2
 try rw [hU]
 clear hU z0 z1 z2 z3 z4 z5
 obtain⟨⟨z0,z1,z2⟩,_⟩:=qam hX
 exact bodyPost_ret (v:=.tuple #[.agg #[.bool r.neg,.slice A9 n9 c9,.int .i64 r.e],.int .i64 code]) (by simp [results,Tryz.results75,go_sem,z0,z1,z2]) rfl ⟨A9,n9,c9,rfl,hnc,hbU _ _ b1 (by omega),(qaq I9 (fun b h1 h2=>hfU b (by omega))).more (by omega) (by omega)⟩
theorem qy3(w:World)(s1 s2:Bool)(A1 A2:Option Addr)(n1 c1 n2 c2:Nat)(xs1 xs2:List Int)(e1 e2:Int)(h1:qae w 0 w.heap.size .u32 A1 n1 xs1)(h2:qae w 0 w.heap.size .u32 A2 n2 xs2)(k:Int)(r:Dn)(code:Int)(h:toX s1 xs1 e1 s2 xs2 e2 k (!s1)=(r,code)) :
  Calls Tryz.prog 76 #[.agg #[.bool s1,.slice A1 n1 c1,.int .i64 e1],.agg #[.bool s2,.slice A2 n2 c2,.int .i64 e2],.int .i64 k] w (qb0 w r code):=by
 have H:=Lib.hid h
 clear h
 generalize hw:((w.alloc (.cells #[.bool s1,.slice A1 n1 c1,.int .i64 e1] 24)).alloc (.cells #[.bool s2,.slice A2 n2 c2,.int .i64 e2] 24)).alloc (.cells #[.bool false,.slice none 0 0,.int .i64 0] 24)=w1
 obtain⟨D1,D2,D3,b1,l1,l2⟩:=qcn w _ _ _ hw
 replace D3:w1.heap[w.heap.size+1+1]? = some (.cells #[.bool false,.slice none 0 0,.int .i64 0] 24 (0,0)):=D3
 replace h1:=h1.below b1 (Nat.le_refl _)
 replace h2:=h2.below b1 (Nat.le_refl _)
 obtain⟨⟨p0,p1,p2⟩,p3,p4,p5⟩:=qam D1
 obtain⟨⟨q0,q1,q2⟩,q3,q4,q5⟩:=qam D2
 go_enter Tryz.func76,Tryz.ntmps76
 go_wp2_with fail
 try clear hw
 refine (qy7 w1 s1 s2 A1 A2 n1 c1 n2 c2 xs1 xs2 e1 e2 (h1.more (Nat.le_refl _) (by omega)) (h2.more (Nat.le_refl _) (by omega)) k (!s1) r code H.out).mono ?_
 rintro e w2 ⟨A9,n9,c9,rfl,hnc,hB,I9⟩
 have ls2:=hB.size
 replace D3:=(hB.block _ (by omega)).trans D3
 replace b1:=b1.trans (hB.mono (by omega))
 clear hB p0 p1 p2 p3 p4 p5 q0 q1 q2 q3 q4 q5 h1 h2 D2 D1
 obtain⟨⟨z0,z1,z2⟩,z3,z4,z5⟩:=qam D3
 obtain⟨U,hU,hX,hbU,hfU,s1',s2'⟩:=qco D3 (.bool r.neg) (.slice A9 n9 c9) (.int .i64 r.e)
 go_wp2
 try rw [hU]
 clear hU z0 z1 z2 z3 z4 z5
 obtain⟨⟨z0,z1,z2⟩,_⟩:=qam hX
 exact bodyPost_ret (v:=.tuple #[.agg #[.bool r.neg,.slice A9 n9 c9,.int .i64 r.e],.int .i64 code]) (by simp [results,Tryz.results76,go_sem,z0,z1,z2]) rfl ⟨A9,n9,c9,rfl,hnc,hbU _ _ b1 (by omega),(qaq I9 (fun b h1 h2=>hfU b (by omega))).more (by omega) (by omega)⟩
theorem qu8{x y:Nat}(hx:x < 4294967296):bits .or .u32 ((x/2:Nat):Int) ((y*2147483648%4294967296:Nat):Int)=(((y*4294967296+x)/2^1%4294967296:Nat):Int):=by
 obtain⟨f1,f2,f3⟩:=qhs (x:=x) (y:=y) (r:=1) hx (by decide) (by decide)
 rw [show (2:Nat)^(32-1)=2147483648 by rfl,Nat.pow_one] at *
 rw [u32_or_nat _ _ (by omega) (Nat.mod_lt _ (by decide)),Nat.or_comm]
 rw [nat_join 31 (y*2147483648%4294967296) (x/2) (by rw [show (2:Nat)^31=2147483648 by rfl]; exact f1) (by rw [show (2:Nat)^31=2147483648 by rfl]; exact f2),Nat.add_comm,f3]
def qyz(M i:Nat)(cur:List Int):Prop:=∀ j,j < i->cur[j]?.getD 0=((M/4294967296^j%4294967296:Nat):Int)
theorem qyz.set{M i d:Nat}{cur:List Int}(h:qyz M i cur)(hi:i < cur.length)(hv:d=M/4294967296^i%4294967296):qyz M (i+1) (cur.set i (d:Int)):=fun j hj=>by
 by_cases hji:j=i
 . subst hji
   rw [List.getElem?_set_self hi,<-hv]
   rfl
 rw [qlb _ _ (fun e=>hji e.symm)]
 exact h j (by omega)
theorem qz7(w:World)(a b:Dn)(s:Bool)(hsa:a.neg=s)(ha:a.May)(hb_:b.May)(hbn:b.neg=false)(hb0:b.m≠0)(A1 A2:Option Addr)(n1 c1 n2 c2:Nat)(h1:qae w 0 w.heap.size .u32 A1 n1 (qaf 4294967296 a.m))(h2:qae w 0 w.heap.size .u32 A2 n2 (qaf 4294967296 b.m))(r:Dn)(code:Int)(h:qlp a b=(r,code)) :
  Calls Tryz.prog 72 #[.agg #[.bool s,.slice A1 n1 c1,.int .i64 a.e],.agg #[.bool b.neg,.slice A2 n2 c2,.int .i64 b.e]] w (qb0 w r code):=by
 have H:=Lib.hid h
 have HA:=Lib.hid ha
 have HB:=Lib.hid hb_
 have HB0:=Lib.hid hb0
 have HSA:=Lib.hid hsa
 have hask:=qze ha hb_ hbn hb0 (k:=0) (by decide)
 rw [hsa] at hask
 have HASK:=Lib.hid hask
 have HRM:=Lib.hid (qqb ha hb_ (k:=1) (by decide))
 clear h ha hb_ hbn hb0 hask hsa
 obtain⟨z,hz⟩:∃ z,decide ((qew a b 1).2=0)=z:=⟨_,rfl⟩
 have HZ:=Lib.hid hz
 clear hz
 obtain⟨hz_,hi81⟩:=zero_of_info Tryz.info157
 have hI:=Lib.hid hi81
 clear hi81
 have hz76:qas.length=76/\Dig 4294967296 qas:=⟨by simp [qas],fun x hx=>by have:=List.eq_of_mem_replicate hx; omega⟩
 have HZL:=Lib.hid hz76
 clear hz76
 generalize hw:((w.alloc (.cells #[.bool s,.slice A1 n1 c1,.int .i64 a.e] 24)).alloc (.cells #[.bool b.neg,.slice A2 n2 c2,.int .i64 b.e] 24)).alloc (.cells #[.bool false,.slice none 0 0,.int .i64 0] 24)=w1
 obtain⟨D1,D2,D3,b1,l1,l2⟩:=qcn w _ _ _ hw
 replace D3:w1.heap[w.heap.size+1+1]? = some (.cells #[.bool false,.slice none 0 0,.int .i64 0] 24 (0,0)):=D3
 replace h1:=h1.below b1 (Nat.le_refl _)
 replace h2:=h2.below b1 (Nat.le_refl _)
 obtain⟨⟨p0,p1,p2⟩,p3,p4,p5⟩:=qam D1
 obtain⟨⟨q0,q1,q2⟩,q3,q4,q5⟩:=qam D2
 go_enter Tryz.func72,Tryz.ntmps72
 go_wp2_with fail
 try clear hw
 refine (qg4 w1 s b.neg A1 A2 n1 c1 n2 c2 _ _ a.e b.e (h1.more (Nat.le_refl _) (by omega)) (h2.more (Nat.le_refl _) (by omega)) 0 0 HASK.out).mono ?_
 rintro e w2 ⟨rfl,hB⟩
 have ls2:=hB.size
 replace D1:=(hB.block _ (by omega)).trans D1
 replace D2:=(hB.block _ (by omega)).trans D2
 replace D3:=(hB.block _ (by omega)).trans D3
 replace h1:=h1.below hB (by omega)
 replace h2:=h2.below hB (by omega)
 replace b1:=b1.trans (hB.mono (by omega))
 clear hB p0 p1 p2 p3 p4 p5 q0 q1 q2 q3 q4 q5
 obtain⟨⟨p0,p1,p2⟩,p3,p4,p5⟩:=qam D1
 obtain⟨⟨q0,q1,q2⟩,q3,q4,q5⟩:=qam D2
 go_wp2_with fail
 have hpart:=qgl w2 a b HA.out HB.out HB0.out A1 A2 n1 c1 n2 c2 (h1.more (Nat.le_refl _) (by omega)) (h2.more (Nat.le_refl _) (by omega)) 1 (by decide) z HZ.out
 rw [HSA.out] at hpart
 refine hpart.mono ?_
 clear hpart
 rintro e w3 ⟨qs,rfl,hB,hql,hqd,hqn⟩
 have ls3:=hB.size
 replace D1:=(hB.block _ (by omega)).trans D1
 replace D3:=(hB.block _ (by omega)).trans D3
 replace b1:=b1.trans (hB.mono (by omega))
 replace hql:=Lib.hid hql
 replace hqn:=Lib.hid hqn
 clear hB p0 p1 p2 p3 p4 p5 q0 q1 q2 q3 q4 q5 h1 h2 D2
 have hX0:(w3.alloc (.cells (qat qas) 157)).heap[w3.heap.size]? = some (.cells (qat qas) 157 (0,0)):=heap_alloc_last _ _
 have hsz0:(Tryz.prog.info? 157).map (·.size)=some (qat qs).size:=by rw [qau,hql.out]; exact hI.out
 have HS0:=Lib.hid hsz0
 clear hsz0
 have hV:=setRow_heap (w3.alloc (.cells (qat qas) 157)) w3.heap.size (qat qas) (qat qs) _ _ hX0
 have hB4:Below w3.heap.size w3 ((w3.alloc (.cells (qat qas) 157)).setRow w3.heap.size (qat qs)):=qcf ((Below.refl _ _).alloc (Nat.le_refl _) _) (Nat.le_refl _) _
 have ls4:w3.heap.size < ((w3.alloc (.cells (qat qas) 157)).setRow w3.heap.size (qat qs)).heap.size:=by rw [size_setRow,World.size_alloc]; exact Nat.lt_succ_self _
 obtain⟨w4,hw4⟩:∃ w4,(w3.alloc (.cells (qat qas) 157)).setRow w3.heap.size (qat qs)=w4:=⟨_,rfl⟩
 rw [hw4] at hV hB4 ls4
 have hW4:qbj w4 w3.heap.size qs:=⟨hV,hql.out,hqd⟩
 replace D1:=(hB4.block _ (by omega)).trans D1
 replace D3:=(hB4.block _ (by omega)).trans D3
 replace b1:=b1.trans (hB4.mono (by omega))
 clear hV hB4
 go_upto_region 5 with (first
  | (refine wpList_store_row rfl 157 (.tmp 7) (.tmp 23) rfl w3.heap.size (qat qs) rfl rfl _ _ hX0 HS0.out (by rw [qau,qau,hql.out]; exact HZL.out.1) (qde qs) ?_))
 try rw [hw4]
 clear hX0 hw4
 -- the lowest limb
 obtain⟨p,hp,hp2⟩:=qa3 (by decide) hqd 0
 have g0:=hW4.cell (j:=0) (by decide)
 rw [hp] at g0
 obtain⟨bb,hbb⟩:∃ bb,num 4294967296 qs%2=bb:=⟨_,rfl⟩
 have hpb:p%2=bb:=by
  have:=qoq qs hqd
  rw [hp] at this
  omega
 have hand:bits .and .u32 (p:Int) 1=(bb:Int):=by
  have:=u32_and_nat p 1 hp2 (by decide)
  rw [show ((1:Nat):Int)=1 from rfl] at this
  rw [this,Nat.and_one_is_mod,hpb]
 have HBB:=Lib.hid hbb
 have hb2:bb=0∨bb=1:=by omega
 clear hp hpb hbb
 generalize hw5:w4.alloc (.cells (qat qas) 157)=w5
 have hH5:qbj w5 w4.heap.size qas:=⟨by rw [<-hw5]; exact heap_alloc_last _ _,HZL.out.1,HZL.out.2⟩
 have hB5:Below w4.heap.size w4 w5:=by rw [<-hw5]; exact (Below.refl _ _).alloc (Nat.le_refl _) _
 have ls5:w4.heap.size < w5.heap.size:=by rw [<-hw5]; simp
 have hW5:qbj w5 w3.heap.size qs:=hW4.of_heap (hB5.block _ ls4)
 replace D1:=(hB5.block _ (by omega)).trans D1
 replace D3:=(hB5.block _ (by omega)).trans D3
 replace b1:=b1.trans (hB5.mono (by omega))
 clear hB5
 obtain⟨N,hN⟩:∃ N,num 4294967296 qs=N:=⟨_,rfl⟩
 obtain⟨M,hM⟩:∃ M,N/2=M:=⟨_,rfl⟩
 have HN:=Lib.hid hN
 have HM:=Lib.hid hM
 rw [hN] at hqn HBB
 have hq76:N < 4294967296^76:=by
  have:=qc0 4294967296 (by decide) qs hqd
  rw [hql.out,hN] at this
  exact this
 have HQ76:=Lib.hid hq76
 replace hqd:=Lib.hid hqd
 clear hN hM hq76
 go_wp2_with fail
 try clear hw5
 clear g0 hand hW4
 go_loopw [11,29] (fun _ iv wr=>∃ (i:Nat) (cur:List Int),iv=.int .i64 i/\i<=76/\qbj wr w4.heap.size cur/\qbq w4.heap.size w5 wr/\Hid (qyz M i cur)) (fun _ iv _=>76-(intOf iv).toNat)
 case atStart=>exact⟨0,qas,rfl,Nat.zero_le _,hH5,qbq.refl _ _,Lib.hid (fun j hj=>absurd hj (Nat.not_lt_zero _))⟩
 clear hH5
 obtain⟨i,cur,rfl,hi,hH,hO,hI'⟩:=hrel
 by_cases hlt:i < 76
 . obtain⟨x,hx,hx2⟩:=qa3 (by decide) hqd.out i
   obtain⟨y,hy,hy2⟩:=qa3 (by decide) hqd.out (i+1)
   have hlaw:=qpf hqd.out i 1 y x (by simpa using hy) (by simpa using hx)
   have hW:=hW5.of_heap (hO.block _ (by omega) (by omega))
   have c1:=hW.cell (j:=i) hlt
   rw [hx] at c1
   obtain⟨v,hv⟩:∃ v:Int,cur[i]?.getD 0=v:=⟨_,rfl⟩
   have c2:=hH.cell (j:=i) hlt
   rw [hv] at c2
   have f2:=hH.free i
   obtain⟨x2,hx2'⟩:∃ x2,x/2=x2:=⟨_,rfl⟩
   have ex:(x:Int)/2=(x2:Int):=by omega
   have hx2lt:x2 < 4294967296:=by omega
   obtain⟨y2,hy2'⟩:∃ y2,y*2147483648%4294967296=y2:=⟨_,rfl⟩
   have ey:(y:Int)*2147483648%4294967296=(y2:Int):=by omega
   have ey':IntKind.u32.wrap ((y:Int)*2147483648)=(y2:Int):=by rw [IntKind.wrap_u32]; exact ey
   obtain⟨d,hd⟩:∃ d,(y*4294967296+x)/2^1%4294967296=d:=⟨_,rfl⟩
   have hor:=qu8 (y:=y) hx2
   rw [hx2',hy2',hd] at hor
   have hd2:d < 4294967296:=by rw [<-hd]; exact Nat.mod_lt _ (by decide)
   have HV:Hid (d=M/4294967296^i%4294967296):=Lib.hid (by
    rw [show (1:Nat)%32=1 by rfl] at hlaw
    rw [<-hd,hlaw,HN.out,Nat.pow_one,HM.out])
   have H1:=hH.set i x2 hx2lt
   have hk0:(0:Int)<=i:=by omega
   have hk1:(i:Int) < 76:=by omega
   by_cases hl:i+1 < 76
   . have c3:=hW.cell (j:=i+1) hl
     rw [hy] at c3
     have hli:(i:Int)+1 < 76:=by omega
     have HXX:=Lib.hid hx
     have HYY:=Lib.hid hy
     have e3:(cur.set i (x2:Int))[i]?.getD 0=(x2:Int):=by simp [List.getElem?_set,hH.len,hlt]
     have c4:=H1.cell (j:=i) hlt
     rw [e3] at c4
     have f4:=H1.free i
     have hW2:qbj (wr.setCell ⟨w4.heap.size,i,none⟩ (.int .u32 x2)) w3.heap.size qs:=hW.of_heap (heap_setCell_other _ _ _ _ (by simp; omega))
     have c5:=hW2.cell (j:=i+1) hl
     rw [hy] at c5
     have HE:=Lib.hid e3
     clear hx hy hv hx2' hy2' hd hlaw e3
     go_wp2_with fail
     go_region
     all_goals go_wp2
     all_goals go_roundw
     case rel=>exact⟨i+1,(cur.set i (x2:Int)).set i (d:Int),by first | rfl | go_num,by omega,(H1.set i d hd2).of_heap rfl,((hO.setCell _).setCell _).drew,Lib.hid (by rw [List.set_set]; exact hI'.out.set (by rw [hH.len]; exact hlt) HV.out)⟩
     case measure=>first | (simp [intOf]; done) | (simp [intOf]; omega)
   have hi75:75<=i:=by omega
   have hy0:y=0:=by
    rw [List.getElem?_eq_none (by rw [hql.out]; omega)] at hy
    exact (Int.ofNat.inj hy).symm
   have hd3:d=x2:=by
    rw [<-hd,hy0,<-hx2']
    simp
    omega
   have hli:¬ (i:Int)+1 < 76:=by omega
   have hlb:decide ((i:Int)+1 < 76)=false:=decide_eq_false hli
   rw [hd3] at HV
   clear hx hy hv hx2' hy2' hd hlaw hor hd3 hy0
   go_wp2
   go_roundw
   case rel=>exact⟨i+1,cur.set i (x2:Int),by first | rfl | go_num,by omega,H1,hO.setCell _,Lib.hid (hI'.out.set (by rw [hH.len]; exact hlt) HV.out)⟩
   case measure=>first | (simp [intOf]; done) | (simp [intOf]; omega)
 have hi76:i=76:=by omega
 subst hi76
 have hnum:num 4294967296 cur=M:=qqi cur M (fun j hj=>hI'.out j (by rw [<-hH.len]; exact hj)) (by
  rw [hH.len,<-HM.out]
  exact Nat.lt_of_le_of_lt (Nat.div_le_self _ _) HQ76.out)
 have HNUM:=Lib.hid hnum
 have hsz:=hO.size
 replace D1:=(hO.block _ (by omega) (by omega)).trans D1
 replace D3:=(hO.block _ (by omega) (by omega)).trans D3
 replace b1:=hO.below b1 (by omega) (by omega)
 clear hnum hI' hO hW5
 have none_:(bb=0∨(s=true/\z=true))->Hid (qa4 s (num 4294967296 cur) 0=(r,code)):=fun hc=>Lib.hid (by
  have hh:=H.out
  unfold qlp at hh
  rw [<-hqn.out,HSA.out,HM.out,HBB.out,if_neg,Nat.add_zero] at hh
  . rw [HNUM.out]
    exact hh
  rintro⟨k1,k2⟩
  rcases hc with hc|⟨hc1,hc2⟩
  . omega
  rcases k2 with k2|k2
  . rw [hc1] at k2
    cases k2
  have:=HZ.out
  rw [hc2] at this
  exact k2 (by simpa using this))
 have one:bb=1->(s=false∨z=false)->Hid (qa4 s (num 4294967296 cur+1) 0=(r,code)):=fun hc hc2=>Lib.hid (by
  have hh:=H.out
  unfold qlp at hh
  rw [<-hqn.out,HSA.out,HM.out,HBB.out,if_pos] at hh
  . rw [HNUM.out]
    exact hh
  refine⟨hc,?_⟩
  rcases hc2 with hc2|hc2
  . exact .inl hc2
  have:=HZ.out
  rw [hc2] at this
  exact .inr (by simpa using this))
 replace none_:=Lib.hid none_
 replace one:=Lib.hid one
 have hroom:Hid (num 4294967296 cur+1 < 4294967296^76):=Lib.hid (by
  have h1:=HRM.out
  rw [<-hqn.out] at h1
  rw [HNUM.out,<-HM.out]
  have h2:=Nat.div_le_self N 2
  generalize 4294967296^76=c at *
  omega)
 obtain⟨⟨p0,p1,p2⟩,p3,p4,p5⟩:=qam D1
 rcases hb2 with rfl|rfl
 . cases s
   . go_wp2_with fail
     have HF:=none_.out (.inl (by first | rfl | trivial))
     refine (qc4 wr w4.heap.size cur hH false 0 (by decide) r code HF.out).mono ?_
     rintro e w9 ⟨A9,n9,c9,rfl,hnc,hB,I9⟩
     have ls9:=hB.size
     replace D3:=(hB.block _ (by omega)).trans D3
     replace b1:=b1.trans (hB.mono (by omega))
     clear hB p0 p1 p2 p3 p4 p5
     obtain⟨⟨z0,z1,z2⟩,z3,z4,z5⟩:=qam D3
     obtain⟨U,hU,hX,hbU,hfU,s1,s2⟩:=qco D3 (.bool r.neg) (.slice A9 n9 c9) (.int .i64 r.e)
     go_wp2
     try rw [hU]
     clear hU z0 z1 z2 z3 z4 z5
     obtain⟨⟨z0,z1,z2⟩,_⟩:=qam hX
     exact bodyPost_ret (v:=.tuple #[.agg #[.bool r.neg,.slice A9 n9 c9,.int .i64 r.e],.int .i64 code]) (by simp [results,Tryz.results72,go_sem,z0,z1,z2]) rfl ⟨A9,n9,c9,rfl,hnc,hbU _ _ b1 (by omega),(qaq I9 (fun b h1 h2=>hfU b (by omega))).more (by omega) (by omega)⟩
   go_wp2_with fail
   have HF:=none_.out (.inl (by first | rfl | trivial))
   refine (qc4 wr w4.heap.size cur hH true 0 (by decide) r code HF.out).mono ?_
   rintro e w9 ⟨A9,n9,c9,rfl,hnc,hB,I9⟩
   have ls9:=hB.size
   replace D3:=(hB.block _ (by omega)).trans D3
   replace b1:=b1.trans (hB.mono (by omega))
   clear hB p0 p1 p2 p3 p4 p5
   obtain⟨⟨z0,z1,z2⟩,z3,z4,z5⟩:=qam D3
   obtain⟨U,hU,hX,hbU,hfU,s1,s2⟩:=qco D3 (.bool r.neg) (.slice A9 n9 c9) (.int .i64 r.e)
   go_wp2
   try rw [hU]
   clear hU z0 z1 z2 z3 z4 z5
   obtain⟨⟨z0,z1,z2⟩,_⟩:=qam hX
   exact bodyPost_ret (v:=.tuple #[.agg #[.bool r.neg,.slice A9 n9 c9,.int .i64 r.e],.int .i64 code]) (by simp [results,Tryz.results72,go_sem,z0,z1,z2]) rfl ⟨A9,n9,c9,rfl,hnc,hbU _ _ b1 (by omega),(qaq I9 (fun b h1 h2=>hfU b (by omega))).more (by omega) (by omega)⟩
 cases s
 . go_wp2_with fail
   refine (qln wr w4.heap.size cur hH (num 4294967296 cur+1) rfl hroom.out).mono ?_
   rintro e w6 ⟨rfl,hO,vs,hW6,hvn⟩
   have ls6:=hO.size
   replace D1:=(hO.block _ (by omega) (by omega)).trans D1
   replace D3:=(hO.block _ (by omega) (by omega)).trans D3
   replace b1:=hO.below b1 (by omega) (by omega)
   replace hvn:=Lib.hid hvn
   clear hO hH p0 p1 p2 p3 p4 p5
   obtain⟨⟨p0,p1,p2⟩,p3,p4,p5⟩:=qam D1
   go_wp2_with fail
   have HF:=Lib.hid (show qa4 false (num 4294967296 vs) 0=(r,code) by rw [hvn.out]; exact (one.out (by first | rfl | trivial) (.inl (by first | rfl | trivial))).out)
   refine (qc4 w6 w4.heap.size vs hW6 false 0 (by decide) r code HF.out).mono ?_
   rintro e w9 ⟨A9,n9,c9,rfl,hnc,hB,I9⟩
   have ls9:=hB.size
   replace D3:=(hB.block _ (by omega)).trans D3
   replace b1:=b1.trans (hB.mono (by omega))
   clear hB p0 p1 p2 p3 p4 p5
   obtain⟨⟨z0,z1,z2⟩,z3,z4,z5⟩:=qam D3
   obtain⟨U,hU,hX,hbU,hfU,s1,s2⟩:=qco D3 (.bool r.neg) (.slice A9 n9 c9) (.int .i64 r.e)
   go_wp2
   try rw [hU]
   clear hU z0 z1 z2 z3 z4 z5
   obtain⟨⟨z0,z1,z2⟩,_⟩:=qam hX
   exact bodyPost_ret (v:=.tuple #[.agg #[.bool r.neg,.slice A9 n9 c9,.int .i64 r.e],.int .i64 code]) (by simp [results,Tryz.results72,go_sem,z0,z1,z2]) rfl ⟨A9,n9,c9,rfl,hnc,hbU _ _ b1 (by omega),(qaq I9 (fun b h1 h2=>hfU b (by omega))).more (by omega) (by omega)⟩
 cases z
 . go_wp2_with fail
   refine (qln wr w4.heap.size cur hH (num 4294967296 cur+1) rfl hroom.out).mono ?_
   rintro e w6 ⟨rfl,hO,vs,hW6,hvn⟩
   have ls6:=hO.size
   replace D1:=(hO.block _ (by omega) (by omega)).trans D1
   replace D3:=(hO.block _ (by omega) (by omega)).trans D3
   replace b1:=hO.below b1 (by omega) (by omega)
   replace hvn:=Lib.hid hvn
   clear hO hH p0 p1 p2 p3 p4 p5
   obtain⟨⟨p0,p1,p2⟩,p3,p4,p5⟩:=qam D1
   go_wp2_with fail
   have HF:=Lib.hid (show qa4 true (num 4294967296 vs) 0=(r,code) by rw [hvn.out]; exact (one.out (by first | rfl | trivial) (.inr (by first | rfl | trivial))).out)
   refine (qc4 w6 w4.heap.size vs hW6 true 0 (by decide) r code HF.out).mono ?_
   rintro e w9 ⟨A9,n9,c9,rfl,hnc,hB,I9⟩
   have ls9:=hB.size
   replace D3:=(hB.block _ (by omega)).trans D3
   replace b1:=b1.trans (hB.mono (by omega))
   clear hB p0 p1 p2 p3 p4 p5
   obtain⟨⟨z0,z1,z2⟩,z3,z4,z5⟩:=qam D3
   obtain⟨U,hU,hX,hbU,hfU,s1,s2⟩:=qco D3 (.bool r.neg) (.slice A9 n9 c9) (.int .i64 r.e)
   go_wp2
   try rw [hU]
   clear hU z0 z1 z2 z3 z4 z5
   obtain⟨⟨z0,z1,z2⟩,_⟩:=qam hX
   exact bodyPost_ret (v:=.tuple #[.agg #[.bool r.neg,.slice A9 n9 c9,.int .i64 r.e],.int .i64 code]) (by simp [results,Tryz.results72,go_sem,z0,z1,z2]) rfl ⟨A9,n9,c9,rfl,hnc,hbU _ _ b1 (by omega),(qaq I9 (fun b h1 h2=>hfU b (by omega))).more (by omega) (by omega)⟩
 go_wp2_with fail
 have HF:=none_.out (.inr ⟨(by first | rfl | trivial),(by first | rfl | trivial)⟩)
 refine (qc4 wr w4.heap.size cur hH true 0 (by decide) r code HF.out).mono ?_
 rintro e w9 ⟨A9,n9,c9,rfl,hnc,hB,I9⟩
 have ls9:=hB.size
 replace D3:=(hB.block _ (by omega)).trans D3
 replace b1:=b1.trans (hB.mono (by omega))
 clear hB p0 p1 p2 p3 p4 p5
 obtain⟨⟨z0,z1,z2⟩,z3,z4,z5⟩:=qam D3
 obtain⟨U,hU,hX,hbU,hfU,s1,s2⟩:=qco D3 (.bool r.neg) (.slice A9 n9 c9) (.int .i64 r.e)
 go_wp2
 try rw [hU]
 clear hU z0 z1 z2 z3 z4 z5
 obtain⟨⟨z0,z1,z2⟩,_⟩:=qam hX
 exact bodyPost_ret (v:=.tuple #[.agg #[.bool r.neg,.slice A9 n9 c9,.int .i64 r.e],.int .i64 code]) (by simp [results,Tryz.results72,go_sem,z0,z1,z2]) rfl ⟨A9,n9,c9,rfl,hnc,hbU _ _ b1 (by omega),(qaq I9 (fun b h1 h2=>hfU b (by omega))).more (by omega) (by omega)⟩
theorem qvy(m:Nat)(h0:m≠0)(h1:m < 4294967296):qaf 4294967296 m=[(m:Int)]:=by
 refine (qdx (by decide) (fun x hx=>?_) (fun _=>?_) ?_).symm
 . rw [List.mem_singleton.1 hx]
   omega
 . simp
   exact h0
 simp [num]
theorem qcw{w:World}{lo:Nat}{A:Option Addr}{n:Nat}{xs:List Int}(h:qae w lo w.heap.size .u32 A n xs):qae w 0 w.heap.size .u32 A n xs:=h.more (Nat.zero_le _) (Nat.le_refl _)
theorem qao{w w':World}{A:Option Addr}{n:Nat}{xs:List Int}(h:qae w 0 w.heap.size .u32 A n xs)(hb:Below w.heap.size w w'):qae w' 0 w'.heap.size .u32 A n xs:=(h.below hb (Nat.le_refl _)).more (Nat.le_refl _) hb.size
def qan(W w:World):Prop:=∀ p,p < W.heap.size->w.heap[p]? = W.heap[p]?
theorem qan.on{W w w':World}(h:qan W w)(hs:W.heap.size<=w.heap.size)(hb:Below w.heap.size w w'):qan W w':=fun p hp=>(hb.block p (Nat.lt_of_lt_of_le hp hs)).trans (h p hp)
theorem qdq{w w':World}{g B:Nat}{x y z:Value}{t:TypeId}(h:w.heap[g]? = some (.cells #[x,y,z] t (0,0)))(hb:Below B w w')(hB:g < B):w'.heap[g]? = some (.cells #[x,y,z] t (0,0)):=(hb.block g hB).trans h
noncomputable def qf2(s1:Bool)(xs1:List Int)(e1:Int)(s2:Bool)(xs2:List Int)(e2:Int):Dn×Int :=
 if qez s1 xs1 e1 s2 xs2 e2 0=0 then qlp (dn s1 xs1 e1) (dn s2 xs2 e2) else (Dn.zero,qez s1 xs1 e1 s2 xs2 e2 0)
theorem qxs(w:World)(s1 s2:Bool)(A1 A2:Option Addr)(n1 c1 n2 c2:Nat)(xs1 xs2:List Int)(e1 e2:Int)(h1:qae w 0 w.heap.size .u32 A1 n1 xs1)(h2:qae w 0 w.heap.size .u32 A2 n2 xs2)(q:Int)(hq:qez s1 xs1 e1 s2 xs2 e2 0=q)(hq0:q=2∨q=8) :
  Calls Tryz.prog 72 #[.agg #[.bool s1,.slice A1 n1 c1,.int .i64 e1],.agg #[.bool s2,.slice A2 n2 c2,.int .i64 e2]] w (qb0 w Dn.zero q):=by
 have HQ:=Lib.hid hq
 clear hq
 generalize hw:((w.alloc (.cells #[.bool s1,.slice A1 n1 c1,.int .i64 e1] 24)).alloc (.cells #[.bool s2,.slice A2 n2 c2,.int .i64 e2] 24)).alloc (.cells #[.bool false,.slice none 0 0,.int .i64 0] 24)=w1
 obtain⟨D1,D2,D3,b1,l1,l2⟩:=qcn w _ _ _ hw
 replace D3:w1.heap[w.heap.size+1+1]? = some (.cells #[.bool false,.slice none 0 0,.int .i64 0] 24 (0,0)):=D3
 replace h1:=h1.below b1 (Nat.le_refl _)
 replace h2:=h2.below b1 (Nat.le_refl _)
 obtain⟨⟨p0,p1,p2⟩,p3,p4,p5⟩:=qam D1
 obtain⟨⟨q0,q1,q2⟩,q3,q4,q5⟩:=qam D2
 go_enter Tryz.func72,Tryz.ntmps72
 go_wp2_with fail
 try clear hw
 refine (qg4 w1 s1 s2 A1 A2 n1 c1 n2 c2 xs1 xs2 e1 e2 (h1.more (Nat.le_refl _) (by omega)) (h2.more (Nat.le_refl _) (by omega)) 0 q HQ.out).mono ?_
 rintro e w2 ⟨rfl,hB⟩
 have ls2:=hB.size
 replace D3:=(hB.block _ (by omega)).trans D3
 replace b1:=b1.trans (hB.mono (by omega))
 clear hB p0 p1 p2 p3 p4 p5 q0 q1 q2 q3 q4 q5 h1 h2 D2 D1
 obtain⟨⟨z0,z1,z2⟩,z3,z4,z5⟩:=qam D3
 obtain⟨U,hU,hX,hbU,hfU,s1',s2'⟩:=qco D3 (.bool false) (.slice none 0 0) (.int .i64 0)
 rcases hq0 with rfl|rfl
 all_goals
  go_wp2
  try rw [hU]
  clear hU z0 z1 z2 z3 z4 z5
  obtain⟨⟨z0,z1,z2⟩,_⟩:=qam hX
  exact bodyPost_ret (v:=.tuple #[.agg #[.bool false,.slice none 0 0,.int .i64 0],.int .i64 _]) (by simp [results,Tryz.results72,go_sem,z0,z1,z2]) rfl ⟨none,0,0,rfl,Nat.le_refl _,hbU _ _ b1 (by omega),qae.nil_ ..⟩
theorem qxt(w:World)(s1 s2:Bool)(A1 A2:Option Addr)(n1 c1 n2 c2:Nat)(xs1 xs2:List Int)(e1 e2:Int)(h1:qae w 0 w.heap.size .u32 A1 n1 xs1)(h2:qae w 0 w.heap.size .u32 A2 n2 xs2)(r:Dn)(code:Int)(h:qf2 s1 xs1 e1 s2 xs2 e2=(r,code)) :
  Calls Tryz.prog 72 #[.agg #[.bool s1,.slice A1 n1 c1,.int .i64 e1],.agg #[.bool s2,.slice A2 n2 c2,.int .i64 e2]] w (qb0 w r code):=by
 unfold qf2 at h
 split at h
 . rename_i hm
   obtain⟨m1,m2,hs,hx,k0,k1⟩:=qg5 hm
   obtain⟨y1,c1',t1⟩:=qii (qck h1) m1
   obtain⟨y2,c2',t2⟩:=qii (qck h2) m2
   have hb0:(dn s2 xs2 e2).m≠0:=fun e=>hx (by rw [<-c2',e]; rfl)
   have:=qz7 w (dn s1 xs1 e1) (dn s2 xs2 e2) s1 rfl y1 y2 hs hb0 A1 A2 n1 c1 n2 c2 (by rw [c1']; exact h1) (by rw [c2']; exact h2) r code h
   rw [t1,t2] at this
   exact this
 rename_i hm
 injection h with h3 h4
 subst h3 h4
 exact qxs w s1 s2 A1 A2 n1 c1 n2 c2 xs1 xs2 e1 e2 h1 h2 _ rfl ((qjx ..).resolve_left hm)
end Dy
end Go.Proofs.YtmbppgjhdcmckaaGreatDoor