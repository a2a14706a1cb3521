/- What is reckoned with dyads, whatever they are: contracts. -/
import Derived.Test.YtmbppgjhdcmckaaGreatDoorBj09
set_option maxHeartbeats 102400000
set_option maxRecDepth 100000
namespace Go.Proofs.YtmbppgjhdcmckaaGreatDoor
open Go.RowKit
namespace Dy
open Dp
open Classical in
noncomputable def qne(s1:Bool)(xs1:List Int)(e1:Int):Dn×Int:=if qik s1 xs1 e1 then qgt (dn s1 xs1 e1) else (Dn.zero,8)
open Classical in
noncomputable def chkX(s1:Bool)(xs1:List Int)(e1:Int):Int:=if qik s1 xs1 e1 then 0 else 8
theorem qk2{w:World}{e:Ending}{w':World}(h:Bad w e w'):qb0 w Dn.zero 8 e w':=⟨none,0,0,h.1,Nat.le_refl _,h.2,qae.nil_ ..⟩
theorem qrb(w:World)(s1:Bool)(A1:Option Addr)(n1 c1:Nat)(xs1:List Int)(e1:Int)(h1:qae w 0 w.heap.size .u32 A1 n1 xs1)(hT:Tab w)(r:Dn)(code:Int)(h:qne s1 xs1 e1=(r,code)) :
  Calls Tryz.prog 82 #[.agg #[.bool s1,.slice A1 n1 c1,.int .i64 e1]] w (qb0 w r code):=by
 unfold qne at h
 split at h
 . rename_i hm
   exact qyx w s1 A1 n1 c1 xs1 e1 h1 hm hT r code h
 rename_i hm
 injection h with h3 h4
 subst h3 h4
 exact (qyy w s1 A1 n1 c1 xs1 e1 h1 hm).mono fun _ _ k=>qk2 k
theorem qn2(w:World)(s1:Bool)(A1:Option Addr)(n1 c1:Nat)(xs1:List Int)(e1:Int)(h1:qae w 0 w.heap.size .u32 A1 n1 xs1)(k:Int)(h:chkX s1 xs1 e1=k) :
  Calls Tryz.prog 137 #[.agg #[.bool s1,.slice A1 n1 c1,.int .i64 e1]] w fun e w'=>e=.returned (.int .i64 k)/\Below w.heap.size w w':=by
 unfold chkX at h
 split at h
 . subst h
   exact qmf w 0 w.heap.size s1 A1 n1 c1 xs1 e1 h1 (Nat.le_refl _) (by assumption)
 subst h
 exact qj7 w 0 w.heap.size s1 A1 n1 c1 xs1 e1 h1 (Nat.le_refl _) (by assumption)
end Dy
end Go.Proofs.YtmbppgjhdcmckaaGreatDoor
namespace Go.Proofs.YtmbppgjhdcmckaaGreatDoor
namespace Dp
def qd3(z:Int):Dn:=⟨decide (z < 0),z.natAbs,0⟩
theorem qgb{z:Int}(h0:-9223372036854775808<=z)(h1:z<=9223372036854775807):(qd3 z).May:=by
 refine⟨qo6 (k:=64) (show z.natAbs < 2^64 by omega) (by decide),Nat.zero_le _,fun h=>⟨rfl,?_⟩,fun h=>absurd h (Nat.lt_irrefl 0)⟩
 have h:z.natAbs=0:=h
 exact decide_eq_false (by omega)
end Dp
end Go.Proofs.YtmbppgjhdcmckaaGreatDoor
namespace Go.Proofs.YtmbppgjhdcmckaaGreatDoor
open Go.RowKit
section
variable {P:Program} {ops:Array Oper} {os:List Oper} {Q:Exit->Act->World->Prop} {md:Region.Mode} {S:World->Prop} {E:List Nat}
theorem skipE{i n:Nat}{oi:Oper}{listed L:Array Bool}{a:Act}{w:World}(hi:os[i]? = some oi)(hL:listed.setIfInBounds i true=L)
  (hs:Region.noSelect os.toArray=true) (hf:Region.free md os.toArray listed i=true) (hr:(Region.ready md os.toArray listed).contains i=true)
  (hQ:∀ c a w,Q (.panic c) (a.put oi.dst undef) w->Q (.panic c) a w) (hw:Region.wanted oi (yielded os.toArray a.tmps)=false)
  (h:qa5 P md os.toArray Q S E n L (a.put oi.dst undef) w):qa5 P md os.toArray Q S E (n+1) listed a w:=by
 have hi':os.toArray[i]? = some oi:=by simpa using hi
 exact qvi hi' (Region.noSelect_spec hs) hQ n listed a w (Region.free_spec hi' hf) (by simpa using hr) (Or.inr ⟨hw,rfl⟩) (hL▸h)
end
end Go.Proofs.YtmbppgjhdcmckaaGreatDoor
namespace Go.Proofs.YtmbppgjhdcmckaaGreatDoor
open Go.RowKit
namespace Dy
open Dp
theorem later{a b c:World}(h:Below a.heap.size a b)(k:Below b.heap.size b c):Below a.heap.size a c:=h.trans (k.mono h.size)
theorem lz{a b c:World}(h:Below a.heap.size a b)(k:Below b.heap.size b c):Below a.heap.size a c:=later h k
theorem qaa{w w':World}{g:Nat}{o:Obj}(h:w.heap[g]? = some o)(hb:Below w.heap.size w w')(hg:g < w.heap.size):w'.heap[g]? = some o:=(hb.block g hg).trans h
theorem qbs{w w':World}(h:Tab w)(hb:Below w.heap.size w w'):Tab w':=h.below hb h.lt
theorem qdu(w:World)(lo hi:Nat)(A:Option Addr)(n c:Nat)(xs:List Int)(hX:qae w lo hi .u32 A n xs)(h:qn5 xs) :
  Calls Tryz.prog 203 #[.slice A n c] w fun e w'=>e=.returned (.bool true)/\w'=w:=by
 have hL:=Lib.hid hX.len
 have h40:n<=40:=by have:=h.1; have:=hL.out; omega
 by_cases h0:0 < n
 . have hlast:=(qg0 hX.len h0).1 h.2
   obtain⟨b,off,rfl,hcell⟩:=get hX h0
   have g1:w.cell? ⟨b,off+(n-1),none⟩=some (.int .u32 (xs[n-1]?.getD 0)):=hcell (n-1) (by omega)
   have hb:(xs[n-1]?.getD 0 != 0)=true:=by simpa using hlast
   have hn0:((n:Int)==0)=false:=by simp; omega
   have e1:((n:Int)-1).toNat=n-1:=by omega
   clear hcell hlast h
   generalize xs[n-1]?.getD 0=v at g1 hb
   go_enter Tryz.func203,Tryz.ntmps203
   go_wp2
   go_ret
   exact⟨rfl,rfl⟩
 obtain rfl:n=0:=by omega
 clear h
 go_enter Tryz.func203,Tryz.ntmps203
 go_wp2
 go_ret
 exact⟨rfl,rfl⟩
theorem qt7(w:World)(lo hi:Nat)(A:Option Addr)(n c:Nat)(xs:List Int)(hX:qae w lo hi .u32 A n xs)(h:¬ qn5 xs) :
  Calls Tryz.prog 203 #[.slice A n c] w fun e w'=>e=.returned (.bool false)/\w'=w:=by
 have hL:=Lib.hid hX.len
 have hbig:=hX.big
 by_cases h40:n<=40
 . have h0:0 < n:=by
     rcases Nat.eq_zero_or_pos n with h0|h0
     . exact absurd ⟨by have:=hL.out; omega,fun hne=>absurd (hX.zero h0) hne⟩ h
     exact h0
   have hlast:xs[n-1]?.getD 0=0:=by
    by_cases hl:xs[n-1]?.getD 0=0
    . exact hl
    exact absurd ⟨by have:=hL.out; omega,(qg0 hX.len h0).2 hl⟩ h
   obtain⟨b,off,rfl,hcell⟩:=get hX h0
   have g1:w.cell? ⟨b,off+(n-1),none⟩=some (.int .u32 (xs[n-1]?.getD 0)):=hcell (n-1) (by omega)
   rw [hlast] at g1
   have hn0:((n:Int)==0)=false:=by simp; omega
   have e1:((n:Int)-1).toNat=n-1:=by omega
   clear hcell hlast h
   go_enter Tryz.func203,Tryz.ntmps203
   go_wp2
   go_ret
   exact⟨rfl,rfl⟩
 clear h
 go_enter Tryz.func203,Tryz.ntmps203
 go_wp2
 go_ret
 exact⟨rfl,rfl⟩
theorem qhh(w:World)(lo hi:Nat)(s:Bool)(A:Option Addr)(n c:Nat)(xs:List Int)(ex:Int)(hX:qae w lo hi .u32 A n xs)(hhi:hi<=w.heap.size)(h:qik s xs ex) :
  Calls Tryz.prog 181 #[.agg #[.bool s,.slice A n c,.int .i64 ex]] w fun e w'=>e=.returned (.bool true)/\Below w.heap.size w w':=by
 have hL:=Lib.hid hX.len
 have hX2:=hX.alloc hhi (.cells #[.bool s,.slice A n c,.int .i64 ex] 24)
 have hB:=(Below.refl w.heap.size w).alloc (Nat.le_refl _) (.cells #[.bool s,.slice A n c,.int .i64 ex] 24)
 obtain⟨hmay,he0,he1,hz,ho⟩:=h
 by_cases h0:0 < n
 . have hne:xs≠[]:=fun e=>by have:=hL.out; rw [e] at this; simp at this; omega
   obtain⟨b,off,rfl,hcell⟩:=get hX2 h0
   have g1:=hcell 0 h0
   rw [Nat.add_zero] at g1
   have ho':=ho hne
   have hn0:((n:Int)==0)=false:=by simp; omega
   obtain⟨v0,v1⟩:=hX.u32 0
   clear hcell hz ho
   generalize xs[0]?.getD 0=v at g1 ho' v0 v1
   by_cases hpos:0 < ex
   . have hv:=ho' hpos
     have hv2:v%2=1:=hv
     clear ho' hv hne
     go_enter Tryz.func181,Tryz.ntmps181
     go_wp2_with fail
     refine (qdu _ _ _ _ _ _ _ hX2 hmay).mono ?_
     rintro e w1 ⟨rfl,rfl⟩
     clear hmay
     go_wp2
     go_ret
     exact⟨rfl,hB⟩
   obtain rfl:ex=0:=by omega
   clear ho' hne he0 he1
   go_enter Tryz.func181,Tryz.ntmps181
   go_wp2_with fail
   refine (qdu _ _ _ _ _ _ _ hX2 hmay).mono ?_
   rintro e w1 ⟨rfl,rfl⟩
   clear hmay
   go_wp2
   go_ret
   exact⟨rfl,hB⟩
 obtain rfl:n=0:=by omega
 obtain⟨rfl,rfl⟩:=hz (hX.zero rfl)
 clear ho he0 he1
 go_enter Tryz.func181,Tryz.ntmps181
 go_wp2_with fail
 refine (qdu _ _ _ _ _ _ _ hX2 hmay).mono ?_
 rintro e w1 ⟨rfl,rfl⟩
 clear hmay
 go_wp2
 go_ret
 exact⟨rfl,hB⟩
theorem qfg(w:World)(lo hi:Nat)(s:Bool)(A:Option Addr)(n c:Nat)(xs:List Int)(ex:Int)(hX:qae w lo hi .u32 A n xs)(hhi:hi<=w.heap.size)(h:¬ qik s xs ex) :
  Calls Tryz.prog 181 #[.agg #[.bool s,.slice A n c,.int .i64 ex]] w fun e w'=>e=.returned (.bool false)/\Below w.heap.size w w':=by
 have hL:=Lib.hid hX.len
 have hX2:=hX.alloc hhi (.cells #[.bool s,.slice A n c,.int .i64 ex] 24)
 have hB:=(Below.refl w.heap.size w).alloc (Nat.le_refl _) (.cells #[.bool s,.slice A n c,.int .i64 ex] 24)
 have hbig:=hX.big
 rcases quj h with hm|⟨hm,hx⟩|⟨hm,h0,h1,hz,hx⟩|⟨hm,h0,h1,hz,hx⟩
 . clear h
   go_enter Tryz.func181,Tryz.ntmps181
   go_wp2_with fail
   refine (qt7 _ _ _ _ _ _ _ hX2 hm).mono ?_
   rintro e w1 ⟨rfl,rfl⟩
   clear hm
   by_cases hn0:n=0
   . subst hn0
     go_wp2
     go_ret
     exact⟨rfl,hB⟩
   have hn1:((n:Int)==0)=false:=by simp; omega
   go_wp2
   go_ret
   exact⟨rfl,hB⟩
 . clear h
   have hn1:n≠0->((n:Int)==0)=false:=fun h=>by simp; omega
   rcases hx with hx|hx
   all_goals
    by_cases hn0:n=0
    . subst hn0
      clear hn1
      go_enter Tryz.func181,Tryz.ntmps181
      go_wp2_with fail
      refine (qdu _ _ _ _ _ _ _ hX2 hm).mono ?_
      rintro e w1 ⟨rfl,rfl⟩
      clear hm
      go_wp2
      go_ret
      exact⟨rfl,hB⟩
    have hn2:=hn1 hn0
    clear hn1
    go_enter Tryz.func181,Tryz.ntmps181
    go_wp2_with fail
    refine (qdu _ _ _ _ _ _ _ hX2 hm).mono ?_
    rintro e w1 ⟨rfl,rfl⟩
    clear hm
    go_wp2
    go_ret
    exact⟨rfl,hB⟩
 . clear h
   subst hz
   obtain rfl:n=0:=by have:=hL.out; simp at this; omega
   by_cases hx0:ex=0
   . subst hx0
     obtain rfl:s=true:=hx.resolve_left (fun h=>h rfl)
     clear hx
     go_enter Tryz.func181,Tryz.ntmps181
     go_wp2_with fail
     refine (qdu _ _ _ _ _ _ _ hX2 hm).mono ?_
     rintro e w1 ⟨rfl,rfl⟩
     clear hm
     go_wp2
     go_ret
     exact⟨rfl,hB⟩
   have hx1:(ex != 0)=true:=by simpa using hx0
   clear hx
   go_enter Tryz.func181,Tryz.ntmps181
   go_wp2_with fail
   refine (qdu _ _ _ _ _ _ _ hX2 hm).mono ?_
   rintro e w1 ⟨rfl,rfl⟩
   clear hm
   go_wp2
   go_ret
   exact⟨rfl,hB⟩
 clear h
 have hn0:0 < n:=by
  rcases Nat.eq_zero_or_pos n with h0|h0
  . exact absurd (hX.zero h0) hz
  exact h0
 obtain⟨b,off,rfl,hcell⟩:=get hX2 hn0
 have g1:=hcell 0 hn0
 rw [Nat.add_zero] at g1
 have hn1:((n:Int)==0)=false:=by simp; omega
 obtain⟨v0,v1⟩:=hX.u32 0
 clear hcell hz
 generalize xs[0]?.getD 0=v at g1 hx v0 v1
 have hv:v%2=0:=by omega
 have hx0:(ex==0)=false:=by simp; omega
 clear hx
 go_enter Tryz.func181,Tryz.ntmps181
 go_wp2_with fail
 refine (qdu _ _ _ _ _ _ _ hX2 hm).mono ?_
 rintro e w1 ⟨rfl,rfl⟩
 clear hm
 go_wp2
 go_ret
 exact⟨rfl,hB⟩
end Dy
end Go.Proofs.YtmbppgjhdcmckaaGreatDoor
namespace Go.Proofs.YtmbppgjhdcmckaaGreatDoor
open Go.RowKit
namespace Dy
theorem Tryz.info48:(Tryz.prog.info? 48).map (fun i=>(i.zero,i.size,i.bytes))=some (some (.int .u32 0),1,4):=by kernel_rfl
theorem qfa(w:World)(lo hi:Nat)(A:Option Addr)(n c:Nat)(xs:List Int)(hX:qae w lo hi .u8 A n xs)(hdx:Dig 2 xs)(hnc:n<=c)(hhi:hi<=w.heap.size)(hn:n<=1000000)(v:Nat)(hv:num 2 xs=v) :
  Calls Tryz.prog 188 #[.slice A n c] w fun e w'=>∃ A' n' c',e=.returned (.slice A' n' c')/\n'<=c'/\Below w.heap.size w w'/\qae w' w.heap.size w'.heap.size .u32 A' n' (qaf 4294967296 v):=by
 obtain⟨i0,hi0,hz0,hz1,hz2⟩:=info_parts Tryz.info48
 go_enter Tryz.func188,Tryz.ntmps188
 go_wp2_with fail
 refine (qev _ _ _ _ _ _ _ hX hdx hnc).mono ?_
 rintro e w1 ⟨⟨m,rfl,hmn,hI⟩,rfl⟩
 rw [hv] at hI
 clear hv hdx hX
 obtain⟨ys,hys⟩:∃ ys,qaf 2 v=ys:=⟨_,rfl⟩
 have hspec:=qah 2 v (by decide)
 rw [hys] at hspec hI
 obtain⟨hdy,hcy,hvy⟩:=hspec
 have HL:=Lib.hid hI.len
 have HV:=Lib.hid hvy
 clear hys hvy
 go_wp2
 go_loopw [3,4] (fun o i wr=>∃ j:Nat,∃ out:List Int,i=.int .i64 ((32*j:Nat):Int)/\32*j<=m+31/\wr.ownsRow w1.heap.size 48 1 o j (out.map (Value.int .u32))/\Dig 4294967296 out/\Hid (num 4294967296 out=num 2 (ys.take (32*j)))/\Below w1.heap.size w1 wr)
  (fun _ i _=>m+32-(intOf i).toNat)
 case atStart=>exact⟨0,[],rfl,by omega,⟨rfl,.inl ⟨rfl,rfl⟩⟩,fun x hx=>(by simp at hx),by simp [Hid,num],Below.refl _ _⟩
 obtain⟨j,out,rfl,hj,hown,hdo,hnum,hnx⟩:=hrel
 obtain⟨wo,rfl⟩:∃ wo:World,wo=wr:=⟨_,rfl⟩
 by_cases hlt:32*j < m
 . by_cases htp:m<=32*j+32
   . have hI2:=hI.below hnx hhi
     obtain⟨bb,off,rfl,hcell⟩:=get hI2 (by omega)
     clear hI2
     have htop:m<=ys.length:=by rw [HL.out]; omega
     go_wp2
     go_loopw [5,6] (fun nn kv wr'=>∃ k r:Nat,kv=.int .i64 ((k:Int)-1)/\nn=.int .u32 r/\32*j<=k/\k<=m/\Hid (num 2 (part ys k (m))=r)/\wr'=wo) (fun _ kv _=>(intOf kv+1).toNat)
     case atStart=>exact⟨m,0,by first | rfl | (congr 1; omega) | (congr 1; push_cast; omega),rfl,by omega,Nat.le_refl _,by rw [Hid,qgo]; rfl,rfl⟩
     obtain⟨k,r,rfl,rfl,hk1,hk2,hr,rfl⟩:=hrel
     have hr1:=qli (B:=2) (by decide) hdy (i:=k) (t:=m) (k:=32) (by omega)
     rw [hr.out] at hr1
     have hr2:r<=4294967295:=by omega
     clear hr1
     by_cases hkl:32*j < k
     . obtain⟨k,rfl⟩:∃ k',k=k'+1:=⟨k-1,by omega⟩
       have ek:((k+1:Nat):Int)-1=(k:Int):=by omega
       rw [ek]
       obtain⟨p,hp,hp1⟩:=qdb hdy k
       have g1:wr.cell? ⟨bb,off+k,none⟩=some (.int .u8 (ys[k]?.getD 0)):=hcell k (by omega)
       rw [hp] at g1
       have hst:=qm1 2 ys (i:=k) (t:=m) (by omega) htop
       rw [hp,hr.out] at hst
       have hr3:=qli (B:=2) (by decide) hdy (i:=k) (t:=m) (k:=32) (by omega)
       rw [hst] at hr3
       have hr4:2*(r:Int)+(p:Int)<=4294967295:=by simp only [Int.toNat_natCast] at hr3; omega
       have HST:=Lib.hid hst
       clear hst hr3 hp ek
       go_wp2
       go_roundw
       case rel=>exact⟨k,p+2*r,by first | rfl | (congr 1; omega),by congr 1; push_cast; omega,by omega,by omega,by have:=HST.out; simpa [Hid] using this,by trivial⟩
       case measure=>first | (simp [intOf]; done) | (simp [intOf]; omega)
     obtain rfl:k=32*j:=by omega
     have hol:out.length=j:=by have:=hown.1; simpa using this
     have hnum2:Hid (num 4294967296 (out++[(r:Int)])=num 2 (ys.take (32*(j+1)))):=by
      have e1:ys.take (32*(j+1))=ys.take (m):=by
       first
        | rfl
        | (congr 1; done)
        | (rw [List.take_of_length_le (by rw [HL.out]; omega),List.take_of_length_le (by rw [HL.out]; omega)])
      rw [Hid,e1,qhk 2 ys (i:=32*j) (t:=m) (by omega) (by rw [HL.out]; omega),qa8,hol,hnum.out,hr.out,Nat.pow_mul]
      simp [num]
     have hdo2:Dig 4294967296 (out++[(r:Int)]):=fun x hx=>by
      rcases List.mem_append.1 hx with h'|h'
      . exact hdo x h'
      rw [List.mem_singleton.1 h']
      omega
     clear hol hnum hr
     go_wp2_with (first
      | (at_builtin; refine qag _ rfl (.tmp 34) (.tmp 36) 22 rfl w1.heap.size 48 i0 (.int .u32 0) 1 4 Tryz.underlying22 hi0 hz0 hz1 hz2 rfl (by decide) _ _ _ rfl (hown.alloc _) _ _ _ 1 1 [.int .u32 r] rfl (qei _ _ _ _) ?d1 ?d2 ?d3 ?d4 ?_))
     case d1=>first | rfl | (intro u hu; simp at hu; subst hu; rfl)
     case d2=>unfold maxLen; omega
     case d3=>omega
     case d4=>have:=hnx.size; simp; omega
     intro A2 c2 w3 hown2 hgrow2 _
     have hnx2:Below w1.heap.size w1 w3:=(hnx.alloc hnx.size _).grown hgrow2 (by have:=hnx.size; simp; omega) (fun q hq=>(hown.lt q hq).1)
     have hown3:w3.ownsRow w1.heap.size 48 1 (.slice A2 (j+1) c2) (j+1) ((out++[(r:Int)]).map (Value.int .u32)):=by simpa using hown2
     clear hown2 hgrow2 hown
     go_wp2
     go_roundw
     case rel=>exact⟨j+1,_,by first | rfl | (congr 1; done) | (congr 1; push_cast; omega),by omega,hown3,hdo2,hnum2,hnx2⟩
     case measure=>simp [intOf]; omega
   have hI2:=hI.below hnx hhi
   obtain⟨bb,off,rfl,hcell⟩:=get hI2 (by omega)
   clear hI2
   have htop:32*j+32<=ys.length:=by rw [HL.out]; omega
   go_wp2
   go_loopw [5,6] (fun nn kv wr'=>∃ k r:Nat,kv=.int .i64 ((k:Int)-1)/\nn=.int .u32 r/\32*j<=k/\k<=32*j+32/\Hid (num 2 (part ys k (32*j+32))=r)/\wr'=wo) (fun _ kv _=>(intOf kv+1).toNat)
   case atStart=>exact⟨32*j+32,0,by first | rfl | (congr 1; omega) | (congr 1; push_cast; omega),rfl,by omega,Nat.le_refl _,by rw [Hid,qgo]; rfl,rfl⟩
   obtain⟨k,r,rfl,rfl,hk1,hk2,hr,rfl⟩:=hrel
   have hr1:=qli (B:=2) (by decide) hdy (i:=k) (t:=32*j+32) (k:=32) (by omega)
   rw [hr.out] at hr1
   have hr2:r<=4294967295:=by omega
   clear hr1
   by_cases hkl:32*j < k
   . obtain⟨k,rfl⟩:∃ k',k=k'+1:=⟨k-1,by omega⟩
     have ek:((k+1:Nat):Int)-1=(k:Int):=by omega
     rw [ek]
     obtain⟨p,hp,hp1⟩:=qdb hdy k
     have g1:wr.cell? ⟨bb,off+k,none⟩=some (.int .u8 (ys[k]?.getD 0)):=hcell k (by omega)
     rw [hp] at g1
     have hst:=qm1 2 ys (i:=k) (t:=32*j+32) (by omega) htop
     rw [hp,hr.out] at hst
     have hr3:=qli (B:=2) (by decide) hdy (i:=k) (t:=32*j+32) (k:=32) (by omega)
     rw [hst] at hr3
     have hr4:2*(r:Int)+(p:Int)<=4294967295:=by simp only [Int.toNat_natCast] at hr3; omega
     have HST:=Lib.hid hst
     clear hst hr3 hp ek
     go_wp2
     go_roundw
     case rel=>exact⟨k,p+2*r,by first | rfl | (congr 1; omega),by congr 1; push_cast; omega,by omega,by omega,by have:=HST.out; simpa [Hid] using this,by trivial⟩
     case measure=>first | (simp [intOf]; done) | (simp [intOf]; omega)
   obtain rfl:k=32*j:=by omega
   have hol:out.length=j:=by have:=hown.1; simpa using this
   have hnum2:Hid (num 4294967296 (out++[(r:Int)])=num 2 (ys.take (32*(j+1)))):=by
    have e1:ys.take (32*(j+1))=ys.take (32*j+32):=by
     first
      | rfl
      | (congr 1; done)
      | (rw [List.take_of_length_le (by rw [HL.out]; omega),List.take_of_length_le (by rw [HL.out]; omega)])
    rw [Hid,e1,qhk 2 ys (i:=32*j) (t:=32*j+32) (by omega) (by rw [HL.out]; omega),qa8,hol,hnum.out,hr.out,Nat.pow_mul]
    simp [num]
   have hdo2:Dig 4294967296 (out++[(r:Int)]):=fun x hx=>by
    rcases List.mem_append.1 hx with h'|h'
    . exact hdo x h'
    rw [List.mem_singleton.1 h']
    omega
   clear hol hnum hr
   go_wp2_with (first
    | (at_builtin; refine qag _ rfl (.tmp 34) (.tmp 36) 22 rfl w1.heap.size 48 i0 (.int .u32 0) 1 4 Tryz.underlying22 hi0 hz0 hz1 hz2 rfl (by decide) _ _ _ rfl (hown.alloc _) _ _ _ 1 1 [.int .u32 r] rfl (qei _ _ _ _) ?f1 ?f2 ?f3 ?f4 ?_))
   case f1=>first | rfl | (intro u hu; simp at hu; subst hu; rfl)
   case f2=>unfold maxLen; omega
   case f3=>omega
   case f4=>have:=hnx.size; simp; omega
   intro A2 c2 w3 hown2 hgrow2 _
   have hnx2:Below w1.heap.size w1 w3:=(hnx.alloc hnx.size _).grown hgrow2 (by have:=hnx.size; simp; omega) (fun q hq=>(hown.lt q hq).1)
   have hown3:w3.ownsRow w1.heap.size 48 1 (.slice A2 (j+1) c2) (j+1) ((out++[(r:Int)]).map (Value.int .u32)):=by simpa using hown2
   clear hown2 hgrow2 hown
   go_wp2
   go_roundw
   case rel=>exact⟨j+1,_,by first | rfl | (congr 1; done) | (congr 1; push_cast; omega),by omega,hown3,hdo2,hnum2,hnx2⟩
   case measure=>simp [intOf]; omega
 obtain⟨A2,c2,rfl,hc2,_⟩:=qbb hown
 have hol:out.length=j:=by have:=hown.1; simpa using this
 have hend:num 4294967296 out=v:=by rw [hnum.out,List.take_of_length_le (by rw [HL.out]; omega),HV.out]
 have hcut:qn6 out:=qkw (by decide) hdo fun hne=>by
  have hj0:0 < j:=by rw [<-hol]; exact List.length_pos_iff.2 hne
  have hyne:ys≠[]:=fun e=>by have:=HL.out; rw [e] at this; simp at this; omega
  have h1:=qui hdy hcy hyne
  rw [HV.out,HL.out] at h1
  rw [hend,hol]
  have h2:(4294967296:Nat)^(j-1)=2^(32*(j-1)):=by rw [Nat.pow_mul]
  have h3:2^(32*(j-1))<=2^(m-1):=Nat.pow_le_pow_right (by decide) (by omega)
  omega
 have hcan:=qdx (by decide) hdo hcut hend
 have hwf:∀ x∈out,IntKind.u32.min<=x/\x<=IntKind.u32.max:=fun x hx=>by
  have h1:=hdo x hx
  have h2:0<=x/\x<=4294967295:=by omega
  simpa [IntKind.min,IntKind.max,IntKind.signed,IntKind.bits] using h2
 have hI2:=qae.of_own hown hwf (by omega)
 rw [hcan] at hI2
 clear hown hnum hol hend hcut hcan hwf
 go_wp2
 go_ret
 exact⟨A2,j,c2,rfl,hc2,hnx,hI2⟩
end Dy
end Go.Proofs.YtmbppgjhdcmckaaGreatDoor
namespace Go.Proofs.YtmbppgjhdcmckaaGreatDoor
open Go.RowKit
namespace Dy
open Dp
theorem qfq{w:World}{g:Nat}{x y:Value}{t:TypeId}(h:w.heap[g]? = some (.cells #[x,y] t (0,0))) :
  (w.cell? ⟨g,0,none⟩=some x/\w.cell? ⟨g,1,none⟩=some y)/\(w.frozen? ⟨g,0,none⟩=false/\w.frozen? ⟨g,1,none⟩=false) :=
 ⟨⟨cell_of_row w g 0 _ t _ h,cell_of_row w g 1 _ t _ h⟩,frozen_of_row w g 0 _ t h,frozen_of_row w g 1 _ t h⟩
theorem qbx{w:World}{lo hi:Nat}{k:IntKind}{A:Option Addr}{n:Nat}{xs:List Int}(h:qae w lo hi k A n xs){g:Nat}(hg:g < lo)(o:Nat)(v:Value):qae (w.setCell ⟨g,o,none⟩ v) lo hi k A n xs:=qad h (.inl hg) v
theorem qzh(w:World)(s:Bool)(m ex:Nat)(A:Option Addr)(n c:Nat)(h:qae w 0 w.heap.size .u32 A n (qaf 4294967296 m))(hn:n<=40)(k:Nat)(hk:ex<=k)(hk2:k<=2000)(v:Nat)(hv:2^(k-ex)*m=v)(kk:Int)(hkk:kk=k) :
  Calls Tryz.prog 189 #[.agg #[.bool s,.slice A n c,.int .i64 ex],.int .i64 kk] w fun e w'=>∃ A' n' c',e=.returned (.agg #[.bool s,.slice A' n' c'])/\n'<=c'/\n'<=4000/\Below w.heap.size w w'/\qae w' w.heap.size w'.heap.size .u8 A' n' (qaf 2 v):=by
 have hsub:IntKind.i64.wrap (kk-(ex:Int))=((k-ex:Nat):Int):=by rw [hkk,IntKind.wrap_i64]; omega
 have HS:=Lib.hid hsub
 have hcs:=qah 4294967296 m (by decide)
 have hd:=Lib.hid hcs.1
 have hnm:=Lib.hid hcs.2.2
 have HV:=Lib.hid hv
 have hX2:=h.alloc (Nat.le_refl _) (.cells #[.bool s,.slice A n c,.int .i64 ex] 24)
 clear hkk hsub hcs hv h
 generalize hw1:w.alloc (.cells #[.bool s,.slice A n c,.int .i64 ex] 24)=w1 at *
 have hbx:w1.heap[w.heap.size]? = some (.cells #[.bool s,.slice A n c,.int .i64 ex] 24 (0,0)):=by rw [<-hw1]; exact heap_alloc_last _ _
 have HS1:Hid (w1.heap.size=w.heap.size+1):=by rw [Hid,<-hw1]; simp
 have hB1:Below w.heap.size w w1:=by rw [<-hw1]; exact (Below.refl _ w).alloc (Nat.le_refl _) _
 go_enter Tryz.func189,Tryz.ntmps189
 go_wp2
 clear hw1
 have hX3:=hX2.alloc (by have:=HS1.out; omega) (.cells #[.bool false,.slice none 0 0] 173)
 have hB2:=hB1.alloc (by have:=HS1.out; omega) (.cells #[.bool false,.slice none 0 0] 173)
 have hbx2:=(Below.heap_alloc w1 (.cells #[.bool false,.slice none 0 0] 173) w.heap.size (by have:=HS1.out; omega)).trans hbx
 have hrs:=heap_alloc_last w1 (.cells #[.bool false,.slice none 0 0] 173)
 have HS2:Hid ((w1.alloc (.cells #[.bool false,.slice none 0 0] 173)).heap.size=w1.heap.size+1):=by rw [Hid]; simp
 generalize hw2:w1.alloc (.cells #[.bool false,.slice none 0 0] 173)=w2 at *
 clear hw2 hX2 hB1 hbx
 have kD:qan w2 w2.drew:=fun _ _=>rfl
 have b2:Below w2.heap.size w2 w2.drew:=(Below.refl _ _).drew
 refine zB (qan w2) [11] 12 ?_
 refine zM 1 [0] ?_ ?_
 refine zD 1 (.bool s) rfl ?hyA ?restA
 case hyA =>
  intro w' h1
  obtain⟨⟨k1,k2,k3⟩,_⟩:=qam ((h1 _ (by have:=HS1.out; have:=HS2.out; omega)).trans hbx2)
  go_simp
 try simp only [Act.put,zp]
 refine zM 1 [2] ?_ ?_
 refine zD 3 (.slice A n c) rfl ?hyB ?restB
 case hyB =>
  intro w' h1
  obtain⟨⟨k1,k2,k3⟩,_⟩:=qam ((h1 _ (by have:=HS1.out; have:=HS2.out; omega)).trans hbx2)
  go_simp
 try simp only [Act.put,zp]
 refine zM 2 [5,6] ?_ ?_
 refine zD 7 (.int .i64 ex) rfl ?hyC ?restC
 case hyC =>
  intro w' h1
  obtain⟨⟨k1,k2,k3⟩,_⟩:=qam ((h1 _ (by have:=HS1.out; have:=HS2.out; omega)).trans hbx2)
  go_simp
 try simp only [Act.put,zp]
 have hsub:=HS.out
 refine zM 1 [8] ?_ ?_
 clear hsub
 refine zK 4 rfl fun K hK=>?_
 go_simp
 go_at_call 183
 refine (qhz w2.drew 0 w.heap.size A n c _ (hX3.drewN 1) hd.out (by show w.heap.size<=w2.heap.size; have:=HS1.out; have:=HS2.out; omega) (by omega) m hnm.out).mono ?_
 rintro e w3 ⟨A1,n1,c1,rfl,hc1,hn1,hB,hI3⟩
 have b3:=b2.trans hB
 clear hB
 refine hK _ _ ⟨fun _ _ p hp=>b3.block p hp,?_⟩
 clear hK K
 try simp only [Act.put,zp]
 refine zK 9 rfl fun K hK=>?_
 go_simp
 go_at_call 182
 refine (qhx w3 _ _ A1 n1 c1 m hI3 (Nat.le_refl _) (by omega) (k-ex) _ rfl (by omega)).mono ?_
 rintro e w4 ⟨A2,n2,c2,rfl,hc2,hn2,hB,hI4⟩
 have b4:=b3.trans (hB.mono b3.size)
 have hi4:=Lib.hid hI4
 have hs3:=b3.size
 have hs4:=hB.size
 clear hB hI3 hI4
 refine hK _ _ ⟨fun _ _ p hp=>b4.block p hp,?_⟩
 clear hK K
 try simp only [Act.put,zp]
 refine zM 1 [10] ?_ ?_
 obtain⟨⟨p1,p2⟩,p3,p4⟩:=qfq ((b4.block w1.heap.size (by have:=HS2.out; omega)).trans hrs)
 refine zK 11 rfl fun K hK=>?_
 go_simp
 refine hK _ _ ⟨fun h=>absurd h (by decide),?_⟩
 clear hK K
 try simp only [Act.put,zp]
 refine qa2 (by kernel_rfl) ?_ _
 go_wp2
 refine bodyPost_ret (v:=.agg #[.bool s,.slice A2 n2 c2]) (by simp [results,Tryz.results189,go_sem,p1,p2]) rfl ⟨A2,n2,c2,rfl,hc2,by omega,?_,?_⟩
 . exact ((hB2.trans (b4.mono (by have:=HS1.out; have:=HS2.out; omega))).setCell (by have:=HS1.out; simp; omega) _).setCell (by have:=HS1.out; simp; omega) _
 have h:=hi4.out
 rw [HV.out] at h
 exact ((qbx (qbx h (by have:=HS2.out; omega) 0 _) (by have:=HS2.out; omega) 1 _).more (by have:=HS1.out; have:=HS2.out; omega) (by simp [World.setCell]))
theorem q1z{w:World}{g:Nat}{x y:Value}{t:TypeId}(h:w.heap[g]? = some (.cells #[x,y] t (0,0))) :
  (∀ o,(w.alloc o).cell? ⟨g,0,none⟩=some x)/\(∀ o,(w.alloc o).cell? ⟨g,1,none⟩=some y)/\(∀ o,(w.alloc o).frozen? ⟨g,0,none⟩=false)/\(∀ o,(w.alloc o).frozen? ⟨g,1,none⟩=false) :=
 ⟨fun o=>(qfq (qce o h)).1.1,fun o=>(qfq (qce o h)).1.2,fun o=>(qfq (qce o h)).2.1,fun o=>(qfq (qce o h)).2.2⟩
theorem qrv(s1 s2:Bool)(x y:Nat)(s:Bool)(v:Nat)(h:qlh s1 x s2 y=(s,v)) :
  (s1=s2/\s=s1/\x+y=v)∨((s1==s2)=false/\ql5 x y=0/\y<=x/\s=s1/\x-y=v)∨((s1==s2)=false/\ql5 x y=1/\y<=x/\s=s1/\x-y=v)∨((s1==s2)=false/\ql5 x y=-1/\x<=y/\s=s2/\y-x=v):=by
 unfold qlh at h
 by_cases h1:s1=s2
 . rw [if_pos h1] at h
   injection h with h2 h3
   exact .inl ⟨h1,h2.symm,h3⟩
 rw [if_neg h1] at h
 have h4:(s1==s2)=false:=by simpa using h1
 right
 by_cases h5:y<=x
 . rw [if_pos h5] at h
   injection h with h2 h3
   by_cases h6:x=y
   . exact .inl ⟨h4,by unfold ql5; rw [if_neg (by omega),if_pos h6],h5,h2.symm,h3⟩
   exact .inr (.inl ⟨h4,by unfold ql5; rw [if_neg (by omega),if_neg h6],h5,h2.symm,h3⟩)
 rw [if_neg h5] at h
 injection h with h2 h3
 exact .inr (.inr ⟨h4,by unfold ql5; rw [if_pos (by omega)],by omega,h2.symm,h3⟩)
theorem qkf{n:Nat}:Dig 2 (qaf 2 n):=(qah 2 n (by decide)).1
theorem qhn{n:Nat}:num 2 (qaf 2 n)=n:=(qah 2 n (by decide)).2.2
theorem qhu{x y:Nat}(h:x<=y):(qaf 2 x).length<=(qaf 2 y).length:=by
 have h1:=qah 2 y (by decide)
 refine qjr (by decide) (Nat.lt_of_le_of_lt h ?_)
 have:=qc0 2 (by decide) _ h1.1
 rwa [h1.2.2] at this
theorem qtx(w:World)(s1 s2:Bool)(x y:Nat)(A1:Option Addr)(n1 c1:Nat)(A2:Option Addr)(n2 c2:Nat)(h1:qae w 0 w.heap.size .u8 A1 n1 (qaf 2 x))(h2:qae w 0 w.heap.size .u8 A2 n2 (qaf 2 y))(hn1:n1<=4000)(hn2:n2<=4000)(s:Bool)(v:Nat)(hp:qlh s1 x s2 y=(s,v)) :
  Calls Tryz.prog 144 #[.agg #[.bool s1,.slice A1 n1 c1],.agg #[.bool s2,.slice A2 n2 c2]] w fun e w'=>∃ A n c,e=.returned (.agg #[.bool s,.slice A n c])/\n<=c/\Below w.heap.size w w'/\qae w' w.heap.size w'.heap.size .u8 A n (qaf 2 v):=by
 have l1:=Lib.hid h1.len
 have l2:=Lib.hid h2.len
 have I1:=(h1.alloc (Nat.le_refl _) (.cells #[.bool s1,.slice A1 n1 c1] 173)).alloc (by simp) (.cells #[.bool s2,.slice A2 n2 c2] 173)
 have I2:=(h2.alloc (Nat.le_refl _) (.cells #[.bool s1,.slice A1 n1 c1] 173)).alloc (by simp) (.cells #[.bool s2,.slice A2 n2 c2] 173)
 clear h1 h2
 generalize hw:(w.alloc (.cells #[.bool s1,.slice A1 n1 c1] 173)).alloc (.cells #[.bool s2,.slice A2 n2 c2] 173)=w1 at *
 have HS1:Hid (w1.heap.size=w.heap.size+2):=by rw [Hid,<-hw]; simp
 have b1:Below w.heap.size w w1:=by rw [<-hw]; exact ((Below.refl _ w).alloc (Nat.le_refl _) _).alloc (by simp) _
 have X1:w1.heap[w.heap.size]? = some (.cells #[.bool s1,.slice A1 n1 c1] 173 (0,0)):=by
  rw [<-hw,Below.heap_alloc _ _ _ (by simp)]
  exact heap_alloc_last _ _
 have X2:w1.heap[w.heap.size+1]? = some (.cells #[.bool s2,.slice A2 n2 c2] 173 (0,0)):=by
  rw [<-hw]
  exact heap_alloc2_new _ _ _
 obtain⟨y0,y1,y2,y3⟩:=q1z X1
 obtain⟨z0,z1,z2,z3⟩:=q1z X2
 have I1a:=I1.alloc (by have:=HS1.out; omega) (.cells #[.bool false,.slice none 0 0] 173)
 have I2a:=I2.alloc (by have:=HS1.out; omega) (.cells #[.bool false,.slice none 0 0] 173)
 clear I1 I2
 replace X1:=qce (.cells #[.bool false,.slice none 0 0] 173) X1
 replace X2:=qce (.cells #[.bool false,.slice none 0 0] 173) X2
 have X3:=heap_alloc_last w1 (.cells #[.bool false,.slice none 0 0] 173)
 have b2:=b1.alloc (by have:=HS1.out; omega) (.cells #[.bool false,.slice none 0 0] 173)
 have HS2:Hid ((w1.alloc (.cells #[.bool false,.slice none 0 0] 173)).heap.size=w1.heap.size+1):=by rw [Hid]; simp
 clear b1
 rcases qrv s1 s2 x y s v hp with ⟨rfl,rfl,hv⟩|⟨he,hr,hle,rfl,hv⟩|⟨he,hr,hle,rfl,hv⟩|⟨he,hr,hle,rfl,hv⟩
 . have HV:=Lib.hid hv
   clear hp hv
   go_enter Tryz.func144,Tryz.ntmps144
   go_wp2_with fail
   generalize hw2:w1.alloc (.cells #[.bool false,.slice none 0 0] 173)=w2 at *
   clear hw2 y0 y1 y2 y3 z0 z1 z2 z3
   try clear hw
   have kD:qan w2 w2.drew:=fun _ _=>rfl
   have d2:Below w2.heap.size w2 w2.drew:=(Below.refl _ _).drew
   refine zB (qan w2) [8] 9 ?_
   refine zM 1 [0] ?_ ?_
   refine zD 1 (.bool s) rfl ?hyA1 ?restA1
   case hyA1 =>
    intro w' h
    obtain⟨⟨k1,k2⟩,_⟩:=qfq ((h _ (by have:=HS1.out; have:=HS2.out; omega)).trans X1)
    go_simp
   try simp only [Act.put,zp]
   refine zM 1 [2] ?_ ?_
   refine zD 3 (.slice A1 n1 c1) rfl ?hyB1 ?restB1
   case hyB1 =>
    intro w' h
    obtain⟨⟨k1,k2⟩,_⟩:=qfq ((h _ (by have:=HS1.out; have:=HS2.out; omega)).trans X1)
    go_simp
   try simp only [Act.put,zp]
   refine zM 1 [4] ?_ ?_
   refine zD 5 (.slice A2 n2 c2) rfl ?hyC1 ?restC1
   case hyC1 =>
    intro w' h
    obtain⟨⟨k1,k2⟩,_⟩:=qfq ((h _ (by have:=HS1.out; have:=HS2.out; omega)).trans X2)
    go_simp
   try simp only [Act.put,zp]
   refine zK 6 rfl fun K hK=>?_
   go_simp
   go_at_call 147
   refine (qmd w2.drew 0 w.heap.size 0 w.heap.size A1 n1 c1 _ (I1a.drewN 1) A2 n2 c2 _ (I2a.drewN 1) qkf qkf (by show w.heap.size<=w2.heap.size; have:=HS1.out; have:=HS2.out; omega) (by show w.heap.size<=w2.heap.size; have:=HS1.out; have:=HS2.out; omega) (by omega) (by omega) v (by rw [qhn,qhn]; exact HV.out)).mono ?_
   rintro e w3 ⟨A3,n3,c3,rfl,hc3,hB,hI⟩
   have d3:=d2.trans hB
   have hI3:=Lib.hid hI
   have hs3:=hB.size
   clear hB hI
   refine hK _ _ ⟨fun _ _ p hp=>d3.block p hp,?_⟩
   clear hK K
   try simp only [Act.put,zp]
   refine zM 1 [7] ?_ ?_
   obtain⟨⟨p1,p2⟩,p3,p4⟩:=qfq ((d3.block w1.heap.size (by have:=HS2.out; omega)).trans X3)
   refine zK 8 rfl fun K hK=>?_
   go_simp
   refine hK _ _ ⟨fun h=>absurd h (by decide),?_⟩
   clear hK K
   try simp only [Act.put,zp]
   refine qa2 (by kernel_rfl) ?_ _
   go_wp2
   refine bodyPost_ret (v:=.agg #[.bool s,.slice A3 n3 c3]) (by simp [results,Tryz.results144,go_sem,p1,p2]) rfl ⟨A3,n3,c3,rfl,hc3,?_,?_⟩
   . exact ((b2.trans (d3.mono (by have:=HS1.out; have:=HS2.out; omega))).setCell (by have:=HS1.out; simp; omega) _).setCell (by have:=HS1.out; simp; omega) _
   exact ((qbx (qbx hI3.out (by show w1.heap.size < w2.heap.size; have:=HS2.out; omega) 0 _) (by show w1.heap.size < w2.heap.size; have:=HS2.out; omega) 1 _).more (by show w.heap.size<=w2.heap.size; have:=HS1.out; have:=HS2.out; omega) (by simp [World.setCell]))
 . have HV:=Lib.hid hv
   have HR:=Lib.hid hr
   clear hp hv hr
   go_enter Tryz.func144,Tryz.ntmps144
   go_wp2_with fail
   refine (qe9 _ 0 w.heap.size 0 w.heap.size A1 n1 c1 _ I1a A2 n2 c2 _ I2a qkf qkf (by omega) (by omega) (0) (by rw [qhn,qhn]; exact HR.out)).mono ?_
   rintro e wq ⟨rfl,rfl⟩
   clear HR
   go_wp2_with fail
   generalize hw2:w1.alloc (.cells #[.bool false,.slice none 0 0] 173)=w2 at *
   clear hw2 y0 y1 y2 y3 z0 z1 z2 z3
   try clear hw
   have kD:qan w2 w2.drew:=fun _ _=>rfl
   have d2:Below w2.heap.size w2 w2.drew:=(Below.refl _ _).drew
   refine zB (qan w2) [8] 9 ?_
   refine zM 1 [0] ?_ ?_
   refine zD 1 (.bool s) rfl ?hyA2 ?restA2
   case hyA2 =>
    intro w' h
    obtain⟨⟨k1,k2⟩,_⟩:=qfq ((h _ (by have:=HS1.out; have:=HS2.out; omega)).trans X1)
    go_simp
   try simp only [Act.put,zp]
   refine zM 1 [2] ?_ ?_
   refine zD 3 (.slice A1 n1 c1) rfl ?hyB2 ?restB2
   case hyB2 =>
    intro w' h
    obtain⟨⟨k1,k2⟩,_⟩:=qfq ((h _ (by have:=HS1.out; have:=HS2.out; omega)).trans X1)
    go_simp
   try simp only [Act.put,zp]
   refine zM 1 [4] ?_ ?_
   refine zD 5 (.slice A2 n2 c2) rfl ?hyC2 ?restC2
   case hyC2 =>
    intro w' h
    obtain⟨⟨k1,k2⟩,_⟩:=qfq ((h _ (by have:=HS1.out; have:=HS2.out; omega)).trans X2)
    go_simp
   try simp only [Act.put,zp]
   refine zK 6 rfl fun K hK=>?_
   go_simp
   go_at_call 186
   refine (qhb w2.drew 0 w.heap.size 0 w.heap.size A1 n1 c1 _ (I1a.drewN 1) A2 n2 c2 _ (I2a.drewN 1) qkf qkf (by show w.heap.size<=w2.heap.size; have:=HS1.out; have:=HS2.out; omega) (by show w.heap.size<=w2.heap.size; have:=HS1.out; have:=HS2.out; omega) (by omega) (by have:=qhu hle; have:=l1.out; have:=l2.out; omega) (by rw [qhn,qhn]; exact hle) v (by rw [qhn,qhn]; exact HV.out)).mono ?_
   rintro e w3 ⟨A3,n3,c3,rfl,hc3,hB,hI⟩
   have d3:=d2.trans hB
   have hI3:=Lib.hid hI
   have hs3:=hB.size
   clear hB hI
   refine hK _ _ ⟨fun _ _ p hp=>d3.block p hp,?_⟩
   clear hK K
   try simp only [Act.put,zp]
   refine zM 1 [7] ?_ ?_
   obtain⟨⟨p1,p2⟩,p3,p4⟩:=qfq ((d3.block w1.heap.size (by have:=HS2.out; omega)).trans X3)
   refine zK 8 rfl fun K hK=>?_
   go_simp
   refine hK _ _ ⟨fun h=>absurd h (by decide),?_⟩
   clear hK K
   try simp only [Act.put,zp]
   refine qa2 (by kernel_rfl) ?_ _
   go_wp2
   refine bodyPost_ret (v:=.agg #[.bool s,.slice A3 n3 c3]) (by simp [results,Tryz.results144,go_sem,p1,p2]) rfl ⟨A3,n3,c3,rfl,hc3,?_,?_⟩
   . exact ((b2.trans (d3.mono (by have:=HS1.out; have:=HS2.out; omega))).setCell (by have:=HS1.out; simp; omega) _).setCell (by have:=HS1.out; simp; omega) _
   exact ((qbx (qbx hI3.out (by show w1.heap.size < w2.heap.size; have:=HS2.out; omega) 0 _) (by show w1.heap.size < w2.heap.size; have:=HS2.out; omega) 1 _).more (by show w.heap.size<=w2.heap.size; have:=HS1.out; have:=HS2.out; omega) (by simp [World.setCell]))
 . have HV:=Lib.hid hv
   have HR:=Lib.hid hr
   clear hp hv hr
   go_enter Tryz.func144,Tryz.ntmps144
   go_wp2_with fail
   refine (qe9 _ 0 w.heap.size 0 w.heap.size A1 n1 c1 _ I1a A2 n2 c2 _ I2a qkf qkf (by omega) (by omega) (1) (by rw [qhn,qhn]; exact HR.out)).mono ?_
   rintro e wq ⟨rfl,rfl⟩
   clear HR
   go_wp2_with fail
   generalize hw2:w1.alloc (.cells #[.bool false,.slice none 0 0] 173)=w2 at *
   clear hw2 y0 y1 y2 y3 z0 z1 z2 z3
   try clear hw
   have kD:qan w2 w2.drew:=fun _ _=>rfl
   have d2:Below w2.heap.size w2 w2.drew:=(Below.refl _ _).drew
   refine zB (qan w2) [8] 9 ?_
   refine zM 1 [0] ?_ ?_
   refine zD 1 (.bool s) rfl ?hyA3 ?restA3
   case hyA3 =>
    intro w' h
    obtain⟨⟨k1,k2⟩,_⟩:=qfq ((h _ (by have:=HS1.out; have:=HS2.out; omega)).trans X1)
    go_simp
   try simp only [Act.put,zp]
   refine zM 1 [2] ?_ ?_
   refine zD 3 (.slice A1 n1 c1) rfl ?hyB3 ?restB3
   case hyB3 =>
    intro w' h
    obtain⟨⟨k1,k2⟩,_⟩:=qfq ((h _ (by have:=HS1.out; have:=HS2.out; omega)).trans X1)
    go_simp
   try simp only [Act.put,zp]
   refine zM 1 [4] ?_ ?_
   refine zD 5 (.slice A2 n2 c2) rfl ?hyC3 ?restC3
   case hyC3 =>
    intro w' h
    obtain⟨⟨k1,k2⟩,_⟩:=qfq ((h _ (by have:=HS1.out; have:=HS2.out; omega)).trans X2)
    go_simp
   try simp only [Act.put,zp]
   refine zK 6 rfl fun K hK=>?_
   go_simp
   go_at_call 186
   refine (qhb w2.drew 0 w.heap.size 0 w.heap.size A1 n1 c1 _ (I1a.drewN 1) A2 n2 c2 _ (I2a.drewN 1) qkf qkf (by show w.heap.size<=w2.heap.size; have:=HS1.out; have:=HS2.out; omega) (by show w.heap.size<=w2.heap.size; have:=HS1.out; have:=HS2.out; omega) (by omega) (by have:=qhu hle; have:=l1.out; have:=l2.out; omega) (by rw [qhn,qhn]; exact hle) v (by rw [qhn,qhn]; exact HV.out)).mono ?_
   rintro e w3 ⟨A3,n3,c3,rfl,hc3,hB,hI⟩
   have d3:=d2.trans hB
   have hI3:=Lib.hid hI
   have hs3:=hB.size
   clear hB hI
   refine hK _ _ ⟨fun _ _ p hp=>d3.block p hp,?_⟩
   clear hK K
   try simp only [Act.put,zp]
   refine zM 1 [7] ?_ ?_
   obtain⟨⟨p1,p2⟩,p3,p4⟩:=qfq ((d3.block w1.heap.size (by have:=HS2.out; omega)).trans X3)
   refine zK 8 rfl fun K hK=>?_
   go_simp
   refine hK _ _ ⟨fun h=>absurd h (by decide),?_⟩
   clear hK K
   try simp only [Act.put,zp]
   refine qa2 (by kernel_rfl) ?_ _
   go_wp2
   refine bodyPost_ret (v:=.agg #[.bool s,.slice A3 n3 c3]) (by simp [results,Tryz.results144,go_sem,p1,p2]) rfl ⟨A3,n3,c3,rfl,hc3,?_,?_⟩
   . exact ((b2.trans (d3.mono (by have:=HS1.out; have:=HS2.out; omega))).setCell (by have:=HS1.out; simp; omega) _).setCell (by have:=HS1.out; simp; omega) _
   exact ((qbx (qbx hI3.out (by show w1.heap.size < w2.heap.size; have:=HS2.out; omega) 0 _) (by show w1.heap.size < w2.heap.size; have:=HS2.out; omega) 1 _).more (by show w.heap.size<=w2.heap.size; have:=HS1.out; have:=HS2.out; omega) (by simp [World.setCell]))
 have HV:=Lib.hid hv
 have HR:=Lib.hid hr
 clear hp hv hr
 go_enter Tryz.func144,Tryz.ntmps144
 go_wp2_with fail
 refine (qe9 _ 0 w.heap.size 0 w.heap.size A1 n1 c1 _ I1a A2 n2 c2 _ I2a qkf qkf (by omega) (by omega) (-1) (by rw [qhn,qhn]; exact HR.out)).mono ?_
 rintro e wq ⟨rfl,rfl⟩
 clear HR
 go_wp2_with fail
 generalize hw2:w1.alloc (.cells #[.bool false,.slice none 0 0] 173)=w2 at *
 clear hw2 y0 y1 y2 y3 z0 z1 z2 z3
 try clear hw
 have kD:qan w2 w2.drew:=fun _ _=>rfl
 have d2:Below w2.heap.size w2 w2.drew:=(Below.refl _ _).drew
 refine zB (qan w2) [8] 9 ?_
 refine zM 1 [0] ?_ ?_
 refine zD 1 (.bool s) rfl ?hyA4 ?restA4
 case hyA4 =>
  intro w' h
  obtain⟨⟨k1,k2⟩,_⟩:=qfq ((h _ (by have:=HS1.out; have:=HS2.out; omega)).trans X2)
  go_simp
 try simp only [Act.put,zp]
 refine zM 1 [2] ?_ ?_
 refine zD 3 (.slice A2 n2 c2) rfl ?hyB4 ?restB4
 case hyB4 =>
  intro w' h
  obtain⟨⟨k1,k2⟩,_⟩:=qfq ((h _ (by have:=HS1.out; have:=HS2.out; omega)).trans X2)
  go_simp
 try simp only [Act.put,zp]
 refine zM 1 [4] ?_ ?_
 refine zD 5 (.slice A1 n1 c1) rfl ?hyC4 ?restC4
 case hyC4 =>
  intro w' h
  obtain⟨⟨k1,k2⟩,_⟩:=qfq ((h _ (by have:=HS1.out; have:=HS2.out; omega)).trans X1)
  go_simp
 try simp only [Act.put,zp]
 refine zK 6 rfl fun K hK=>?_
 go_simp
 go_at_call 186
 refine (qhb w2.drew 0 w.heap.size 0 w.heap.size A2 n2 c2 _ (I2a.drewN 1) A1 n1 c1 _ (I1a.drewN 1) qkf qkf (by show w.heap.size<=w2.heap.size; have:=HS1.out; have:=HS2.out; omega) (by show w.heap.size<=w2.heap.size; have:=HS1.out; have:=HS2.out; omega) (by omega) (by have:=qhu hle; have:=l1.out; have:=l2.out; omega) (by rw [qhn,qhn]; exact hle) v (by rw [qhn,qhn]; exact HV.out)).mono ?_
 rintro e w3 ⟨A3,n3,c3,rfl,hc3,hB,hI⟩
 have d3:=d2.trans hB
 have hI3:=Lib.hid hI
 have hs3:=hB.size
 clear hB hI
 refine hK _ _ ⟨fun _ _ p hp=>d3.block p hp,?_⟩
 clear hK K
 try simp only [Act.put,zp]
 refine zM 1 [7] ?_ ?_
 obtain⟨⟨p1,p2⟩,p3,p4⟩:=qfq ((d3.block w1.heap.size (by have:=HS2.out; omega)).trans X3)
 refine zK 8 rfl fun K hK=>?_
 go_simp
 refine hK _ _ ⟨fun h=>absurd h (by decide),?_⟩
 clear hK K
 try simp only [Act.put,zp]
 refine qa2 (by kernel_rfl) ?_ _
 go_wp2
 refine bodyPost_ret (v:=.agg #[.bool s,.slice A3 n3 c3]) (by simp [results,Tryz.results144,go_sem,p1,p2]) rfl ⟨A3,n3,c3,rfl,hc3,?_,?_⟩
 . exact ((b2.trans (d3.mono (by have:=HS1.out; have:=HS2.out; omega))).setCell (by have:=HS1.out; simp; omega) _).setCell (by have:=HS1.out; simp; omega) _
 exact ((qbx (qbx hI3.out (by show w1.heap.size < w2.heap.size; have:=HS2.out; omega) 0 _) (by show w1.heap.size < w2.heap.size; have:=HS2.out; omega) 1 _).more (by show w.heap.size<=w2.heap.size; have:=HS1.out; have:=HS2.out; omega) (by simp [World.setCell]))
end Dy
end Go.Proofs.YtmbppgjhdcmckaaGreatDoor