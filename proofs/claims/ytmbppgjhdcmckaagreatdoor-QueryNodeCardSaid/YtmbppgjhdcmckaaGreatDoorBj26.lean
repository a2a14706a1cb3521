/- What is guessed: least.Guess and headcountref18.Guessed, each by a walk. -/
import Derived.Test.YtmbppgjhdcmckaaGreatDoorBj21
set_option maxHeartbeats 102400000
set_option maxRecDepth 100000
namespace Go.Proofs.YtmbppgjhdcmckaaGreatDoor
open Go.RowKit
namespace Least
theorem qld{a b:Int}{c:Value}(h:a=b):Ending.returned (.tuple #[.int .i64 a,c])=.returned (.tuple #[.int .i64 b,c]):=by rw [h]
def guessR(xs:List Int):Int:=if checkCode xs=0 then guessS xs else 0
theorem Guess_any(w:World)(lo hi:Nat)(A:Option Addr)(n c:Nat)(xs:List Int)(h:qae w lo hi .u32 A n xs)(code g:Int)(hcode:checkCode xs=code)(hg:guessR xs=g) :
  Calls Tryz.prog 80 #[.slice A n c] w fun e w'=>e=.returned (.tuple #[.int .i64 g,.int .i64 code])/\∃ m,w'=w.drewN m:=by
 have hlen:=h.len
 have hbig:=h.big
 by_cases h0:checkCode xs=0
 . obtain rfl:code=0:=by omega
   have HC:=Lib.hid hcode
   by_cases h8:n < 8
   . have Hf:Hid (g=n):=by rw [Hid,<-hg]; unfold guessR guessS; rw [if_pos h0,if_pos (by omega),hlen]
     clear hlen hcode hg h0
     go_enter Tryz.func80,Tryz.ntmps80
     go_wp2_with fail
     refine (Check_any _ lo hi _ _ _ xs h 0 HC.out).mono ?_; rintro e w' ⟨rfl,m1,rfl⟩
     go_wp2_with fail
     go_ret2
     exact⟨qld (by rw [Hf.out]),_,rfl⟩
   have h7:=seventh h0 (by omega) (fun x hx=>by have:=(h.wf x hx).1; simpa [IntKind.min,IntKind.signed] using this)
   have hu:=h.u32 7
   have Hf:Hid (g=30064771072/(xs[(7:Nat)]?.getD 0)):=by rw [Hid,<-hg]; unfold guessR guessS; rw [if_pos h0,if_neg (by omega)]
   have h9:n=8:=by have:=(qe5 h0).1; omega
   obtain⟨b,off,rfl,hcell⟩:=qg2 h (by omega)
   have g1:w.cell? ⟨b,off+7,none⟩=some (.int .u32 (xs[(7:Nat)]?.getD 0)):=hcell 7 (by omega)
   clear hlen hcode hg h0 hcell h8
   subst h9
   obtain⟨y,hy⟩:∃ y,xs[(7:Nat)]?.getD 0=y:=⟨_,rfl⟩
   rw [hy] at g1 h7 hu
   have HY:=Lib.hid hy
   clear hy
   go_enter Tryz.func80,Tryz.ntmps80
   go_wp2_with fail
   refine (Check_any _ lo hi _ _ _ xs h 0 HC.out).mono ?_; rintro e w' ⟨rfl,m1,rfl⟩
   go_wp2_with fail
   go_ret2
   exact⟨qld (by rw [Hf.out,HY.out]),_,rfl⟩
 have Hf:Hid (g=0):=by rw [Hid,<-hg]; unfold guessR; rw [if_neg h0]
 have HC:=Lib.hid hcode
 have h1:(code != 0)=true:=by simp; omega
 clear hlen hcode hg h0
 go_enter Tryz.func80,Tryz.ntmps80
 go_wp2_with fail
 refine (Check_any _ lo hi _ _ _ xs h code HC.out).mono ?_; rintro e w' ⟨rfl,m1,rfl⟩
 go_wp2_with fail
 go_ret2
 exact⟨qld (by rw [Hf.out]),_,rfl⟩
theorem Guessed_any(w:World)(lo hi:Nat)(A:Option Addr)(n c:Nat)(xs:List Int)(h:qae w lo hi .u32 A n xs)(h0:checkCode xs=0) :
  Calls Tryz.prog 92 #[.slice A n c] w fun e w'=>e=.returned (.int .i64 (guessS xs))/\w=w':=by
 have hlen:=h.len
 have hbig:=h.big
 by_cases h8:n < 8
 . have Hf:Hid (guessS xs=n):=by rw [Hid]; unfold guessS; rw [if_pos (by omega),hlen]
   clear hlen h0
   go_enter Tryz.func92,Tryz.ntmps92
   go_wp2_with fail
   go_ret
   exact⟨qcb (by rw [Hf.out]),rfl⟩
 have h7:=seventh h0 (by omega) (fun x hx=>by have:=(h.wf x hx).1; simpa [IntKind.min,IntKind.signed] using this)
 have hu:=h.u32 7
 have Hf:Hid (guessS xs=30064771072/(xs[(7:Nat)]?.getD 0)):=by rw [Hid]; unfold guessS; rw [if_neg (by omega)]
 have h9:n=8:=by have:=(qe5 h0).1; omega
 obtain⟨b,off,rfl,hcell⟩:=qg2 h (by omega)
 have g1:w.cell? ⟨b,off+7,none⟩=some (.int .u32 (xs[(7:Nat)]?.getD 0)):=hcell 7 (by omega)
 clear hlen h0 hcell h8
 subst h9
 obtain⟨y,hy⟩:∃ y,xs[(7:Nat)]?.getD 0=y:=⟨_,rfl⟩
 rw [hy] at g1 h7 hu
 have HY:=Lib.hid hy
 clear hy
 go_enter Tryz.func92,Tryz.ntmps92
 go_wp2_with fail
 go_ret
 exact⟨qcb (by rw [Hf.out,HY.out]),rfl⟩
end Least
end Go.Proofs.YtmbppgjhdcmckaaGreatDoor
namespace Go.Proofs.YtmbppgjhdcmckaaGreatDoor
open Go.RowKit
namespace Ma
open Dp Dy
theorem qj1(w:World)(d:Dv)(b:Bool)(hb:qcg d=b) :
  Calls Tryz.prog 71 #[.agg #[.bool d.s,.slice d.A d.n d.c,.int .i64 d.e]] w fun e w'=>e=.returned (.bool b)/\Below w.heap.size w w':=by
 obtain⟨w1,hw,bQ,j1,S1⟩:=qdc w d
 obtain⟨k0,k1,k2⟩:=(qam bQ).1
 obtain⟨f0,f1,f2⟩:=(qam bQ).2
 obtain⟨s,hs⟩:∃ s,d.s=s:=⟨_,rfl⟩
 rw [hs] at k0
 have HB:=Lib.hid hb
 have HS:=Lib.hid hs
 rw [hs] at hw
 clear hb
 rw [hs]
 clear hs
 cases s
 . by_cases h0:0 < d.n
   . have hb':b=true:=by rw [<-HB.out,qcg,HS.out,decide_eq_true h0]; rfl
     subst hb'
     clear HB HS
     go_enter Tryz.func71,Tryz.ntmps71
     go_wp2
     go_ret
     exact⟨by simp [h0],j1⟩
   have hb':b=false:=by rw [<-HB.out,qcg,HS.out,decide_eq_false h0]; rfl
   subst hb'
   clear HB HS
   go_enter Tryz.func71,Tryz.ntmps71
   go_wp2
   go_ret
   exact⟨by simp [h0],j1⟩
 have hb':b=false:=by rw [<-HB.out,qcg,HS.out]; rfl
 subst hb'
 clear HB HS
 go_enter Tryz.func71,Tryz.ntmps71
 go_wp2
 go_ret
 exact⟨rfl,j1⟩
theorem qzn(w:World)(a b:Int)(ha:-9223372036854775808<=a/\a<=9223372036854775807)(hb:-9223372036854775808<=b/\b<=9223372036854775807) :
  Calls Tryz.prog 78 #[.int .i64 a,.int .i64 b] w fun e w'=>∃ (x y:Dv) (B:Nat),e=.returned (.agg #[.bool x.s,.slice x.A x.n x.c,.int .i64 x.e,.bool y.s,.slice y.A y.n y.c,.int .i64 y.e])/\Is (qd3 a) x/\Is (qd3 b) y/\Below w.heap.size w w'/\w.heap.size<=B/\B<=w'.heap.size/\qbr w' w.heap.size B x/\qbr w' B w'.heap.size y:=by
 obtain⟨w1,hw,bT,j1,S1⟩:=qba w
 obtain⟨sa,hsa⟩:∃ s,decide (a < 0)=s:=⟨_,rfl⟩
 obtain⟨sb,hsb⟩:∃ s,decide (b < 0)=s:=⟨_,rfl⟩
 have HA:=Lib.hid hsa
 have HB:=Lib.hid hsb
 clear hsa hsb
 go_enter Tryz.func78,Tryz.ntmps78
 go_wp2_with fail
 refine (qk6 w1 a ha.1 ha.2 sa a.natAbs HA.out rfl).mono ?_
 rintro e' w2 ⟨A1,n1,rfl,j2,I1⟩
 go_wp2_with fail
 refine (qk6 w2 b hb.1 hb.2 sb b.natAbs HB.out rfl).mono ?_
 rintro e' w3 ⟨A2,n2,rfl,j3,I2⟩
 obtain⟨x,hx⟩:∃ x:Dv,x=⟨sa,A1,n1,n1,0,qaf 4294967296 a.natAbs⟩:=⟨_,rfl⟩
 obtain⟨y,hy⟩:∃ y:Dv,y=⟨sb,A2,n2,n2,0,qaf 4294967296 b.natAbs⟩:=⟨_,rfl⟩
 have s1:=j1.size
 have s2:=j2.size
 have s3:=j3.size
 have ia:Is (qd3 a) x:=by rw [hx,qd3,HA.out]; exact⟨rfl,rfl,rfl⟩
 have ib:Is (qd3 b) y:=by rw [hy,qd3,HB.out]; exact⟨rfl,rfl,rfl⟩
 have rx:qbr w3 (w.heap.size+1) w2.heap.size x:=by rw [hx]; exact (I1.below j3 (Nat.le_refl _)).more (by omega) (Nat.le_refl _)
 have ry:qbr w3 w2.heap.size w3.heap.size y:=by rw [hy]; exact I2
 have bT3:qar w3 w.heap.size ZDv ZDv:=(j3.block _ (by omega)).trans ((j2.block _ S1).trans bT)
 have b3:=(j1.trans (j2.mono (by omega))).trans (j3.mono (by omega))
 clear I1 I2 HA HB
 obtain⟨U,hU,bU,hb_,hf_,l1,l2⟩:=qaj bT3 x y
 have th:=qar.there bT3
 rw [hx,hy] at hU
 replace hU:w3.setCells w.heap.size 0 (#[.bool sa,.slice A1 n1 n1,.int .i64 0,.bool sb,.slice A2 n2 n2,.int .i64 0]:Array Value).toList=U:=hU
 have HU:=Lib.hid hU
 clear hU
 go_wp2_with (first
  | (refine wpList_store_mid rfl 32 (.tmp 4) (.tmp 9) rfl w.heap.size 0 #[.bool sa,.slice A1 n1 n1,.int .i64 0,.bool sb,.slice A2 n2 n2,.int .i64 0] rfl rfl th (by kernel_rfl) (all_oneCell_toArray (qac ⟨sa,A1,n1,n1,0,[]⟩ ⟨sb,A2,n2,n2,0,[]⟩)) ?_; rw [HU.out]))
 have fin:=hb_ _ _ b3 (Nat.le_refl _)
 have rx':=(qaq rx (w':=U) fun b h1 h2=>hf_ b (by omega)).more (lo':=w.heap.size) (hi':=w2.heap.size) (by omega) (Nat.le_refl _)
 have ry':=(qaq ry (w':=U) fun b h1 h2=>hf_ b (by omega)).more (lo':=w2.heap.size) (hi':=U.heap.size) (Nat.le_refl _) (by omega)
 exact bodyPost_ret (results_cell_row Tryz.results78 _ _ w.heap.size 32 #[.bool x.s,.slice x.A x.n x.c,.int .i64 x.e,.bool y.s,.slice y.A y.n y.c,.int .i64 y.e] (0,0) _ rfl bU Tryz.underlying32 rfl (by kernel_rfl)) rfl ⟨x,y,w2.heap.size,rfl,ia,ib,fin,by omega,by omega,rx',ry'⟩
theorem qzo(w:World)(a b:Int)(ha:-9223372036854775808<=a/\a<=9223372036854775807)(hb:-9223372036854775808<=b/\b<=9223372036854775807) :
  Calls Tryz.prog 81 #[.int .i64 a,.int .i64 b] w fun e w'=>∃ (x y:Dv) (B:Nat),e=.returned (.agg #[.bool x.s,.slice x.A x.n x.c,.int .i64 x.e,.bool y.s,.slice y.A y.n y.c,.int .i64 y.e])/\Is (qd3 a) x/\Is (qd3 b) y/\Below w.heap.size w w'/\w.heap.size<=B/\B<=w'.heap.size/\qbr w' w.heap.size B x/\qbr w' B w'.heap.size y:=by
 obtain⟨w1,hw,bT,j1,S1⟩:=qba w
 obtain⟨sa,hsa⟩:∃ s,decide (a < 0)=s:=⟨_,rfl⟩
 obtain⟨sb,hsb⟩:∃ s,decide (b < 0)=s:=⟨_,rfl⟩
 have HA:=Lib.hid hsa
 have HB:=Lib.hid hsb
 clear hsa hsb
 go_enter Tryz.func81,Tryz.ntmps81
 go_wp2_with fail
 refine (qk6 w1 a ha.1 ha.2 sa a.natAbs HA.out rfl).mono ?_
 rintro e' w2 ⟨A1,n1,rfl,j2,I1⟩
 go_wp2_with fail
 refine (qk6 w2 b hb.1 hb.2 sb b.natAbs HB.out rfl).mono ?_
 rintro e' w3 ⟨A2,n2,rfl,j3,I2⟩
 obtain⟨x,hx⟩:∃ x:Dv,x=⟨sa,A1,n1,n1,0,qaf 4294967296 a.natAbs⟩:=⟨_,rfl⟩
 obtain⟨y,hy⟩:∃ y:Dv,y=⟨sb,A2,n2,n2,0,qaf 4294967296 b.natAbs⟩:=⟨_,rfl⟩
 have s1:=j1.size
 have s2:=j2.size
 have s3:=j3.size
 have ia:Is (qd3 a) x:=by rw [hx,qd3,HA.out]; exact⟨rfl,rfl,rfl⟩
 have ib:Is (qd3 b) y:=by rw [hy,qd3,HB.out]; exact⟨rfl,rfl,rfl⟩
 have rx:qbr w3 (w.heap.size+1) w2.heap.size x:=by rw [hx]; exact (I1.below j3 (Nat.le_refl _)).more (by omega) (Nat.le_refl _)
 have ry:qbr w3 w2.heap.size w3.heap.size y:=by rw [hy]; exact I2
 have bT3:qar w3 w.heap.size ZDv ZDv:=(j3.block _ (by omega)).trans ((j2.block _ S1).trans bT)
 have b3:=(j1.trans (j2.mono (by omega))).trans (j3.mono (by omega))
 clear I1 I2 HA HB
 obtain⟨U,hU,bU,hb_,hf_,l1,l2⟩:=qaj bT3 x y
 have th:=qar.there bT3
 rw [hx,hy] at hU
 replace hU:w3.setCells w.heap.size 0 (#[.bool sa,.slice A1 n1 n1,.int .i64 0,.bool sb,.slice A2 n2 n2,.int .i64 0]:Array Value).toList=U:=hU
 have HU:=Lib.hid hU
 clear hU
 go_wp2_with (first
  | (refine wpList_store_mid rfl 32 (.tmp 4) (.tmp 9) rfl w.heap.size 0 #[.bool sa,.slice A1 n1 n1,.int .i64 0,.bool sb,.slice A2 n2 n2,.int .i64 0] rfl rfl th (by kernel_rfl) (all_oneCell_toArray (qac ⟨sa,A1,n1,n1,0,[]⟩ ⟨sb,A2,n2,n2,0,[]⟩)) ?_; rw [HU.out]))
 have fin:=hb_ _ _ b3 (Nat.le_refl _)
 have rx':=(qaq rx (w':=U) fun b h1 h2=>hf_ b (by omega)).more (lo':=w.heap.size) (hi':=w2.heap.size) (by omega) (Nat.le_refl _)
 have ry':=(qaq ry (w':=U) fun b h1 h2=>hf_ b (by omega)).more (lo':=w2.heap.size) (hi':=U.heap.size) (Nat.le_refl _) (by omega)
 exact bodyPost_ret (results_cell_row Tryz.results81 _ _ w.heap.size 32 #[.bool x.s,.slice x.A x.n x.c,.int .i64 x.e,.bool y.s,.slice y.A y.n y.c,.int .i64 y.e] (0,0) _ rfl bU Tryz.underlying32 rfl (by kernel_rfl)) rfl ⟨x,y,w2.heap.size,rfl,ia,ib,fin,by omega,by omega,rx',ry'⟩
noncomputable def qeb(c:Dv):Dn×Dn×Int :=
 if qcg c=false then (Dn.zero,Dn.zero,6) else
 if (qf2 false (qaf 4294967296 1) 0 c.s c.xs c.e).2=0 then ((qf2 false (qaf 4294967296 1) 0 c.s c.xs c.e).1,(qf2 false (qaf 4294967296 1) 0 c.s c.xs c.e).1,0)
 else (Dn.zero,Dn.zero,(qf2 false (qaf 4294967296 1) 0 c.s c.xs c.e).2)
def qjj(h:Bool)(mn mx:Int):Dn×Dn×Int:=if h=false then (Dn.zero,Dn.zero,6) else (qd3 mn,qd3 mx,0)
def Tells(F:FuncId)(w:World)(T:Dn×Dn×Int)(v:Value):Prop :=
 ∃ (cs:Array Value),v=.func (.func F) #[] cs/\∀ w',Below w.heap.size w w'->Calls Tryz.prog F cs w' (qnz w' T.1 T.2.1 T.2.2)
theorem qi8{s1:Bool}{xs1:List Int}{e1:Int}{s2:Bool}{xs2:List Int}{e2:Int}{x:Dn}{c:Int}(h:qf2 s1 xs1 e1 s2 xs2 e2=(x,c)):x.May:=by
 unfold qf2 at h
 split at h
 . have:=qfn (dn s1 xs1 e1).neg ((qew (dn s1 xs1 e1) (dn s2 xs2 e2) 1).1/2+if (qew (dn s1 xs1 e1) (dn s2 xs2 e2) 1).1%2=1/\((dn s1 xs1 e1).neg=false∨(qew (dn s1 xs1 e1) (dn s2 xs2 e2) 1).2≠0) then 1 else 0) 0
   unfold qlp at h
   rw [h] at this
   exact this
 injection h with h _
 subst h
 exact qb8
theorem ql1{w w':World}{x:Dv}(h:qbr w 0 w.heap.size x)(hb:Below w.heap.size w w'):qbr w' 0 w'.heap.size x:=qao h hb
theorem qbz(w:World)(code:Int)(w':World)(b:Below w.heap.size w w'):qnz w Dn.zero Dn.zero code (.returned (.tuple #[.agg #[.bool false,.slice none 0 0,.int .i64 0,.bool false,.slice none 0 0,.int .i64 0],.int .i64 code])) w' :=
 ⟨ZDv,ZDv,w.heap.size,rfl,isZ,isZ,b,Nat.le_refl _,b.size,qf8 _ _ _,qf8 _ _ _⟩
theorem qsz(w:World)(g:Nat)(hg:g < w.heap.size)(c:Dv)(hQ:qex w g c)(hR:qbr w 0 w.heap.size c)(lo hi:Dn)(code:Int)(h:qeb c=(lo,hi,code)) :
  Calls Tryz.prog 70 #[.pointer (some ⟨g,0,none⟩)] w (qnz w lo hi code):=by
 obtain⟨w1,hw,bT,j1,S1⟩:=qba w
 obtain⟨a,ha⟩:∃ a,qcg c=a:=⟨_,rfl⟩
 have HA:=Lib.hid ha
 obtain⟨r,k,hr⟩:∃ r k,qf2 false (qaf 4294967296 1) 0 c.s c.xs c.e=(r,k):=⟨_,_,rfl⟩
 unfold qeb at h
 rw [ha,hr] at h
 have HR:=Lib.hid hr
 have HH:=Lib.hid h
 clear ha hr h
 go_enter Tryz.func70,Tryz.ntmps70
 have rQ:w1.rangeAt (g) 0 [.bool c.s,.slice c.A c.n c.c,.int .i64 c.e]:=qex.range (x:=c) (qaa hQ j1 hg)
 go_wp2_with (first | (refine wpList_load_mid rfl 24 (.tmp 0) rfl (g) 0 rfl [.bool c.s,.slice c.A c.n c.c,.int .i64 c.e] _ rQ Tryz.underlying24 rfl (by kernel_rfl) ?_))
 clear rQ
 refine (qj1 w1 c a HA.out).mono ?_
 rintro e' v1 ⟨rfl,j2⟩
 try clear hw
 cases a
 . have HH:=HH.out
   rw [if_pos rfl] at HH
   injection HH with h1 h2
   injection h2 with h2 h3
   subst h1 h2 h3
   clear HA HR
   have bz_:qar v1 w.heap.size ZDv ZDv:=(qaa bT j2 S1)
   obtain⟨U_,hU_,bU_,hb_,hf_,l5_,l5'_⟩:=qaj bz_ ZDv ZDv
   have th_:=qar.there bz_
   replace hU_:v1.setCells (w.heap.size) 0 (#[.bool false,.slice none 0 0,.int .i64 0,.bool false,.slice none 0 0,.int .i64 0]:Array Value).toList=U_:=hU_
   have HU_:=Lib.hid hU_
   clear hU_
   have fin_:=hb_ _ _ (lz j1 j2) (by omega)
   go_wp2_with (first | (refine wpList_store_mid rfl 32 (.tmp 1) (.tmp 6) rfl w.heap.size 0 #[.bool false,.slice none 0 0,.int .i64 0,.bool false,.slice none 0 0,.int .i64 0] rfl rfl th_ (by kernel_rfl) (all_oneCell_toArray (qac ZDv ZDv)) ?_; rw [HU_.out]))
   exact bodyPost_ret (qab Tryz.results70 _ _ w.heap.size 32 #[.bool false,.slice none 0 0,.int .i64 0,.bool false,.slice none 0 0,.int .i64 0] (0,0) _ (.int .i64 6) rfl rfl bU_ Tryz.underlying32 rfl (by kernel_rfl)) rfl (qbz _ _ _ fin_)
 skip
 have HH2:=Lib.hid (show (if k=0 then (r,r,(0:Int)) else (Dn.zero,Dn.zero,k))=(lo,hi,code) by have:=HH.out; rw [if_neg (by decide)] at this; exact this)
 clear HH HA
 go_wp2_with fail
 try clear hw
 refine zB (qan v1) [7] 9 ?_
 have j4:Below v1.heap.size v1 v1.drew:=(Below.refl _ _).drew
 generalize v1.drew=v3 at *
 have kpy5:qan v1 v3:=fun p hp=>Below.block j4 p hp
 refine zD 1 (.agg #[.bool c.s,.slice c.A c.n c.c,.int .i64 c.e]) rfl ?y5 ?z6
 case y5 =>
  intro w' h1
  exact run_load_op 24 (.tmp 0) rfl g 0 rfl [.bool c.s,.slice c.A c.n c.c,.int .i64 c.e] _ (qex.range (x:=c) ((h1 _ (Nat.lt_of_lt_of_le hg (Below.size (lz j1 j2)))).trans (qaa hQ (lz j1 j2) hg))) Tryz.underlying24 rfl (by kernel_rfl)
 try simp only [Act.put,zp]
 refine zK 0 rfl fun K hK=>?_
 go_simp
 go_at_call 19
 refine (qk6 v3 1 (by decide) (by decide) false 1 rfl rfl).mono ?_
 rintro e' v7 ⟨A1,n1,rfl,j8,I1⟩
 refine hK _ _ ⟨fun _ _=>fun p hp=>Below.block (lz j4 j8) p hp,?_⟩
 clear hK K
 try simp only [Act.put,zp]
 have I1':=I1.more (Nat.zero_le _) (Nat.le_refl _)
 refine zK 2 rfl fun K hK=>?_
 go_simp
 go_at_call 72
 refine (qxt v7 false c.s A1 c.A n1 n1 c.n c.c _ c.xs 0 c.e I1' (qao hR (lz j1 (lz j2 (lz j4 j8)))) r k HR.out).mono ?_
 rintro e' v9 ⟨A2,n2,c2,rfl,hnc,j10,I2⟩
 refine hK _ _ ⟨fun _ _=>fun p hp=>Below.block (lz j4 (lz j8 j10)) p hp,?_⟩
 clear hK K
 try simp only [Act.put,zp]
 refine zM 4 [3,4,5,6] ?_ ?_
 have sz1_:=Below.size (lz j2 (lz j4 (lz j8 j10)))
 have hT_:qar v9 w.heap.size ZDv ZDv:=(qaa bT (lz j2 (lz j4 (lz j8 j10))) S1)
 have b0_:=(lz j1 (lz j2 (lz j4 (lz j8 j10))))
 obtain⟨U11,hU_,bTU11,hb_,hf_,l5_,l5'_⟩:=qls hT_ ⟨r.neg,A2,n2,c2,r.e,qaf 4294967296 r.m⟩
 have th_:=qar.thereL hT_
 refine zK 7 rfl fun K hK=>?_
 refine wp_store_mid 24 (.tmp 13) (.tmp 11) rfl w.heap.size 0 #[.bool r.neg,.slice A2 n2 c2,.int .i64 r.e] rfl rfl th_ (by kernel_rfl) (all_oneCell_toArray (qa1 ⟨r.neg,A2,n2,c2,r.e,qaf 4294967296 r.m⟩)) ?_
 rw [show v9.setCells w.heap.size 0 (#[.bool r.neg,.slice A2 n2 c2,.int .i64 r.e]:Array Value).toList=U11 from hU_]
 clear hU_ th_
 refine hK _ _ ⟨fun h=>absurd h (by decide),?_⟩
 clear hK K
 try simp only [Act.put,zp]
 have bU11:=hb_ _ _ b0_ (by omega)
 clear hT_ hb_ b0_
 refine zM 1 [8] ?_ ?_
 refine qa2 (by kernel_rfl) ?_ _
 have sz0_:=Below.size (lz j2 (lz j4 j8))
 have sz2_:=Below.size j10
 obtain⟨lo1,hlo1⟩:∃ n,v7.heap.size=n:=⟨_,rfl⟩
 have l1:w.heap.size < lo1:=by omega
 obtain⟨x,hx⟩:∃ x:Dv,x=⟨r.neg,A2,n2,c2,r.e,qaf 4294967296 r.m⟩:=⟨_,rfl⟩
 have bX:qar U11 w.heap.size x ZDv:=by rw [hx]; exact bTU11
 have ix:Is r x:=by rw [hx]; exact⟨rfl,rfl,rfl⟩
 have rx:qbr U11 lo1 U11.heap.size x:=by rw [hx,<-hlo1]; exact (qaq I2 (fun b h1 h2=>hf_ b (by omega))).more (Nat.le_refl _) l5'_
 have l2:lo1<=U11.heap.size:=by omega
 clear hx bTU11 hf_ hlo1
 by_cases hk:k=0
 rotate_left
 . have HH:=HH2.out
   rw [if_neg hk] at HH
   injection HH with h1 h2
   injection h2 with h2 h3
   subst h1 h2 h3
   have n0:(k != 0)=true:=by simpa using hk
   clear HH2 HR
   obtain⟨U_,hU_,bU_,hb_,hf_,l7_,l7'_⟩:=qaj bX ZDv ZDv
   have th_:=qar.there bX
   replace hU_:U11.setCells w.heap.size 0 (#[.bool false,.slice none 0 0,.int .i64 0,.bool false,.slice none 0 0,.int .i64 0]:Array Value).toList=U_:=hU_
   have HU_:=Lib.hid hU_
   clear hU_
   have fin_:=hb_ _ _ bU11 (by omega)
   go_wp2_with (first | (refine wpList_store_mid rfl 32 (.tmp 1) (.tmp 16) rfl w.heap.size 0 #[.bool false,.slice none 0 0,.int .i64 0,.bool false,.slice none 0 0,.int .i64 0] rfl rfl th_ (by kernel_rfl) (all_oneCell_toArray (qac ZDv ZDv)) ?_; rw [HU_.out]))
   exact bodyPost_ret (qab Tryz.results70 _ _ w.heap.size 32 #[.bool false,.slice none 0 0,.int .i64 0,.bool false,.slice none 0 0,.int .i64 0] (0,0) _ (.int .i64 k) rfl rfl bU_ Tryz.underlying32 rfl (by kernel_rfl)) rfl (qbz _ _ _ fin_)
 skip
 have HH:=HH2.out
 rw [if_pos hk] at HH
 injection HH with h1 h2
 injection h2 with h2 h3
 subst h1 h2 h3 hk
 have rlo:=qar.low bX
 have hbig:x.n<=1000000:=by
  have:=qek (a:=r) (by rw [<-ix.2.2]; exact rx) (qi8 HR.out)
  omega
 clear HH2 HR
 go_wp2_with (first | (refine wpList_load_mid rfl 24 (.tmp 18) rfl w.heap.size 0 rfl [.bool x.s,.slice x.A x.n x.c,.int .i64 x.e] _ rlo Tryz.underlying24 rfl (by kernel_rfl) ?_))
 refine (Pa.dyadTwin_any U11 x.s x.A x.n x.c x.xs x.e (rx.more (Nat.zero_le _) (Nat.le_refl _)) hbig).mono ?_
 rintro e' u2 ⟨A3,c3,rfl,hc3,j3,_,I3⟩
 clear rlo
 have sz2_:=Below.size bU11
 have sz3_:=Below.size j3
 have bX2:qar u2 w.heap.size x ZDv:=(j3.block _ (by omega)).trans bX
 obtain⟨y,hy⟩:∃ y:Dv,y=⟨x.s,A3,x.n,c3,x.e,x.xs⟩:=⟨_,rfl⟩
 obtain⟨U2,hU2,bY,hb2,hf2,l7_,l7'_⟩:=qjf bX2 ⟨x.s,A3,x.n,c3,x.e,x.xs⟩
 have bXY:qar U2 w.heap.size x y:=by rw [hy]; exact bY
 have iy:Is r y:=by rw [hy]; exact ix
 have b2:=hb2 _ _ (bU11.trans (j3.mono (by omega))) (by omega)
 have ry2:qbr U2 U11.heap.size U2.heap.size y:=by rw [hy]; exact (qaq I3 (fun b h1 h2=>hf2 b (by omega))).more (by omega) (by omega)
 have rx3:qbr U2 lo1 U11.heap.size x:=qaq rx (w':=U2) (fun b h1 h2=>(hf2 b (by omega)).trans (j3.block b (by omega)))
 have thH:=qar.thereH bX2
 replace hU2:u2.setCells w.heap.size 3 (#[.bool x.s,.slice A3 x.n c3,.int .i64 x.e]:Array Value).toList=U2:=hU2
 have HU2:=Lib.hid hU2
 clear hU2 bY hy bX hb2
 have rxy:=qar.range bXY
 obtain⟨U3,hU3,bF,hb3,hf3,l8_,l8'_⟩:=qaj bXY x y
 have th3:=qar.there bXY
 replace hU3:U2.setCells w.heap.size 0 (#[.bool x.s,.slice x.A x.n x.c,.int .i64 x.e,.bool y.s,.slice y.A y.n y.c,.int .i64 y.e]:Array Value).toList=U3:=hU3
 have HU3:=Lib.hid hU3
 clear hU3
 go_wp2_with (first
  | (refine wpList_store_mid rfl 24 (.tmp 21) (.tmp 20) rfl w.heap.size 3 #[.bool x.s,.slice A3 x.n c3,.int .i64 x.e] rfl rfl thH (by kernel_rfl) (all_oneCell_toArray (qa1 ⟨x.s,A3,x.n,c3,x.e,x.xs⟩)) ?_; rw [HU2.out])
  | (refine wpList_load_mid rfl 32 (.tmp 1) rfl w.heap.size 0 rfl [.bool x.s,.slice x.A x.n x.c,.int .i64 x.e,.bool y.s,.slice y.A y.n y.c,.int .i64 y.e] _ rxy Tryz.underlying32 rfl (by kernel_rfl) ?_)
  | (refine wpList_store_mid rfl 32 (.tmp 1) (.tmp 22) rfl w.heap.size 0 #[.bool x.s,.slice x.A x.n x.c,.int .i64 x.e,.bool y.s,.slice y.A y.n y.c,.int .i64 y.e] rfl rfl th3 (by kernel_rfl) (all_oneCell_toArray (qac x y)) ?_; rw [HU3.out]))
 have fin:=hb3 _ _ b2 (by omega)
 have rx4:qbr U3 w.heap.size U11.heap.size x:=(qaq rx3 (w':=U3) (fun b h1 h2=>hf3 b (by omega))).more (by omega) (Nat.le_refl _)
 exact bodyPost_ret (qab Tryz.results70 _ _ w.heap.size 32 #[.bool x.s,.slice x.A x.n x.c,.int .i64 x.e,.bool y.s,.slice y.A y.n y.c,.int .i64 y.e] (0,0) _ (.int .i64 0) rfl rfl bF Tryz.underlying32 rfl (by kernel_rfl)) rfl ⟨x,y,U11.heap.size,rfl,ix,iy,fin,by omega,by omega,rx4,(qaq ry2 (fun b h1 h2=>hf3 b (by omega))).more (Nat.le_refl _) (by omega)⟩
noncomputable def qb4(a b:Dv)(k:Int):Dn×Dn×Int :=
 if qcg b=false then (Dn.zero,Dn.zero,6) else
 if (toX a.s a.xs a.e b.s b.xs b.e k a.s).2≠0 then (Dn.zero,Dn.zero,(toX a.s a.xs a.e b.s b.xs b.e k a.s).2) else
 if (toX a.s a.xs a.e b.s b.xs b.e k (!a.s)).2≠0 then (Dn.zero,Dn.zero,(toX a.s a.xs a.e b.s b.xs b.e k (!a.s)).2) else
 ((toX a.s a.xs a.e b.s b.xs b.e k a.s).1,(toX a.s a.xs a.e b.s b.xs b.e k (!a.s)).1,0)
theorem qrx(w:World)(ga gb gk:Nat)(hga:ga < w.heap.size)(hgb:gb < w.heap.size)(hgk:gk < w.heap.size)(a b:Dv)(k:Int)(hA:qex w ga a)(hB:qex w gb b)(hK:w.heap[gk]? = some (.cells #[.int .i64 k] 3 (0,0)))
  (hRa:qbr w 0 w.heap.size a) (hRb:qbr w 0 w.heap.size b) (lo hi:Dn) (code:Int) (h:qb4 a b k=(lo,hi,code)) :
  Calls Tryz.prog 74 #[.pointer (some ⟨gb,0,none⟩),.pointer (some ⟨ga,0,none⟩),.pointer (some ⟨gk,0,none⟩)] w (qnz w lo hi code):=by
 obtain⟨w1,hw,bT,j1,S1⟩:=qba w
 obtain⟨v,hv⟩:∃ v,qcg b=v:=⟨_,rfl⟩
 have HA:=Lib.hid hv
 obtain⟨r1,k1,hr1⟩:∃ r k',toX a.s a.xs a.e b.s b.xs b.e k a.s=(r,k'):=⟨_,_,rfl⟩
 obtain⟨r2,k2,hr2⟩:∃ r k',toX a.s a.xs a.e b.s b.xs b.e k (!a.s)=(r,k'):=⟨_,_,rfl⟩
 unfold qb4 at h
 rw [hv,hr1,hr2] at h
 have HR1:=Lib.hid hr1
 have HR2:=Lib.hid hr2
 have HH:=Lib.hid h
 clear hv hr1 hr2 h
 go_enter Tryz.func74,Tryz.ntmps74
 have rB:w1.rangeAt (gb) 0 [.bool b.s,.slice b.A b.n b.c,.int .i64 b.e]:=qex.range (x:=b) (qaa hB j1 hgb)
 go_wp2_with (first | (refine wpList_load_mid rfl 24 (.tmp 0) rfl (gb) 0 rfl [.bool b.s,.slice b.A b.n b.c,.int .i64 b.e] _ rB Tryz.underlying24 rfl (by kernel_rfl) ?_))
 clear rB
 refine (qj1 w1 b v HA.out).mono ?_
 rintro e' v1 ⟨rfl,j2⟩
 try clear hw
 cases v
 . have HH:=HH.out
   rw [if_pos rfl] at HH
   injection HH with h1 h2
   injection h2 with h2 h3
   subst h1 h2 h3
   clear HA HR1 HR2
   have bz_:qar v1 w.heap.size ZDv ZDv:=(qaa bT j2 S1)
   obtain⟨U_,hU_,bU_,hb_,hf_,l5_,l5'_⟩:=qaj bz_ ZDv ZDv
   have th_:=qar.there bz_
   replace hU_:v1.setCells (w.heap.size) 0 (#[.bool false,.slice none 0 0,.int .i64 0,.bool false,.slice none 0 0,.int .i64 0]:Array Value).toList=U_:=hU_
   have HU_:=Lib.hid hU_
   clear hU_
   have fin_:=hb_ _ _ (lz j1 j2) (by omega)
   go_wp2_with (first | (refine wpList_store_mid rfl 32 (.tmp 3) (.tmp 8) rfl w.heap.size 0 #[.bool false,.slice none 0 0,.int .i64 0,.bool false,.slice none 0 0,.int .i64 0] rfl rfl th_ (by kernel_rfl) (all_oneCell_toArray (qac ZDv ZDv)) ?_; rw [HU_.out]))
   exact bodyPost_ret (qab Tryz.results74 _ _ w.heap.size 32 #[.bool false,.slice none 0 0,.int .i64 0,.bool false,.slice none 0 0,.int .i64 0] (0,0) _ (.int .i64 6) rfl rfl bU_ Tryz.underlying32 rfl (by kernel_rfl)) rfl (qbz _ _ _ fin_)
 skip
 replace HH:=Lib.hid (show (if k1≠0 then (Dn.zero,Dn.zero,k1) else if k2≠0 then (Dn.zero,Dn.zero,k2) else (r1,r2,(0:Int)))=(lo,hi,code) by have:=HH.out; rw [if_neg (by decide)] at this; exact this)
 clear HA
 have rA1:v1.rangeAt (ga) 0 [.bool a.s,.slice a.A a.n a.c,.int .i64 a.e]:=qex.range (x:=a) (qaa hA (lz j1 j2) hga)
 have rB1:v1.rangeAt (gb) 0 [.bool b.s,.slice b.A b.n b.c,.int .i64 b.e]:=qex.range (x:=b) (qaa hB (lz j1 j2) hgb)
 have kk1:=cell_of_row v1 gk 0 _ _ _ (qaa hK (lz j1 j2) hgk)
 replace kk1:v1.cell? ⟨gk,0,none⟩=some (.int .i64 k):=kk1
 go_wp2_with (first
  | (refine wpList_load_mid rfl 24 (.tmp 1) rfl (ga) 0 rfl [.bool a.s,.slice a.A a.n a.c,.int .i64 a.e] _ rA1 Tryz.underlying24 rfl (by kernel_rfl) ?_)
  | (refine wpList_load_mid rfl 24 (.tmp 0) rfl (gb) 0 rfl [.bool b.s,.slice b.A b.n b.c,.int .i64 b.e] _ rB1 Tryz.underlying24 rfl (by kernel_rfl) ?_))
 refine (qwq v1 a.s b.s a.A b.A a.n a.c b.n b.c a.xs b.xs a.e b.e (qao hRa (lz j1 j2)) (qao hRb (lz j1 j2)) k r1 k1 HR1.out).mono ?_
 rintro e' v3 ⟨A1,n1,c1,rfl,_,j4,I1⟩
 try clear hw
 clear rA1 rB1 kk1
 have sa1:=Below.size j2
 have sb1:=Below.size j4
 have hT1:qar v3 w.heap.size ZDv ZDv:=(qaa bT (lz j2 j4) S1)
 obtain⟨U1,hU1,bV1,hb1,hf1,la1,lb1⟩:=qls hT1 ⟨r1.neg,A1,n1,c1,r1.e,qaf 4294967296 r1.m⟩
 have th1:=qar.thereL hT1
 replace hU1:v3.setCells w.heap.size 0 (#[.bool r1.neg,.slice A1 n1 c1,.int .i64 r1.e]:Array Value).toList=U1:=hU1
 have HU1:=Lib.hid hU1
 clear hU1
 obtain⟨x,hx1⟩:∃ x:Dv,x=⟨r1.neg,A1,n1,c1,r1.e,qaf 4294967296 r1.m⟩:=⟨_,rfl⟩
 have ix1:Is r1 x:=by rw [hx1]; exact⟨rfl,rfl,rfl⟩
 obtain⟨lo1,hlo1⟩:∃ n,v1.heap.size=n:=⟨_,rfl⟩
 have lc1:w.heap.size < lo1:=by omega
 have rx1:qbr U1 lo1 U1.heap.size x:=by rw [hx1,<-hlo1]; exact (qaq I1 (fun b h1 h2=>hf1 b (by omega))).more (Nat.le_refl _) lb1
 have bb1:=hb1 _ _ (lz j1 (lz j2 j4)) (by omega)
 have bX:qar U1 w.heap.size x ZDv:=by rw [hx1]; exact bV1
 have la:lo1<=U1.heap.size:=by omega
 have kA1:qex U1 ga a:=(hf1 _ (by omega)).trans (qaa hA (lz j1 (lz j2 j4)) hga)
 have kB1:qex U1 gb b:=(hf1 _ (by omega)).trans (qaa hB (lz j1 (lz j2 j4)) hgb)
 have kK1:U1.heap[gk]? = some (.cells #[.int .i64 k] 3 (0,0)):=(hf1 _ (by omega)).trans (qaa hK (lz j1 (lz j2 j4)) hgk)
 have kRa1:qbr U1 0 U1.heap.size a:=qao hRa (hb1 _ _ (lz j1 (lz j2 j4)) (Nat.le_refl _))
 have kRb1:qbr U1 0 U1.heap.size b:=qao hRb (hb1 _ _ (lz j1 (lz j2 j4)) (Nat.le_refl _))
 clear hx1 bV1 hlo1 hb1
 replace hA:=kA1
 replace hB:=kB1
 replace hK:=kK1
 replace hRa:=kRa1
 replace hRb:=kRb1
 replace bT:=bX
 clear kA1 kB1 kK1 kRa1 kRb1 bX
 by_cases e1:k1=0
 rotate_left
 . have HH:=HH.out
   rw [if_pos e1] at HH
   injection HH with h1 h2
   injection h2 with h2 h3
   subst h1 h2 h3
   clear HR1 HR2
   have n0:(k1 != 0)=true:=by simpa using e1
   clear e1
   obtain⟨U_,hU_,bU_,hb_,hf_,l5_,l5'_⟩:=qaj (show qar U1 w.heap.size x ZDv from bT) ZDv ZDv
   have th_:=qar.there (show qar U1 w.heap.size x ZDv from bT)
   replace hU_:U1.setCells w.heap.size 0 (#[.bool false,.slice none 0 0,.int .i64 0,.bool false,.slice none 0 0,.int .i64 0]:Array Value).toList=U_:=hU_
   have HU_:=Lib.hid hU_
   clear hU_
   have fin_:=hb_ _ _ bb1 (by omega)
   go_wp2_with (first
    | (refine wpList_store_mid rfl 24 (.tmp 16) (.tmp 14) rfl w.heap.size 0 #[.bool r1.neg,.slice A1 n1 c1,.int .i64 r1.e] rfl rfl th1 (by kernel_rfl) (all_oneCell_toArray (qa1 ⟨r1.neg,A1,n1,c1,r1.e,qaf 4294967296 r1.m⟩)) ?_; rw [HU1.out])
    | (refine wpList_store_mid rfl 32 (.tmp 3) (.tmp 19) rfl w.heap.size 0 #[.bool false,.slice none 0 0,.int .i64 0,.bool false,.slice none 0 0,.int .i64 0] rfl rfl th_ (by kernel_rfl) (all_oneCell_toArray (qac ZDv ZDv)) ?_; rw [HU_.out]))
   exact bodyPost_ret (qab Tryz.results74 _ _ w.heap.size 32 #[.bool false,.slice none 0 0,.int .i64 0,.bool false,.slice none 0 0,.int .i64 0] (0,0) _ (.int .i64 k1) rfl rfl bU_ Tryz.underlying32 rfl (by kernel_rfl)) rfl (qbz _ _ _ fin_)
 skip
 replace HH:=Lib.hid (show (if k2≠0 then (Dn.zero,Dn.zero,k2) else (r1,r2,(0:Int)))=(lo,hi,code) by have:=HH.out; rw [if_neg (by omega)] at this; exact this)
 subst e1
 have rA2:U1.rangeAt (ga) 0 [.bool a.s,.slice a.A a.n a.c,.int .i64 a.e]:=qex.range (x:=a) hA
 have rB2:U1.rangeAt (gb) 0 [.bool b.s,.slice b.A b.n b.c,.int .i64 b.e]:=qex.range (x:=b) hB
 have kk2:=cell_of_row U1 gk 0 _ _ _ hK
 replace kk2:U1.cell? ⟨gk,0,none⟩=some (.int .i64 k):=kk2
 try skip
 go_wp2_with (first
  | (refine wpList_load_mid rfl 24 (.tmp 1) rfl (ga) 0 rfl [.bool a.s,.slice a.A a.n a.c,.int .i64 a.e] _ rA2 Tryz.underlying24 rfl (by kernel_rfl) ?_)
  | (refine wpList_load_mid rfl 24 (.tmp 0) rfl (gb) 0 rfl [.bool b.s,.slice b.A b.n b.c,.int .i64 b.e] _ rB2 Tryz.underlying24 rfl (by kernel_rfl) ?_)
  | (refine wpList_store_mid rfl 24 (.tmp 16) (.tmp 14) rfl w.heap.size 0 #[.bool r1.neg,.slice A1 n1 c1,.int .i64 r1.e] rfl rfl th1 (by kernel_rfl) (all_oneCell_toArray (qa1 ⟨r1.neg,A1,n1,c1,r1.e,qaf 4294967296 r1.m⟩)) ?_; rw [HU1.out]))
 refine (qy3 U1 a.s b.s a.A b.A a.n a.c b.n b.c a.xs b.xs a.e b.e hRa hRb k r2 k2 HR2.out).mono ?_
 rintro e' v5 ⟨A2,n2,c2,rfl,_,j6,I2⟩
 try clear hw
 clear rA2 rB2 kk2
 have sq2:=Below.size j6
 have hT2:qar v5 w.heap.size x ZDv:=(qaa bT j6 (show w.heap.size < U1.heap.size by omega))
 obtain⟨U2,hU2,bV2,hb2,hf2,la2,lb2⟩:=qjf hT2 ⟨r2.neg,A2,n2,c2,r2.e,qaf 4294967296 r2.m⟩
 have th2:=qar.thereH hT2
 replace hU2:v5.setCells w.heap.size 3 (#[.bool r2.neg,.slice A2 n2 c2,.int .i64 r2.e]:Array Value).toList=U2:=hU2
 have HU2:=Lib.hid hU2
 clear hU2
 obtain⟨y,hx2⟩:∃ x:Dv,x=⟨r2.neg,A2,n2,c2,r2.e,qaf 4294967296 r2.m⟩:=⟨_,rfl⟩
 have ix2:Is r2 y:=by rw [hx2]; exact⟨rfl,rfl,rfl⟩
 have ry:qbr U2 U1.heap.size U2.heap.size y:=by rw [hx2]; exact (qaq I2 (fun b h1 h2=>hf2 b (by omega))).more (Nat.le_refl _) lb2
 have rx:qbr U2 lo1 U1.heap.size x:=qaq rx1 (w':=U2) (fun b h1 h2=>(hf2 b (by omega)).trans (j6.block b (by omega)))
 have bX:qar U2 w.heap.size x y:=by rw [hx2]; exact bV2
 have bb2:=hb2 _ _ (lz bb1 j6) (by omega)
 clear hx2 bV2 hb2 hT2
 replace bT:=bX
 clear bX
 by_cases e2:k2=0
 rotate_left
 . have HH:=HH.out
   rw [if_pos e2] at HH
   injection HH with h1 h2
   injection h2 with h2 h3
   subst h1 h2 h3
   clear HR1 HR2
   have n0:(k2 != 0)=true:=by simpa using e2
   clear e2
   obtain⟨U_,hU_,bU_,hb_,hf_,l5_,l5'_⟩:=qaj (show qar U2 w.heap.size x y from bT) ZDv ZDv
   have th_:=qar.there (show qar U2 w.heap.size x y from bT)
   replace hU_:U2.setCells w.heap.size 0 (#[.bool false,.slice none 0 0,.int .i64 0,.bool false,.slice none 0 0,.int .i64 0]:Array Value).toList=U_:=hU_
   have HU_:=Lib.hid hU_
   clear hU_
   have fin_:=hb_ _ _ bb2 (by omega)
   go_wp2_with (first
    | (refine wpList_store_mid rfl 24 (.tmp 28) (.tmp 26) rfl w.heap.size 3 #[.bool r2.neg,.slice A2 n2 c2,.int .i64 r2.e] rfl rfl th2 (by kernel_rfl) (all_oneCell_toArray (qa1 ⟨r2.neg,A2,n2,c2,r2.e,qaf 4294967296 r2.m⟩)) ?_; rw [HU2.out])
    | (refine wpList_store_mid rfl 32 (.tmp 3) (.tmp 31) rfl w.heap.size 0 #[.bool false,.slice none 0 0,.int .i64 0,.bool false,.slice none 0 0,.int .i64 0] rfl rfl th_ (by kernel_rfl) (all_oneCell_toArray (qac ZDv ZDv)) ?_; rw [HU_.out]))
   exact bodyPost_ret (qab Tryz.results74 _ _ w.heap.size 32 #[.bool false,.slice none 0 0,.int .i64 0,.bool false,.slice none 0 0,.int .i64 0] (0,0) _ (.int .i64 k2) rfl rfl bU_ Tryz.underlying32 rfl (by kernel_rfl)) rfl (qbz _ _ _ fin_)
 skip
 have HH:=HH.out
 rw [if_neg (by omega)] at HH
 injection HH with h1 h2
 injection h2 with h2 h3
 subst h1 h2 h3
 clear HR1 HR2
 subst e2
 have rxy:=qar.range bT
 obtain⟨U3,hU3,bF,hb3,hf3,l8_,l8'_⟩:=qaj bT x y
 have th3:=qar.there bT
 replace hU3:U2.setCells w.heap.size 0 (#[.bool x.s,.slice x.A x.n x.c,.int .i64 x.e,.bool y.s,.slice y.A y.n y.c,.int .i64 y.e]:Array Value).toList=U3:=hU3
 have HU3:=Lib.hid hU3
 clear hU3
 go_wp2_with (first
  | (refine wpList_store_mid rfl 24 (.tmp 28) (.tmp 26) rfl w.heap.size 3 #[.bool r2.neg,.slice A2 n2 c2,.int .i64 r2.e] rfl rfl th2 (by kernel_rfl) (all_oneCell_toArray (qa1 ⟨r2.neg,A2,n2,c2,r2.e,qaf 4294967296 r2.m⟩)) ?_; rw [HU2.out])
  | (refine wpList_load_mid rfl 32 (.tmp 3) rfl w.heap.size 0 rfl [.bool x.s,.slice x.A x.n x.c,.int .i64 x.e,.bool y.s,.slice y.A y.n y.c,.int .i64 y.e] _ rxy Tryz.underlying32 rfl (by kernel_rfl) ?_)
  | (refine wpList_store_mid rfl 32 (.tmp 3) (.tmp 33) rfl w.heap.size 0 #[.bool x.s,.slice x.A x.n x.c,.int .i64 x.e,.bool y.s,.slice y.A y.n y.c,.int .i64 y.e] rfl rfl th3 (by kernel_rfl) (all_oneCell_toArray (qac x y)) ?_; rw [HU3.out]))
 have fin:=hb3 _ _ bb2 (by omega)
 have rx4:qbr U3 w.heap.size U1.heap.size x:=(qaq rx (w':=U3) (fun b h1 h2=>hf3 b (by omega))).more (by omega) (Nat.le_refl _)
 exact bodyPost_ret (qab Tryz.results74 _ _ w.heap.size 32 #[.bool x.s,.slice x.A x.n x.c,.int .i64 x.e,.bool y.s,.slice y.A y.n y.c,.int .i64 y.e] (0,0) _ (.int .i64 0) rfl rfl bF Tryz.underlying32 rfl (by kernel_rfl)) rfl ⟨x,y,U1.heap.size,rfl,ix1,ix2,fin,by omega,by omega,rx4,(qaq ry (fun b h1 h2=>hf3 b (by omega))).more (Nat.le_refl _) (by omega)⟩
theorem qot{r:Dn}{d:Dv}(h:Is r d)(hr:r.May):qne d.s d.xs d.e=qgt r:=by
 unfold qne
 rw [if_pos (show qik d.s d.xs d.e from h.may hr),h.1,h.2.1,h.2.2,dn_of]
def qgn(z:Int):Dn:=(qgt (qgt (qd3 z)).1).1
def qe2(xs:List Int):Dn×Dn×Int:=if xs.length=0 then (Dn.zero,Dn.zero,6) else (qgn (Least.guessS xs),qgn (Least.guessS xs),0)
def qks(z:Int):Nat->Dn
 | 0=>qd3 z
 | i+1=>(qgt (qks z i)).1
theorem qsf{z:Int}(h0:-9223372036854775808<=z)(h1:z<=9223372036854775807):∀ i,(qks z i).May
 | 0=>qgb h0 h1
 | _+1=>qfn ..
theorem qh5{xs:List Int}(hc:Least.checkCode xs=0)(h0:∀ x∈xs,0<=x):0<=Least.guessS xs/\Least.guessS xs<=30064771072:=by
 unfold Least.guessS
 split
 . omega
 next h8 =>
 have h7:=Least.seventh hc h8 h0
 refine⟨Int.ediv_nonneg (by omega) (by omega),?_⟩
 exact Int.ediv_le_self _ (by omega)
theorem qvn(w:World)(g:Nat)(hg:g < w.heap.size)(h:Bool)(mn mx:Int)(hE:w.heap[g]? = some (.cells #[.bool h,.int .i64 mn,.int .i64 mx] 28 (0,0)))
  (hmn:-9223372036854775808<=mn/\mn<=9223372036854775807) (hmx:-9223372036854775808<=mx/\mx<=9223372036854775807) (lo hi:Dn) (code:Int) (hx:qjj h mn mx=(lo,hi,code)) :
  Calls Tryz.prog 77 #[.pointer (some ⟨g,0,none⟩)] w (qnz w lo hi code):=by
 obtain⟨w1,hw,bT,j1,S1⟩:=qba w
 have k0:w1.cell? ⟨g,0,none⟩=some (.bool h):=cell_of_row w1 g 0 _ _ _ (qaa hE j1 hg)
 have k1:w1.cell? ⟨g,1,none⟩=some (.int .i64 mn):=cell_of_row w1 g 1 _ _ _ (qaa hE j1 hg)
 have k2:w1.cell? ⟨g,2,none⟩=some (.int .i64 mx):=cell_of_row w1 g 2 _ _ _ (qaa hE j1 hg)
 have HX:=Lib.hid hx
 clear hx
 cases h
 . have hx:=HX.out
   unfold qjj at hx
   rw [if_pos rfl] at hx
   injection hx with h1 h2
   injection h2 with h2 h3
   subst h1 h2 h3
   clear HX
   go_enter Tryz.func77,Tryz.ntmps77
   have bz_:qar w1 w.heap.size ZDv ZDv:=bT
   obtain⟨U_,hU_,bU_,hb_,hf_,l5_,l5'_⟩:=qaj bz_ ZDv ZDv
   have th_:=qar.there bz_
   replace hU_:w1.setCells (w.heap.size) 0 (#[.bool false,.slice none 0 0,.int .i64 0,.bool false,.slice none 0 0,.int .i64 0]:Array Value).toList=U_:=hU_
   have HU_:=Lib.hid hU_
   clear hU_
   have fin_:=hb_ _ _ j1 (by omega)
   go_wp2_with (first | (refine wpList_store_mid rfl 32 (.tmp 1) (.tmp 6) rfl w.heap.size 0 #[.bool false,.slice none 0 0,.int .i64 0,.bool false,.slice none 0 0,.int .i64 0] rfl rfl th_ (by kernel_rfl) (all_oneCell_toArray (qac ZDv ZDv)) ?_; rw [HU_.out]))
   exact bodyPost_ret (qab Tryz.results77 _ _ w.heap.size 32 #[.bool false,.slice none 0 0,.int .i64 0,.bool false,.slice none 0 0,.int .i64 0] (0,0) _ (.int .i64 6) rfl rfl bU_ Tryz.underlying32 rfl (by kernel_rfl)) rfl (qbz _ _ _ fin_)
 skip
 have hx:=HX.out
 unfold qjj at hx
 rw [if_neg (by decide)] at hx
 injection hx with h1 h2
 injection h2 with h2 h3
 subst h1 h2 h3
 clear HX
 go_enter Tryz.func77,Tryz.ntmps77
 go_wp2_with fail
 refine (qzn w1 mn mx hmn hmx).mono ?_
 rintro e' u ⟨x,y,B,rfl,ix,iy,j2,l1,l2,rx,ry⟩
 clear k0 k1 k2
 try clear hw
 have bT2:qar u w.heap.size ZDv ZDv:=(j2.block _ S1).trans bT
 have s1:=j1.size
 obtain⟨U,hU,bU,hb,hf,l5,l6⟩:=qaj bT2 x y
 have th:=qar.there bT2
 replace hU:u.setCells w.heap.size 0 (#[.bool x.s,.slice x.A x.n x.c,.int .i64 x.e,.bool y.s,.slice y.A y.n y.c,.int .i64 y.e]:Array Value).toList=U:=hU
 have HU:=Lib.hid hU
 clear hU
 have fin:=hb _ _ (j1.trans (j2.mono (by omega))) (by omega)
 go_wp2_with (first | (refine wpList_store_mid rfl 32 (.tmp 1) (.tmp 11) rfl w.heap.size 0 #[.bool x.s,.slice x.A x.n x.c,.int .i64 x.e,.bool y.s,.slice y.A y.n y.c,.int .i64 y.e] rfl rfl th (by kernel_rfl) (all_oneCell_toArray (qac x y)) ?_; rw [HU.out]))
 exact bodyPost_ret (qab Tryz.results77 _ _ w.heap.size 32 #[.bool x.s,.slice x.A x.n x.c,.int .i64 x.e,.bool y.s,.slice y.A y.n y.c,.int .i64 y.e] (0,0) _ (.int .i64 0) rfl rfl bU Tryz.underlying32 rfl (by kernel_rfl)) rfl ⟨x,y,B,rfl,ix,iy,fin,by omega,by omega,(qaq rx (w':=U) (fun b h1 h2=>hf b (by omega))).more (by omega) (Nat.le_refl _),(qaq ry (w':=U) (fun b h1 h2=>hf b (by omega))).more (Nat.le_refl _) (by omega)⟩
theorem qsg(w:World)(g:Nat)(hg:g < w.heap.size)(A:Option Addr)(n c:Nat)(xs:List Int)(hE:w.heap[g]? = some (.cells #[.slice A n c] 22 (0,0)))
  (hI:qae w 0 w.heap.size .u32 A n xs) (hT:Tab w) (hc:Least.checkCode xs=0) (lo hi:Dn) (code:Int) (hx:qe2 xs=(lo,hi,code)) :
  Calls Tryz.prog 79 #[.pointer (some ⟨g,0,none⟩)] w (qnz w lo hi code):=by
 obtain⟨w1,hw,bT,j1,S1⟩:=qba w
 have s1:=j1.size
 have k0:w1.cell? ⟨g,0,none⟩=some (.slice A n c):=cell_of_row w1 g 0 _ _ _ (qaa hE j1 hg)
 have HX:=Lib.hid hx
 have HC:=Lib.hid hc
 have hlen:=Lib.hid hI.len
 have hbig:=hI.big
 obtain⟨G,hG⟩:∃ G,Least.guessS xs=G:=⟨_,rfl⟩
 have hGb:=Lib.hid (qh5 hc (fun x hx=>by have:=(hI.wf x hx).1; simpa [IntKind.min,IntKind.signed] using this))
 have hg2:=Lib.hid (show Least.guessR xs=G by unfold Least.guessR; rw [if_pos hc,hG])
 have HG:=Lib.hid hG
 clear hx hc hG
 go_enter Tryz.func79,Tryz.ntmps79
 go_wp2_with fail
 refine (Least.Guess_any w1 0 w1.heap.size A n c xs (qao hI j1) 0 G HC.out hg2.out).mono ?_
 rintro e' u ⟨rfl,m,hm⟩
 try clear hw
 have j2:Below w1.heap.size w1 u:=by rw [hm]; exact qbg (Below.refl _ _) m
 have k1:u.cell? ⟨g,0,none⟩=some (.slice A n c):=cell_of_row u g 0 _ _ _ (qaa hE (lz j1 j2) hg)
 have s2:=j2.size
 have bT2:qar u w.heap.size ZDv ZDv:=(j2.block _ S1).trans bT
 clear hm k0
 by_cases h0:n=0
 . have hx:=HX.out
   unfold qe2 at hx
   rw [if_pos (by rw [hlen.out]; exact h0)] at hx
   injection hx with h1 h2
   injection h2 with h2 h3
   subst h1 h2 h3
   subst h0
   clear HX HC hlen hGb hg2 HG
   have bz_:qar u w.heap.size ZDv ZDv:=(qaa bT j2 S1)
   obtain⟨U_,hU_,bU_,hb_,hf_,l5_,l5'_⟩:=qaj bz_ ZDv ZDv
   have th_:=qar.there bz_
   replace hU_:u.setCells (w.heap.size) 0 (#[.bool false,.slice none 0 0,.int .i64 0,.bool false,.slice none 0 0,.int .i64 0]:Array Value).toList=U_:=hU_
   have HU_:=Lib.hid hU_
   clear hU_
   have fin_:=hb_ _ _ (lz j1 j2) (by omega)
   go_wp2_with (first | (refine wpList_store_mid rfl 32 (.tmp 1) (.tmp 18) rfl w.heap.size 0 #[.bool false,.slice none 0 0,.int .i64 0,.bool false,.slice none 0 0,.int .i64 0] rfl rfl th_ (by kernel_rfl) (all_oneCell_toArray (qac ZDv ZDv)) ?_; rw [HU_.out]))
   exact bodyPost_ret (qab Tryz.results79 _ _ w.heap.size 32 #[.bool false,.slice none 0 0,.int .i64 0,.bool false,.slice none 0 0,.int .i64 0] (0,0) _ (.int .i64 6) rfl rfl bU_ Tryz.underlying32 rfl (by kernel_rfl)) rfl (qbz _ _ _ fin_)
 skip
 have hx:=HX.out
 unfold qe2 at hx
 rw [if_neg (by rw [hlen.out]; exact h0),HG.out] at hx
 injection hx with h1 h2
 injection h2 with h2 h3
 subst h1 h2 h3
 have n0:((n:Int)==0)=false:=by
  have:(n:Int)≠0:=by omega
  simpa using this
 have hGb':=HG.out▸hGb.out
 clear HX HC hlen hGb hg2
 go_wp2_with fail
 refine (qzo u G G (by omega) (by omega)).mono ?_
 rintro e' v ⟨x0,y0,B0,rfl,ix,iy,j3,l1,l2,rx,ry⟩
 clear k1
 have s3:=j3.size
 have bT3:qar v w.heap.size ZDv ZDv:=(j3.block _ (by omega)).trans bT2
 obtain⟨v1,hv1,b4,j4,S4⟩:=qes v x0 y0
 have hT4:Tab v1:=qbs (qbs (qbs (qbs hT j1) j2) j3) j4
 have bT4:qar v1 w.heap.size ZDv ZDv:=(j4.block _ (by omega)).trans bT3
 have rx4:qbr v1 u.heap.size B0 x0:=rx.below j4 l2
 have ry4:qbr v1 B0 v.heap.size y0:=ry.below j4 (Nat.le_refl _)
 have hb4:Below w.heap.size w v1:=((j1.trans (j2.mono (by omega))).trans (j3.mono (by omega))).trans (j4.mono (by omega))
 have hy4:=Lib.hid ix
 have hx4:=Lib.hid iy
 clear ix iy rx ry bT bT2 bT3
 go_wp2_with (first | (refine qai rfl 32 (.tmp 5) (.tmp 21) rfl _ #[.bool x0.s,.slice x0.A x0.n x0.c,.int .i64 x0.e,.bool y0.s,.slice y0.A y0.n y0.c,.int .i64 y0.e] rfl rfl (by kernel_rfl) rfl (all_oneCell_toArray (qac x0 y0)) ?_; rw [hv1]))
 try clear hv1
 obtain⟨T,hTe⟩:∃ T,v.heap.size=T:=⟨_,rfl⟩
 rw [hTe] at b4
 try rw [hTe]
 go_loopw [22] (fun iv wr=>∃ (i:Nat) (x y:Dv) (lo B hi:Nat),iv=.int .i64 i/\i<=2/\Hid (Is (qks G i) x)/\Hid (Is (qks G i) y)/\qar wr T x y/\qar wr w.heap.size ZDv ZDv/\Below w.heap.size w wr/\T < wr.heap.size/\w.heap.size < T/\qbr wr lo B x/\qbr wr B hi y/\w.heap.size < lo/\lo<=B/\B<=hi/\hi<=wr.heap.size/\(hi<=T∨T < lo)) (fun iv _=>2-(intOf iv).toNat)
 case atStart=>exact⟨0,x0,y0,u.heap.size,B0,v.heap.size,rfl,by omega,hy4,hx4,b4,bT4,hb4,by omega,by omega,rx4,ry4,by omega,l1,l2,by omega,.inl (by omega)⟩
 clear hy4 hx4 b4 bT4 rx4 ry4 hT4 hb4
 obtain⟨i,x,y,lo,B,hi,rfl,hi2,ix,iy,bX,bT,hb,t1,t2,rx,ry,q1,q2,q3,q4,q5⟩:=hrel
 by_cases hlt:i < 2
 . obtain⟨r,hr⟩:∃ r,qks G (i+1)=r:=⟨_,rfl⟩
   obtain⟨q,hq⟩:∃ q,(qgt (qks G i)).2=q:=⟨_,rfl⟩
   have hm:=qsf (z:=G) (by omega) (by omega) i
   have HX:=Lib.hid (show qne x.s x.xs x.e=(r,q) by rw [qot ix.out hm,<-hr,<-hq]; rfl)
   have HY:=Lib.hid (show qne y.s y.xs y.e=(r,q) by rw [qot iy.out hm,<-hr,<-hq]; rfl)
   have HRn:=Lib.hid hr
   have hwr:IntKind.i64.wrap ((i:Int)+1)=((i+1:Nat):Int):=by rw [IntKind.wrap_i64]; omega
   have rlo:=qar.low bX
   clear hr hq hm
   go_wp2_with (first | (refine wpList_load_mid rfl 24 (.tmp 25) rfl T 0 rfl [.bool x.s,.slice x.A x.n x.c,.int .i64 x.e] _ rlo Tryz.underlying24 rfl (by kernel_rfl) ?_))
   refine (qrb wr x.s x.A x.n x.c x.xs x.e (rx.more (Nat.zero_le _) (by omega)) (qbs hT hb) r q HX.out).mono ?_
   rintro e' a1 ⟨A1,n1,c1,rfl,_,ja,I1⟩
   clear rlo
   have sa:=ja.size
   have bXa:qar a1 T x y:=(ja.block _ t1).trans bX
   obtain⟨U1,hU1,bX1,hb1,hf1,g1,g1'⟩:=qls bXa ⟨r.neg,A1,n1,c1,r.e,qaf 4294967296 r.m⟩
   have th1:=qar.thereL bXa
   replace hU1:a1.setCells T 0 (#[.bool r.neg,.slice A1 n1 c1,.int .i64 r.e]:Array Value).toList=U1:=hU1
   have HU1:=Lib.hid hU1
   have rhi:=qar.high bX1
   have hba:Below w.heap.size w a1:=hb.trans (ja.mono hb.size)
   have hbU:Below w.heap.size w U1:=hb1 _ _ hba (by omega)
   have ryU:qbr U1 B hi y:=qaq (ry.below ja q4) (w':=U1) (fun b h1 h2=>hf1 b (by omega))
   have rxU:qbr U1 wr.heap.size U1.heap.size ⟨r.neg,A1,n1,c1,r.e,qaf 4294967296 r.m⟩:=(qaq I1 (w':=U1) (fun b h1 h2=>hf1 b (by omega))).more (Nat.le_refl _) g1'
   have bTU:qar U1 w.heap.size ZDv ZDv:=(hf1 _ (by omega)).trans ((ja.block _ (by omega)).trans bT)
   clear hU1 bXa
   go_wp2_with (first
    | (refine wpList_store_mid rfl 24 (.tmp 30) (.tmp 28) rfl T 0 #[.bool r.neg,.slice A1 n1 c1,.int .i64 r.e] rfl rfl th1 (by kernel_rfl) (all_oneCell_toArray (qa1 ⟨r.neg,A1,n1,c1,r.e,[]⟩)) ?_; rw [HU1.out])
    | (refine wpList_load_mid rfl 24 (.tmp 32) rfl T 3 rfl [.bool y.s,.slice y.A y.n y.c,.int .i64 y.e] _ rhi Tryz.underlying24 rfl (by kernel_rfl) ?_))
   refine (qrb U1 y.s y.A y.n y.c y.xs y.e (ryU.more (Nat.zero_le _) (by omega)) (qbs hT hbU) r q HY.out).mono ?_
   rintro e' a2 ⟨A2,n2,c2,rfl,_,jb,I2⟩
   clear rhi th1 HU1
   have sb:=jb.size
   have bXb:qar a2 T ⟨r.neg,A1,n1,c1,r.e,qaf 4294967296 r.m⟩ y:=(jb.block _ (by omega)).trans bX1
   obtain⟨U2,hU2,bX2,hb2,hf2,g2,g2'⟩:=qjf bXb ⟨r.neg,A2,n2,c2,r.e,qaf 4294967296 r.m⟩
   have th2:=qar.thereH bXb
   replace hU2:a2.setCells T 3 (#[.bool r.neg,.slice A2 n2 c2,.int .i64 r.e]:Array Value).toList=U2:=hU2
   have HU2:=Lib.hid hU2
   have hbV:Below w.heap.size w U2:=hb2 _ _ (hbU.trans (jb.mono hbU.size)) (by omega)
   have rxV:qbr U2 wr.heap.size U1.heap.size ⟨r.neg,A1,n1,c1,r.e,qaf 4294967296 r.m⟩:=qaq (rxU.below jb (Nat.le_refl _)) (w':=U2) (fun b h1 h2=>hf2 b (by omega))
   have ryV:qbr U2 U1.heap.size U2.heap.size ⟨r.neg,A2,n2,c2,r.e,qaf 4294967296 r.m⟩:=(qaq I2 (w':=U2) (fun b h1 h2=>hf2 b (by omega))).more (Nat.le_refl _) g2'
   have bTV:qar U2 w.heap.size ZDv ZDv:=(hf2 _ (by omega)).trans ((jb.block _ (by omega)).trans bTU)
   clear hU2 bXb
   go_wp2_with (first
    | (refine wpList_store_mid rfl 24 (.tmp 37) (.tmp 35) rfl T 3 #[.bool r.neg,.slice A2 n2 c2,.int .i64 r.e] rfl rfl th2 (by kernel_rfl) (all_oneCell_toArray (qa1 ⟨r.neg,A2,n2,c2,r.e,[]⟩)) ?_; rw [HU2.out]))
   go_roundw
   case rel=>exact⟨i+1,⟨r.neg,A1,n1,c1,r.e,qaf 4294967296 r.m⟩,⟨r.neg,A2,n2,c2,r.e,qaf 4294967296 r.m⟩,wr.heap.size,U1.heap.size,U2.heap.size,by first | rfl | (congr 1; omega) | go_num,hlt,Lib.hid (by rw [HRn.out]; exact⟨rfl,rfl,rfl⟩),Lib.hid (by rw [HRn.out]; exact⟨rfl,rfl,rfl⟩),bX2,bTV,hbV,by omega,t2,rxV,ryV,by omega,by omega,by omega,Nat.le_refl _,.inr (by omega)⟩
   case measure=>first | (simp [intOf]; done) | (simp [intOf]; omega)
 obtain rfl:i=2:=by omega
 have rxy:=qar.range bX
 obtain⟨U,hU,bF,hbF,hfF,g1,g1'⟩:=qaj bT x y
 have th:=qar.there bT
 replace hU:wr.setCells w.heap.size 0 (#[.bool x.s,.slice x.A x.n x.c,.int .i64 x.e,.bool y.s,.slice y.A y.n y.c,.int .i64 y.e]:Array Value).toList=U:=hU
 have HU:=Lib.hid hU
 clear hU
 go_wp2_with (first
  | (refine wpList_load_mid rfl 32 (.tmp 5) rfl T 0 rfl [.bool x.s,.slice x.A x.n x.c,.int .i64 x.e,.bool y.s,.slice y.A y.n y.c,.int .i64 y.e] _ rxy Tryz.underlying32 rfl (by kernel_rfl) ?_)
  | (refine wpList_store_mid rfl 32 (.tmp 1) (.tmp 39) rfl w.heap.size 0 #[.bool x.s,.slice x.A x.n x.c,.int .i64 x.e,.bool y.s,.slice y.A y.n y.c,.int .i64 y.e] rfl rfl th (by kernel_rfl) (all_oneCell_toArray (qac x y)) ?_; rw [HU.out]))
 have fin:=hbF _ _ hb (Nat.le_refl _)
 exact bodyPost_ret (qab Tryz.results79 _ _ w.heap.size 32 #[.bool x.s,.slice x.A x.n x.c,.int .i64 x.e,.bool y.s,.slice y.A y.n y.c,.int .i64 y.e] (0,0) _ (.int .i64 0) rfl rfl bF Tryz.underlying32 rfl (by kernel_rfl)) rfl ⟨x,y,B,rfl,ix.out,iy.out,fin,by omega,by omega,(qaq rx (w':=U) (fun b h1 h2=>hfF b (by omega))).more (by omega) (Nat.le_refl _),(qaq ry (w':=U) (fun b h1 h2=>hfF b (by omega))).more (Nat.le_refl _) (by omega)⟩
def qwn(F:FuncId)(w:World)(T:Dn×Dn×Int)(e:Ending)(w':World):Prop:=∃ v,e=.returned v/\Tells F w' T v/\Below w.heap.size w w'
noncomputable def qf3(m:Mv)(k:Int):Dn×Dn×Int:=if qcg m.W=false then (Dn.zero,Dn.zero,6) else qb4 m.A ⟨false,none,1,1,0,qaf 4294967296 1⟩ k
theorem quc{a b b':Dv}{k:Int}(hs:b.s=b'.s)(hn:b.n=b'.n)(hx:b.xs=b'.xs)(he:b.e=b'.e):qb4 a b k=qb4 a b' k:=by
 unfold qb4 qcg
 rw [hs,hn,hx,he]
theorem q0x(w:World)(k:Int):∃ U,w.alloc (.cells #[.int .i64 k] 3)=U/\U.heap[w.heap.size]? = some (.cells #[.int .i64 k] 3 (0,0))/\Below w.heap.size w U/\w.heap.size < U.heap.size :=
 ⟨_,rfl,heap_alloc_last _ _,(Below.refl _ w).alloc (Nat.le_refl _) _,by simp⟩
theorem q0y(w:World)(h:Bool)(mn mx:Int):∃ U,w.alloc (.cells #[.bool h,.int .i64 mn,.int .i64 mx] 28)=U/\U.heap[w.heap.size]? = some (.cells #[.bool h,.int .i64 mn,.int .i64 mx] 28 (0,0))/\Below w.heap.size w U/\w.heap.size < U.heap.size :=
 ⟨_,rfl,heap_alloc_last _ _,(Below.refl _ w).alloc (Nat.le_refl _) _,by simp⟩
theorem q0w(w:World)(A:Option Addr)(n c:Nat):∃ U,w.alloc (.cells #[.slice A n c] 22)=U/\U.heap[w.heap.size]? = some (.cells #[.slice A n c] 22 (0,0))/\Below w.heap.size w U/\w.heap.size < U.heap.size :=
 ⟨_,rfl,heap_alloc_last _ _,(Below.refl _ w).alloc (Nat.le_refl _) _,by simp⟩
theorem qru(w:World)(c:Dv)(hR:qbr w 0 w.heap.size c):Calls Tryz.prog 36 #[.agg #[.bool c.s,.slice c.A c.n c.c,.int .i64 c.e]] w (qwn 70 w (qeb c)):=by
 obtain⟨w1,hw,bQ,j1,S1⟩:=qdc w c
 go_enter Tryz.func36,Tryz.ntmps36
 go_wp2
 go_ret
 exact⟨_,rfl,⟨_,rfl,fun w' hb=>qsz w' w.heap.size (Nat.lt_of_lt_of_le S1 hb.size) c ((hb.block _ S1).trans bQ) (ql1 (ql1 hR j1) hb) _ _ _ rfl⟩,j1⟩
theorem qt9(w:World)(h:Bool)(mn mx:Int)(hmn:-9223372036854775808<=mn/\mn<=9223372036854775807)(hmx:-9223372036854775808<=mx/\mx<=9223372036854775807):Calls Tryz.prog 39 #[.agg #[.bool h,.int .i64 mn,.int .i64 mx]] w (qwn 77 w (qjj h mn mx)):=by
 obtain⟨w1,hw,bQ,j1,S1⟩:=q0y w h mn mx
 go_enter Tryz.func39,Tryz.ntmps39
 go_wp2
 go_ret
 exact⟨_,rfl,⟨_,rfl,fun w' hb=>qvn w' w.heap.size (Nat.lt_of_lt_of_le S1 hb.size) h mn mx ((hb.block _ S1).trans bQ) hmn hmx _ _ _ rfl⟩,j1⟩
theorem qrt(w:World)(A:Option Addr)(n c:Nat)(xs:List Int)(hI:qae w 0 w.heap.size .u32 A n xs)(hT:Tab w)(hc:Least.checkCode xs=0):Calls Tryz.prog 40 #[.slice A n c] w (qwn 79 w (qe2 xs)):=by
 obtain⟨w1,hw,bQ,j1,S1⟩:=q0w w A n c
 go_enter Tryz.func40,Tryz.ntmps40
 go_wp2
 go_ret
 exact⟨_,rfl,⟨_,rfl,fun w' hb=>qsg w' w.heap.size (Nat.lt_of_lt_of_le S1 hb.size) A n c xs ((hb.block _ S1).trans bQ) (qao (qao hI j1) hb) (qbs (qbs hT j1) hb) hc _ _ _ rfl⟩,j1⟩
theorem qfj(w:World)(a b:Dv)(k:Int)(hA:qbr w 0 w.heap.size a)(hB:qbr w 0 w.heap.size b):Calls Tryz.prog 37 #[.agg #[.bool a.s,.slice a.A a.n a.c,.int .i64 a.e],.agg #[.bool b.s,.slice b.A b.n b.c,.int .i64 b.e],.int .i64 k] w (qwn 74 w (qb4 a b k)):=by
 obtain⟨w1,hw1,bA,j1,S1⟩:=qdc w a
 obtain⟨w2,hw2,bB,j2,S2⟩:=qdc w1 b
 obtain⟨w3,hw3,bK,j3,S3⟩:=q0x w2 k
 have s1:=j1.size
 have s2:=j2.size
 have s3:=j3.size
 have z1:w1.heap.size=w.heap.size+1:=by rw [<-hw1]; simp
 have z2:w2.heap.size=w.heap.size+1+1:=by rw [<-hw2]; simp [z1]
 subst hw1 hw2
 have j:Below w.heap.size w w3:=(j1.trans (j2.mono s1)).trans (j3.mono (by omega))
 rw [z1] at bB S2
 rw [z2] at bK S3
 go_enter Tryz.func37,Tryz.ntmps37
 go_wp2
 go_ret
 refine⟨_,rfl,⟨_,rfl,fun w' hb=>?_⟩,j⟩
 have hs:=hb.size
 have c1:=lz (lz j2 j3) hb
 have c2:=lz j3 hb
 exact qrx w' w.heap.size (w.heap.size+1) (w.heap.size+1+1) (by omega) (by omega) (by omega) a b k ((c1.block _ S1).trans bA) ((c2.block _ S2).trans bB) ((hb.block _ S3).trans bK) (ql1 hA (lz j hb)) (ql1 hB (lz j hb)) _ _ _ rfl
theorem qt8(w:World)(m:Mv)(hR:MRows w 0 w.heap.size m)(k:Int):Calls Tryz.prog 38 #[.agg #[.bool m.S.s,.slice m.S.A m.S.n m.S.c,.int .i64 m.S.e,.bool m.W.s,.slice m.W.A m.W.n m.W.c,.int .i64 m.W.e,.bool m.C.s,.slice m.C.A m.C.n m.C.c,.int .i64 m.C.e,.bool m.A.s,.slice m.A.A m.A.n m.A.c,.int .i64 m.A.e],.int .i64 k] w (qwn 74 w (qf3 m k)):=by
 obtain⟨w1,hw,bM,j1,S1⟩:=qe7 w m
 obtain⟨a,ha⟩:∃ a,qcg m.W=a:=⟨_,rfl⟩
 have HA:=Lib.hid ha
 clear ha
 go_enter Tryz.func38,Tryz.ntmps38
 obtain⟨⟨q10,q11,q12,q13,q14,q15,q16,q17,q18,q19,q110,q111⟩,q1f⟩:=qaz.cells bM
 go_wp2_with fail
 refine (qj1 w1 m.W a HA.out).mono ?_
 rintro e' v2 ⟨rfl,j3⟩
 clear q10 q11 q12 q13 q14 q15 q16 q17 q18 q19 q110 q111 q1f
 try clear hw
 cases a
 . obtain⟨⟨q40,q41,q42,q43,q44,q45,q46,q47,q48,q49,q410,q411⟩,q4f⟩:=qaz.cells (qaa bM j3 S1)
   go_wp2_with fail
   refine (qfj v2 m.A m.W k (MRows.on hR (lz j1 j3)).A (MRows.on hR (lz j1 j3)).W).mono ?_
   rintro e' v5 ⟨V,rfl,TV,j6⟩
   clear q40 q41 q42 q43 q44 q45 q46 q47 q48 q49 q410 q411 q4f
   try clear hw
   go_wp2
   go_ret
   have e1:qb4 m.A m.W k=qf3 m k:=by unfold qf3 qb4; rw [if_pos HA.out,if_pos HA.out]
   rw [e1] at TV
   exact⟨V,rfl,TV,(lz j1 (lz j3 j6))⟩
 skip
 go_wp2_with fail
 try clear hw
 refine zB (qan v2) [] 6 ?_
 have j8:Below v2.heap.size v2 v2.drew:=(Below.refl _ _).drew
 generalize v2.drew=v7 at *
 refine zM 2 [0,3] ?_ ?_
 have kpy9:qan v2 v7:=fun p hp=>Below.block j8 p hp
 refine zD 1 (.agg #[.bool m.A.s,.slice m.A.A m.A.n m.A.c,.int .i64 m.A.e]) rfl ?y9 ?z10
 case y9 =>
  intro w' h1
  obtain⟨⟨k0,k1,k2,k3,k4,k5,k6,k7,k8,k9,k10,k11⟩,kf⟩:=qaz.cells ((h1 _ (Nat.lt_of_lt_of_le S1 (Below.size j3))).trans (qaa bM j3 S1))
  go_simp
 try simp only [Act.put,zp]
 refine zK 2 rfl fun K hK=>?_
 go_simp
 go_at_call 19
 refine (qk6 v7 1 (by decide) (by decide) false 1 rfl rfl).mono ?_
 rintro e' v11 ⟨A1,n1,rfl,j12,I1⟩
 refine hK _ _ ⟨fun _ _=>fun p hp=>Below.block (lz j8 j12) p hp,?_⟩
 clear hK K
 try simp only [Act.put,zp]
 have I1':=I1.more (Nat.zero_le _) (Nat.le_refl _)
 refine zK 4 rfl fun K hK=>?_
 go_simp
 go_at_call 37
 refine (qfj v11 m.A ⟨false,A1,n1,n1,0,qaf 4294967296 1⟩ k (MRows.on hR (lz j1 (lz j3 (lz j8 j12)))).A I1').mono ?_
 rintro e' v13 ⟨V,rfl,TV,j14⟩
 refine hK _ _ ⟨fun _ _=>fun p hp=>Below.block (lz j8 (lz j12 j14)) p hp,?_⟩
 clear hK K
 try simp only [Act.put,zp]
 refine zM 1 [5] ?_ ?_
 refine qa2 (by kernel_rfl) ?_ _
 have e0:n1=1:=by
  have:=I1.len
  rw [qvy _ (by decide) (by decide)] at this
  simpa using this.symm
 have e1:qb4 m.A ⟨false,A1,n1,n1,0,qaf 4294967296 1⟩ k=qf3 m k:=by
  unfold qf3
  rw [if_neg (by rw [HA.out]; simp)]
  exact quc rfl e0 rfl rfl
 rw [e1] at TV
 go_wp2
 go_ret
 exact⟨V,rfl,TV,(lz j1 (lz j3 (lz j8 (lz j12 j14))))⟩
end Ma
end Go.Proofs.YtmbppgjhdcmckaaGreatDoor