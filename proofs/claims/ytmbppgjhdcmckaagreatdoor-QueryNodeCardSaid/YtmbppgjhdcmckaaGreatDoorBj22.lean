/- past.Same: a walk (printed by a program of mine). -/
import Derived.Test.YtmbppgjhdcmckaaGreatDoorBj21
set_option maxHeartbeats 102400000
set_option maxRecDepth 100000
namespace Go.Proofs.YtmbppgjhdcmckaaGreatDoor
open Go.RowKit
namespace Ma
open Dp Dy
theorem qs8(w:World)(f h:Fv)(hA:PRows w 0 w.heap.size f.P)(hB:PRows w 0 w.heap.size h.P)(k:Bool)(hk:(decide (f.e=h.e) && qbf f.P h.P)=k) :
  Calls Tryz.prog 166 #[.agg #[.int .i64 f.e,.bool f.P.M.S.s,.slice f.P.M.S.A f.P.M.S.n f.P.M.S.c,.int .i64 f.P.M.S.e,.bool f.P.M.W.s,.slice f.P.M.W.A f.P.M.W.n f.P.M.W.c,.int .i64 f.P.M.W.e,.bool f.P.M.C.s,.slice f.P.M.C.A f.P.M.C.n f.P.M.C.c,.int .i64 f.P.M.C.e,.bool f.P.M.A.s,.slice f.P.M.A.A f.P.M.A.n f.P.M.A.c,.int .i64 f.P.M.A.e,.bool f.P.h,.int .i64 f.P.mn,.int .i64 f.P.mx,.slice f.P.A f.P.n f.P.c],.agg #[.int .i64 h.e,.bool h.P.M.S.s,.slice h.P.M.S.A h.P.M.S.n h.P.M.S.c,.int .i64 h.P.M.S.e,.bool h.P.M.W.s,.slice h.P.M.W.A h.P.M.W.n h.P.M.W.c,.int .i64 h.P.M.W.e,.bool h.P.M.C.s,.slice h.P.M.C.A h.P.M.C.n h.P.M.C.c,.int .i64 h.P.M.C.e,.bool h.P.M.A.s,.slice h.P.M.A.A h.P.M.A.n h.P.M.A.c,.int .i64 h.P.M.A.e,.bool h.P.h,.int .i64 h.P.mn,.int .i64 h.P.mx,.slice h.P.A h.P.n h.P.c]] w fun e w'=>e=.returned (.bool k)/\Below w.heap.size w w':=by
 generalize hw:(w.alloc (.cells #[.int .i64 f.e,.bool f.P.M.S.s,.slice f.P.M.S.A f.P.M.S.n f.P.M.S.c,.int .i64 f.P.M.S.e,.bool f.P.M.W.s,.slice f.P.M.W.A f.P.M.W.n f.P.M.W.c,.int .i64 f.P.M.W.e,.bool f.P.M.C.s,.slice f.P.M.C.A f.P.M.C.n f.P.M.C.c,.int .i64 f.P.M.C.e,.bool f.P.M.A.s,.slice f.P.M.A.A f.P.M.A.n f.P.M.A.c,.int .i64 f.P.M.A.e,.bool f.P.h,.int .i64 f.P.mn,.int .i64 f.P.mx,.slice f.P.A f.P.n f.P.c] 115)).alloc (.cells #[.int .i64 h.e,.bool h.P.M.S.s,.slice h.P.M.S.A h.P.M.S.n h.P.M.S.c,.int .i64 h.P.M.S.e,.bool h.P.M.W.s,.slice h.P.M.W.A h.P.M.W.n h.P.M.W.c,.int .i64 h.P.M.W.e,.bool h.P.M.C.s,.slice h.P.M.C.A h.P.M.C.n h.P.M.C.c,.int .i64 h.P.M.C.e,.bool h.P.M.A.s,.slice h.P.M.A.A h.P.M.A.n h.P.M.A.c,.int .i64 h.P.M.A.e,.bool h.P.h,.int .i64 h.P.mn,.int .i64 h.P.mx,.slice h.P.A h.P.n h.P.c] 115)=w1
 obtain⟨bA,bB,j1,lo1,hi1⟩:=qdy w _ _ hw
 replace bA:qkh w1 w.heap.size f:=bA
 replace bB:qkh w1 (w.heap.size+1) h:=bB
 replace j1:Below w.heap.size w w1:=j1
 have S1:w.heap.size < w1.heap.size:=by omega
 have S2:w.heap.size+1 < w1.heap.size:=by omega
 obtain⟨q,hq⟩:∃ q,qbf f.P h.P=q:=⟨_,rfl⟩
 have HQ:=Lib.hid hq
 have HK:=Lib.hid hk
 clear hq hk
 go_enter Tryz.func166,Tryz.ntmps166
 have ka_:=(qkh.cell bA).1.1
 have kb_:=(qkh.cell bB).1.1
 have ra_:w1.rangeAt w.heap.size 1 [.bool f.P.M.S.s,.slice f.P.M.S.A f.P.M.S.n f.P.M.S.c,.int .i64 f.P.M.S.e,.bool f.P.M.W.s,.slice f.P.M.W.A f.P.M.W.n f.P.M.W.c,.int .i64 f.P.M.W.e,.bool f.P.M.C.s,.slice f.P.M.C.A f.P.M.C.n f.P.M.C.c,.int .i64 f.P.M.C.e,.bool f.P.M.A.s,.slice f.P.M.A.A f.P.M.A.n f.P.M.A.c,.int .i64 f.P.M.A.e,.bool f.P.h,.int .i64 f.P.mn,.int .i64 f.P.mx,.slice f.P.A f.P.n f.P.c]:=qkh.part bA
 have rb_:w1.rangeAt (w.heap.size+1) 1 [.bool h.P.M.S.s,.slice h.P.M.S.A h.P.M.S.n h.P.M.S.c,.int .i64 h.P.M.S.e,.bool h.P.M.W.s,.slice h.P.M.W.A h.P.M.W.n h.P.M.W.c,.int .i64 h.P.M.W.e,.bool h.P.M.C.s,.slice h.P.M.C.A h.P.M.C.n h.P.M.C.c,.int .i64 h.P.M.C.e,.bool h.P.M.A.s,.slice h.P.M.A.A h.P.M.A.n h.P.M.A.c,.int .i64 h.P.M.A.e,.bool h.P.h,.int .i64 h.P.mn,.int .i64 h.P.mx,.slice h.P.A h.P.n h.P.c]:=qkh.part bB
 by_cases he:f.e=h.e
 rotate_left
 . have heb:(f.e==h.e)=false:=by simpa using he
   have hk':k=false:=by rw [<-HK.out,decide_eq_false he]; rfl
   subst hk'
   clear HK HQ
   go_wp2
   go_ret
   exact⟨rfl,j1⟩
 skip
 have heb:(f.e==h.e)=true:=by simpa using he
 have hk':k=q:=by rw [<-HK.out,decide_eq_true he,HQ.out]; rfl
 subst hk'
 clear HK he
 go_wp2_with (first
  | (refine wpList_load_midG (by rfl) 30 (.tmp 11) rfl w.heap.size 1 rfl [.bool f.P.M.S.s,.slice f.P.M.S.A f.P.M.S.n f.P.M.S.c,.int .i64 f.P.M.S.e,.bool f.P.M.W.s,.slice f.P.M.W.A f.P.M.W.n f.P.M.W.c,.int .i64 f.P.M.W.e,.bool f.P.M.C.s,.slice f.P.M.C.A f.P.M.C.n f.P.M.C.c,.int .i64 f.P.M.C.e,.bool f.P.M.A.s,.slice f.P.M.A.A f.P.M.A.n f.P.M.A.c,.int .i64 f.P.M.A.e,.bool f.P.h,.int .i64 f.P.mn,.int .i64 f.P.mx,.slice f.P.A f.P.n f.P.c] _ ra_ Tryz.underlying30 rfl (by kernel_rfl) ?_)
  | (refine wpList_load_midG (by rfl) 30 (.tmp 13) rfl (w.heap.size+1) 1 rfl [.bool h.P.M.S.s,.slice h.P.M.S.A h.P.M.S.n h.P.M.S.c,.int .i64 h.P.M.S.e,.bool h.P.M.W.s,.slice h.P.M.W.A h.P.M.W.n h.P.M.W.c,.int .i64 h.P.M.W.e,.bool h.P.M.C.s,.slice h.P.M.C.A h.P.M.C.n h.P.M.C.c,.int .i64 h.P.M.C.e,.bool h.P.M.A.s,.slice h.P.M.A.A h.P.M.A.n h.P.M.A.c,.int .i64 h.P.M.A.e,.bool h.P.h,.int .i64 h.P.mn,.int .i64 h.P.mx,.slice h.P.A h.P.n h.P.c] _ rb_ Tryz.underlying30 rfl (by kernel_rfl) ?_))
 refine (SamePart_any w1 f.P h.P (PRows.on hA j1) (PRows.on hB j1) k HQ.out).mono ?_
 rintro e' v1 ⟨rfl,j2⟩
 try clear hw
 clear ra_ rb_ ka_ kb_
 cases k
 . go_wp2
   go_ret
   exact⟨rfl,(lz j1 j2)⟩
 skip
 go_wp2
 go_ret
 exact⟨rfl,(lz j1 j2)⟩
theorem qki(w:World)(A A':Option Addr)(n c n' c':Nat)(fs gs:List Fv)(hL:LFs w 0 w.heap.size A n fs)(hL':LFs w 0 w.heap.size A' n' gs)(r:Bool)(hr:qcp fs gs=r) :
  Calls Tryz.prog 165 #[.slice A n c,.slice A' n' c',.func (.func 166) #[] #[]] w fun e w'=>e=.returned (.bool r)/\Below w.heap.size w w':=by
 have HL:=Lib.hid hL.len
 have HL':=Lib.hid hL'.len
 have HR:=Lib.hid hr
 have hbig:=hL.big
 have hbig':=hL'.big
 clear hr
 go_enter Tryz.func165,Tryz.ntmps165
 by_cases hnn:n=n'
 rotate_left
 . have hr':r=false:=by rw [<-HR.out]; exact qmr (by rw [HL.out,HL'.out]; exact hnn)
   subst hr'
   have hnb:((n:Int) != (n':Int))=true:=by
    have:(n:Int)≠(n':Int):=by omega
    simpa using this
   clear HR
   go_wp2
   go_ret
   exact⟨rfl,Below.refl _ _⟩
 subst hnn
 go_wp2
 go_loopw [6,7,8,9,17] (fun ev _ _ _ iv wr=>∃ i:Nat,iv=.int .i64 i/\ev=.bool false/\i<=n/\Below w.heap.size w wr/\Hid (∀ j (h1:j < fs.length) (h2:j < gs.length),j < i->fs[j].e=gs[j].e/\qbf fs[j].P gs[j].P=true)) (fun _ _ _ _ iv _=>n-(intOf iv).toNat)
 case atStart=>exact⟨0,rfl,rfl,Nat.zero_le _,Below.refl _ _,Lib.hid fun _ _ _ h=>absurd h (Nat.not_lt_zero _)⟩
 obtain⟨i,rfl,rfl,hi1,hb,hall⟩:=hrel
 by_cases hi:i < n
 rotate_left
 . have hr':r=true:=by
     rw [<-HR.out]
     exact qi1 (HL.out.trans HL'.out.symm) fun j h1 h2=>hall.out j h1 h2 (by have:=HL.out; omega)
   subst hr'
   go_wp2
   go_ret
   exact⟨rfl,hb⟩
 have hi2:i < fs.length:=by rw [HL.out]; exact hi
 have hi3:i < gs.length:=by rw [HL'.out]; exact hi
 obtain⟨b,off,hA,hb1,hb2,hc⟩:=(hL.below hb (Nat.le_refl _)).row (by omega)
 obtain⟨b',off',hA',hb1',hb2',hc'⟩:=(hL'.below hb (Nat.le_refl _)).row (by omega)
 have hci:=Lib.hid (hc i hi2)
 have hdi:=Lib.hid (hc' i hi3)
 have hri:=(hL.below hb (Nat.le_refl _)).rows i hi2
 have hsi:=(hL'.below hb (Nat.le_refl _)).rows i hi3
 obtain⟨f,hf⟩:∃ f,fs[i]=f:=⟨_,rfl⟩
 obtain⟨h,hh⟩:∃ f,gs[i]=f:=⟨_,rfl⟩
 rw [hf] at hci hri
 rw [hh] at hdi hsi
 have HF:=Lib.hid hf
 have HH:=Lib.hid hh
 have hwrj:IntKind.i64.wrap ((i:Int)+1)=((i+1:Nat):Int):=by rw [IntKind.wrap_i64]; omega
 clear hc hc' hf hh
 subst hA hA'
 have lw:=hb.size
 obtain⟨u1,hu1,f1,j1,s1⟩:=qmc wr f
 have rg:=hci.out.range
 go_upto_region 6 with (first
  | (refine wpList_load_mid rfl 115 (.tmp 20) rfl b (off+i*17) rfl [.int .i64 f.e,.bool f.P.M.S.s,.slice f.P.M.S.A f.P.M.S.n f.P.M.S.c,.int .i64 f.P.M.S.e,.bool f.P.M.W.s,.slice f.P.M.W.A f.P.M.W.n f.P.M.W.c,.int .i64 f.P.M.W.e,.bool f.P.M.C.s,.slice f.P.M.C.A f.P.M.C.n f.P.M.C.c,.int .i64 f.P.M.C.e,.bool f.P.M.A.s,.slice f.P.M.A.A f.P.M.A.n f.P.M.A.c,.int .i64 f.P.M.A.e,.bool f.P.h,.int .i64 f.P.mn,.int .i64 f.P.mx,.slice f.P.A f.P.n f.P.c] _ rg Tryz.underlying115 rfl (by kernel_rfl) ?_)
  | (refine qc6 rfl 115 (.tmp 8) (.tmp 21) rfl _ #[.int .i64 f.e,.bool f.P.M.S.s,.slice f.P.M.S.A f.P.M.S.n f.P.M.S.c,.int .i64 f.P.M.S.e,.bool f.P.M.W.s,.slice f.P.M.W.A f.P.M.W.n f.P.M.W.c,.int .i64 f.P.M.W.e,.bool f.P.M.C.s,.slice f.P.M.C.A f.P.M.C.n f.P.M.C.c,.int .i64 f.P.M.C.e,.bool f.P.M.A.s,.slice f.P.M.A.A f.P.M.A.n f.P.M.A.c,.int .i64 f.P.M.A.e,.bool f.P.h,.int .i64 f.P.mn,.int .i64 f.P.mx,.slice f.P.A f.P.n f.P.c] rfl rfl (by kernel_rfl) rfl (all_oneCell_toArray (qeo f)) ?_))
 try rw [hu1]
 try clear hu1
 obtain⟨u2,hu2,f2,j2,s2⟩:=qmc u1 h
 have rg2:=(hdi.out.blk (j1.block b' (by omega))).range
 go_upto_region 7 with (first
  | (refine wpList_load_mid rfl 115 (.tmp 24) rfl b' (off'+i*17) rfl [.int .i64 h.e,.bool h.P.M.S.s,.slice h.P.M.S.A h.P.M.S.n h.P.M.S.c,.int .i64 h.P.M.S.e,.bool h.P.M.W.s,.slice h.P.M.W.A h.P.M.W.n h.P.M.W.c,.int .i64 h.P.M.W.e,.bool h.P.M.C.s,.slice h.P.M.C.A h.P.M.C.n h.P.M.C.c,.int .i64 h.P.M.C.e,.bool h.P.M.A.s,.slice h.P.M.A.A h.P.M.A.n h.P.M.A.c,.int .i64 h.P.M.A.e,.bool h.P.h,.int .i64 h.P.mn,.int .i64 h.P.mx,.slice h.P.A h.P.n h.P.c] _ rg2 Tryz.underlying115 rfl (by kernel_rfl) ?_)
  | (refine qc6 rfl 115 (.tmp 9) (.tmp 25) rfl _ #[.int .i64 h.e,.bool h.P.M.S.s,.slice h.P.M.S.A h.P.M.S.n h.P.M.S.c,.int .i64 h.P.M.S.e,.bool h.P.M.W.s,.slice h.P.M.W.A h.P.M.W.n h.P.M.W.c,.int .i64 h.P.M.W.e,.bool h.P.M.C.s,.slice h.P.M.C.A h.P.M.C.n h.P.M.C.c,.int .i64 h.P.M.C.e,.bool h.P.M.A.s,.slice h.P.M.A.A h.P.M.A.n h.P.M.A.c,.int .i64 h.P.M.A.e,.bool h.P.h,.int .i64 h.P.mn,.int .i64 h.P.mx,.slice h.P.A h.P.n h.P.c] rfl rfl (by kernel_rfl) rfl (all_oneCell_toArray (qeo h)) ?_))
 try rw [hu2]
 try clear hu2
 clear rg rg2
 have f1':qkh u2 wr.heap.size f:=(j2.block _ s1).trans f1
 have rg:=f1'.range
 have rg2:=f2.range
 have j12:=lz j1 j2
 obtain⟨q,hq⟩:∃ q,(decide (f.e=h.e) && qbf f.P h.P)=q:=⟨_,rfl⟩
 have HQ:=Lib.hid hq
 clear hq
 go_wp2_with (first
  | (refine wpList_load_mid rfl 115 (.tmp 8) rfl wr.heap.size 0 rfl [.int .i64 f.e,.bool f.P.M.S.s,.slice f.P.M.S.A f.P.M.S.n f.P.M.S.c,.int .i64 f.P.M.S.e,.bool f.P.M.W.s,.slice f.P.M.W.A f.P.M.W.n f.P.M.W.c,.int .i64 f.P.M.W.e,.bool f.P.M.C.s,.slice f.P.M.C.A f.P.M.C.n f.P.M.C.c,.int .i64 f.P.M.C.e,.bool f.P.M.A.s,.slice f.P.M.A.A f.P.M.A.n f.P.M.A.c,.int .i64 f.P.M.A.e,.bool f.P.h,.int .i64 f.P.mn,.int .i64 f.P.mx,.slice f.P.A f.P.n f.P.c] _ rg Tryz.underlying115 rfl (by kernel_rfl) ?_)
  | (refine wpList_load_mid rfl 115 (.tmp 9) rfl u1.heap.size 0 rfl [.int .i64 h.e,.bool h.P.M.S.s,.slice h.P.M.S.A h.P.M.S.n h.P.M.S.c,.int .i64 h.P.M.S.e,.bool h.P.M.W.s,.slice h.P.M.W.A h.P.M.W.n h.P.M.W.c,.int .i64 h.P.M.W.e,.bool h.P.M.C.s,.slice h.P.M.C.A h.P.M.C.n h.P.M.C.c,.int .i64 h.P.M.C.e,.bool h.P.M.A.s,.slice h.P.M.A.A h.P.M.A.n h.P.M.A.c,.int .i64 h.P.M.A.e,.bool h.P.h,.int .i64 h.P.mn,.int .i64 h.P.mx,.slice h.P.A h.P.n h.P.c] _ rg2 Tryz.underlying115 rfl (by kernel_rfl) ?_))
 refine (qs8 u2 f h ((hri.more (Nat.le_refl _) lw).on j12) ((hsi.more (Nat.le_refl _) lw).on j12) q HQ.out).mono ?_
 rintro e' u3 ⟨rfl,j3⟩
 clear rg rg2
 have hb5:=hb.trans ((lz j12 j3).mono lw)
 cases q
 . have hr':r=false:=by
     rw [<-HR.out]
     refine qlc hi2 hi3 ?_
     rw [HF.out,HH.out]
     intro k
     have:=HQ.out
     rw [decide_eq_true k.1,k.2] at this
     cases this
   subst hr'
   go_wp2
   go_ret
   exact⟨rfl,hb5⟩
 have hall2:Hid (∀ j (h1:j < fs.length) (h2:j < gs.length),j < i+1->fs[j].e=gs[j].e/\qbf fs[j].P gs[j].P=true):=Lib.hid fun j h1 h2 h3=>by
  by_cases e:j=i
  . subst e
    rw [HF.out,HH.out]
    have:=HQ.out
    rw [Bool.and_eq_true,decide_eq_true_eq] at this
    exact this
  exact hall.out j h1 h2 (by omega)
 go_wp2
 go_roundw
 case rel=>exact⟨i+1,by first | rfl | (congr 1; omega) | go_num,rfl,by omega,hb5,hall2⟩
 case measure=>first | (simp [intOf]; done) | (simp [intOf]; omega)
theorem SameF_any(w:World)(A A':Option Addr)(n c n' c':Nat)(fs gs:List Fv)(hL:LFs w 0 w.heap.size A n fs)(hL':LFs w 0 w.heap.size A' n' gs)(r:Bool)(hr:qcp fs gs=r) :
  Calls Tryz.prog 112 #[.slice A n c,.slice A' n' c'] w fun e w'=>e=.returned (.bool r)/\Below w.heap.size w w':=by
 go_enter Tryz.func112,Tryz.ntmps112
 go_wp2_with fail
 refine (qki w A A' n c n' c' fs gs hL hL' r hr).mono ?_
 rintro e' v1 ⟨rfl,j1⟩
 go_wp2
 go_ret
 exact⟨rfl,j1⟩
theorem qdg(w:World)(p:Pv)(hR:PRows w 0 w.heap.size p)(hn:∀ x,x < 4->(p.M.get x).n<=1000000)(hn2:p.n<=1000000) :
  Calls Tryz.prog 9 #[.agg #[.bool p.M.S.s,.slice p.M.S.A p.M.S.n p.M.S.c,.int .i64 p.M.S.e,.bool p.M.W.s,.slice p.M.W.A p.M.W.n p.M.W.c,.int .i64 p.M.W.e,.bool p.M.C.s,.slice p.M.C.A p.M.C.n p.M.C.c,.int .i64 p.M.C.e,.bool p.M.A.s,.slice p.M.A.A p.M.A.n p.M.A.c,.int .i64 p.M.A.e,.bool p.h,.int .i64 p.mn,.int .i64 p.mx,.slice p.A p.n p.c]] w fun e w'=>∃ q:Pv,e=.returned (.agg #[.bool q.M.S.s,.slice q.M.S.A q.M.S.n q.M.S.c,.int .i64 q.M.S.e,.bool q.M.W.s,.slice q.M.W.A q.M.W.n q.M.W.c,.int .i64 q.M.W.e,.bool q.M.C.s,.slice q.M.C.A q.M.C.n q.M.C.c,.int .i64 q.M.C.e,.bool q.M.A.s,.slice q.M.A.A q.M.A.n q.M.A.c,.int .i64 q.M.A.e,.bool q.h,.int .i64 q.mn,.int .i64 q.mx,.slice q.A q.n q.c])/\qbv p q/\Below w.heap.size w w'/\PRows w' w.heap.size w'.heap.size q:=by
 generalize hw:(w.alloc (.cells #[.bool p.M.S.s,.slice p.M.S.A p.M.S.n p.M.S.c,.int .i64 p.M.S.e,.bool p.M.W.s,.slice p.M.W.A p.M.W.n p.M.W.c,.int .i64 p.M.W.e,.bool p.M.C.s,.slice p.M.C.A p.M.C.n p.M.C.c,.int .i64 p.M.C.e,.bool p.M.A.s,.slice p.M.A.A p.M.A.n p.M.A.c,.int .i64 p.M.A.e,.bool p.h,.int .i64 p.mn,.int .i64 p.mx,.slice p.A p.n p.c] 30)).alloc (.cells #[.bool false,.slice none 0 0,.int .i64 0,.bool false,.slice none 0 0,.int .i64 0,.bool false,.slice none 0 0,.int .i64 0,.bool false,.slice none 0 0,.int .i64 0,.bool false,.int .i64 0,.int .i64 0,.slice none 0 0] 30)=w1
 obtain⟨bP,bZ,j1,lo1,hi1⟩:=qdy w _ _ hw
 replace bP:PBox w1 w.heap.size p:=bP
 replace bZ:PBox w1 (w.heap.size+1) ZPv:=bZ
 replace j1:Below w.heap.size w w1:=j1
 have S1:w.heap.size < w1.heap.size:=by omega
 have S2:w.heap.size+1 < w1.heap.size:=by omega
 have NN:=Lib.hid hn
 clear hn
 obtain⟨i0,hi0,hz0,hz1,hz2⟩:=info_parts Pa.infoU32
 go_enter Tryz.func9,Tryz.ntmps9
 have rg_:w1.rangeAt w.heap.size 0 [.bool p.M.S.s,.slice p.M.S.A p.M.S.n p.M.S.c,.int .i64 p.M.S.e,.bool p.M.W.s,.slice p.M.W.A p.M.W.n p.M.W.c,.int .i64 p.M.W.e,.bool p.M.C.s,.slice p.M.C.A p.M.C.n p.M.C.c,.int .i64 p.M.C.e,.bool p.M.A.s,.slice p.M.A.A p.M.A.n p.M.A.c,.int .i64 p.M.A.e]:=PBox.mass bP
 go_wp2_with (first
  | (refine wpList_load_mid rfl 26 (.tmp 3) rfl w.heap.size 0 rfl [.bool p.M.S.s,.slice p.M.S.A p.M.S.n p.M.S.c,.int .i64 p.M.S.e,.bool p.M.W.s,.slice p.M.W.A p.M.W.n p.M.W.c,.int .i64 p.M.W.e,.bool p.M.C.s,.slice p.M.C.A p.M.C.n p.M.C.c,.int .i64 p.M.C.e,.bool p.M.A.s,.slice p.M.A.A p.M.A.n p.M.A.c,.int .i64 p.M.A.e] _ rg_ Tryz.underlying26 rfl (by kernel_rfl) ?_))
 refine (qs9 w1 p.M (PRows.on hR j1).M NN.out).mono ?_
 rintro e' v1 ⟨m',rfl,tm,j2,Rm⟩
 try clear hw
 clear rg_
 replace tm:=Lib.hid tm
 have hP:=(qaa bP j2 S1)
 have hZ:=(qaa bZ j2 S2)
 have hL:=(hR.below (lz j1 j2) (Nat.le_refl _)).L
 have b0:=(lz j1 j2)
 have sV:=Below.size j2
 have sW:=Below.size (lz j1 j2)
 obtain⟨U,hU,hP1,hbU,hfU,lU,lU'⟩:=qna hP m'
 have th_:v1.there w.heap.size 0 12:=fun j hj=>PBox.there hP j (Nat.lt_of_lt_of_le hj (by decide))
 replace hU:v1.setCells w.heap.size 0 (#[.bool m'.S.s,.slice m'.S.A m'.S.n m'.S.c,.int .i64 m'.S.e,.bool m'.W.s,.slice m'.W.A m'.W.n m'.W.c,.int .i64 m'.W.e,.bool m'.C.s,.slice m'.C.A m'.C.n m'.C.c,.int .i64 m'.C.e,.bool m'.A.s,.slice m'.A.A m'.A.n m'.A.c,.int .i64 m'.A.e]:Array Value).toList=U:=hU
 have HU:=Lib.hid hU
 clear hU
 go_upto_region 2 with (first
  | (refine wpList_store_mid rfl 26 (.tmp 6) (.tmp 5) rfl w.heap.size 0 #[.bool m'.S.s,.slice m'.S.A m'.S.n m'.S.c,.int .i64 m'.S.e,.bool m'.W.s,.slice m'.W.A m'.W.n m'.W.c,.int .i64 m'.W.e,.bool m'.C.s,.slice m'.C.A m'.C.n m'.C.c,.int .i64 m'.C.e,.bool m'.A.s,.slice m'.A.A m'.A.n m'.A.c,.int .i64 m'.A.e] rfl rfl th_ (by kernel_rfl) (all_oneCell_toArray (qbu m')) ?_; rw [HU.out]))
 clear th_ HU
 have b1:=hbU _ _ b0 (Nat.le_refl _)
 have hZ1:=(hfU _ (by omega)).trans hZ
 have hL1:=qaq hL (w':=U) (fun b h1 h2=>hfU b (by omega))
 have Rm1:=qgg Rm (w':=U) (fun b h1 h2=>hfU b (by omega))
 clear hP hZ hL b0 Rm hbU hfU
 obtain⟨M1,hM1⟩:∃ q:Pv,q={ p with M:=m' }:=⟨_,rfl⟩
 have hPM:PBox U w.heap.size M1:=by rw [hM1]; exact hP1
 have e1:M1.A=p.A/\M1.n=p.n/\M1.c=p.c:=by rw [hM1]; exact⟨rfl,rfl,rfl⟩
 have HM1:=Lib.hid hM1
 clear hM1 hP1
 obtain⟨W2,hW2⟩:∃ X,U.alloc (.cells #[] 48)=X:=⟨_,rfl⟩
 have bW2:Below U.heap.size U W2:=by rw [<-hW2]; exact (Below.refl _ _).alloc (Nat.le_refl _) _
 have hPW:PBox W2 w.heap.size M1:=(bW2.block _ (by omega)).trans hPM
 have hown0:W2.ownsRow U.heap.size 48 1 (.slice (some ⟨U.heap.size,0,none⟩) 0 0) 0 []:=by rw [<-hW2]; exact Pa.own_emptyg U _ U.heap.size _ 1 rfl (Nat.le_refl _)
 have sW2:=bW2.size
 obtain⟨⟨k0,k1,k2,k3,k4,k5,k6,k7,k8,k9,k10,k11,k12,k13,k14,k15⟩,kf⟩:=PBox.cell hPW
 rw [e1.1,e1.2.1,e1.2.2] at k15
 have hbig:=hL1.big
 have hwf:=Lib.hid hL1.wf
 have hraw:=(hL1.below bW2 (by omega)).raw
 go_wp2_with (first
  | (at_builtin; go_loud (refine qag _ rfl (.tmp 7) (.tmp 9) 22 rfl U.heap.size 48 i0 _ 1 4 Tryz.underlying22 hi0 hz0 hz1 hz2 rfl (by decide) _ _ _ rfl hown0 _ _ _ p.n _ _ rfl hraw ?c1 ?c2 ?c3 ?c4 ?_)))
 case c1=>exact Pa.u32_one _
 case c2=>unfold maxLen; omega
 case c3=>omega
 case c4=>omega
 intro A2 c2 w3 hown hgrow _
 (try simp at hown)
 have hb3:Below U.heap.size U w3:=bW2.grown hgrow (by omega) (fun q hq=>by simp [Value.ownBlock] at hq; omega)
 have hD:qae w3 U.heap.size w3.heap.size .u32 A2 p.n p.xs:=qae.of_own hown hwf.out hbig
 have s3:=hb3.size
 have hP3:PBox w3 w.heap.size M1:=(hb3.block _ (by omega)).trans hPM
 have hZ3:=(hb3.block _ (by omega)).trans hZ1
 have Rm3:=Rm1.below hb3 (by omega)
 have b3:=b1.trans (hb3.mono (by omega))
 clear hgrow hown hb3 hPM hPW hown0 hraw hZ1 Rm1 b1 bW2 k0 k1 k2 k3 k4 k5 k6 k7 k8 k9 k10 k11 k12 k13 k14 k15 kf
 try clear hW2
 obtain⟨U2,hU2,hP4,hbU,hfU,l2,l2'⟩:=qm0 hP3 A2 p.n c2 p.xs
 obtain⟨Q,hQe⟩:∃ q:Pv,q={ M1 with A:=A2,n:=p.n,c:=c2,xs:=p.xs }:=⟨_,rfl⟩
 have hPQ:PBox U2 w.heap.size Q:=by rw [hQe]; exact hP4
 have HQ:=Lib.hid hQe
 obtain⟨⟨k0,k1,k2,k3,k4,k5,k6,k7,k8,k9,k10,k11,k12,k13,k14,k15⟩,kf⟩:=PBox.cell hP3
 go_upto_region 3 with fail
 try rw [hU2]
 clear hU2 hQe hP4 k0 k1 k2 k3 k4 k5 k6 k7 k8 k9 k10 k11 k12 k13 k14 k15 kf hP3
 have b4:=hbU _ _ b3 (Nat.le_refl _)
 have hZ4:=(hfU _ (by omega)).trans hZ3
 have Rm4:=qgg Rm3 (w':=U2) (fun b h1 h2=>hfU b (by omega))
 have hD4:=qaq hD (w':=U2) (fun b h1 h2=>hfU b (by omega))
 clear b3 hZ3 Rm3 hD hbU hfU
 have tw:qbv p Q:=by
  rw [HQ.out,HM1.out]
  exact⟨tm.out,rfl,rfl,rfl,rfl,rfl⟩
 have RQ:PRows U2 (w.heap.size+2) U2.heap.size Q:=by
  rw [HQ.out,HM1.out]
  exact⟨Rm4.more (by omega) (by omega),hD4.more (by omega) (by omega)⟩
 clear Rm4 hD4 HM1 HQ
 obtain⟨U3,hU3,hZ5,hbU,hfU,l3,l3'⟩:=qax hZ4 Q
 have th_:=PBox.there hZ4
 have rg_:U2.rangeAt w.heap.size 0 [.bool Q.M.S.s,.slice Q.M.S.A Q.M.S.n Q.M.S.c,.int .i64 Q.M.S.e,.bool Q.M.W.s,.slice Q.M.W.A Q.M.W.n Q.M.W.c,.int .i64 Q.M.W.e,.bool Q.M.C.s,.slice Q.M.C.A Q.M.C.n Q.M.C.c,.int .i64 Q.M.C.e,.bool Q.M.A.s,.slice Q.M.A.A Q.M.A.n Q.M.A.c,.int .i64 Q.M.A.e,.bool Q.h,.int .i64 Q.mn,.int .i64 Q.mx,.slice Q.A Q.n Q.c]:=PBox.range hPQ
 replace hU3:U2.setCells (w.heap.size+1) 0 (#[.bool Q.M.S.s,.slice Q.M.S.A Q.M.S.n Q.M.S.c,.int .i64 Q.M.S.e,.bool Q.M.W.s,.slice Q.M.W.A Q.M.W.n Q.M.W.c,.int .i64 Q.M.W.e,.bool Q.M.C.s,.slice Q.M.C.A Q.M.C.n Q.M.C.c,.int .i64 Q.M.C.e,.bool Q.M.A.s,.slice Q.M.A.A Q.M.A.n Q.M.A.c,.int .i64 Q.M.A.e,.bool Q.h,.int .i64 Q.mn,.int .i64 Q.mx,.slice Q.A Q.n Q.c]:Array Value).toList=U3:=hU3
 have HU:=Lib.hid hU3
 clear hU3
 go_wp2_with (first
  | (refine wpList_load_mid rfl 30 (.tmp 1) rfl w.heap.size 0 rfl [.bool Q.M.S.s,.slice Q.M.S.A Q.M.S.n Q.M.S.c,.int .i64 Q.M.S.e,.bool Q.M.W.s,.slice Q.M.W.A Q.M.W.n Q.M.W.c,.int .i64 Q.M.W.e,.bool Q.M.C.s,.slice Q.M.C.A Q.M.C.n Q.M.C.c,.int .i64 Q.M.C.e,.bool Q.M.A.s,.slice Q.M.A.A Q.M.A.n Q.M.A.c,.int .i64 Q.M.A.e,.bool Q.h,.int .i64 Q.mn,.int .i64 Q.mx,.slice Q.A Q.n Q.c] _ rg_ Tryz.underlying30 rfl (by kernel_rfl) ?_)
  | (refine wpList_store_mid rfl 30 (.tmp 2) (.tmp 12) rfl (w.heap.size+1) 0 #[.bool Q.M.S.s,.slice Q.M.S.A Q.M.S.n Q.M.S.c,.int .i64 Q.M.S.e,.bool Q.M.W.s,.slice Q.M.W.A Q.M.W.n Q.M.W.c,.int .i64 Q.M.W.e,.bool Q.M.C.s,.slice Q.M.C.A Q.M.C.n Q.M.C.c,.int .i64 Q.M.C.e,.bool Q.M.A.s,.slice Q.M.A.A Q.M.A.n Q.M.A.c,.int .i64 Q.M.A.e,.bool Q.h,.int .i64 Q.mn,.int .i64 Q.mx,.slice Q.A Q.n Q.c] rfl rfl th_ (by kernel_rfl) (all_oneCell_toArray (qal Q)) ?_; rw [HU.out]))
 clear th_ rg_ HU
 have b5:=hbU _ _ b4 (by omega)
 have RQ5:=RQ.rng (w':=U3) (fun b h1 h2=>hfU b (by omega))
 exact bodyPost_ret (results_cell_row Tryz.results9 _ _ (w.heap.size+1) 30 #[.bool Q.M.S.s,.slice Q.M.S.A Q.M.S.n Q.M.S.c,.int .i64 Q.M.S.e,.bool Q.M.W.s,.slice Q.M.W.A Q.M.W.n Q.M.W.c,.int .i64 Q.M.W.e,.bool Q.M.C.s,.slice Q.M.C.A Q.M.C.n Q.M.C.c,.int .i64 Q.M.C.e,.bool Q.M.A.s,.slice Q.M.A.A Q.M.A.n Q.M.A.c,.int .i64 Q.M.A.e,.bool Q.h,.int .i64 Q.mn,.int .i64 Q.mx,.slice Q.A Q.n Q.c] (0,0) _ rfl hZ5 Tryz.underlying30 rfl (by kernel_rfl)) rfl ⟨Q,rfl,tw,b5,RQ5.more (by omega) (by omega)⟩
theorem qj8{P:Program}{o:Oper}{a:Act}{w:World}{K:Act->World->Prop}{Q:Exit->Act->World->Prop}(s x:Operand)(t:TypeId)
  (ho:o.op=.call { callee:=.builtin .append,args:=#[s,x],argTypes:=#[t,t] })
  (base:Nat) (e:TypeId) (i:TypeInfo) (z:Value) (size bytes:Nat) (ht:P.underlying t=some (.slice e)) (hi:P.info? e=some i) (hz:i.zero=some z)
  (hsize:i.size=size) (hby:i.bytes=bytes) (hzs:z.cells.size=size) (hsz:0 < size)
  (v:Value) (n:Nat) (xs:List Value) (hs:a.eval s=v) (hown:w.ownsRow base e size v n xs)
  (lo hi':Nat) (A:Option Addr) (m c:Nat) (news:List Value) (hx:a.eval x=.slice A m c) (hr:Raw w lo hi' A (m*size) news) (h1:∀ u∈news,u.oneCell'=true)
  (h63:n+m<=maxLen) (hbytes:(n+m)*bytes<=140737488355328) (hbase:base<=w.heap.size)
  (h:∀ A' c' w',w'.ownsRow base e size (.slice A' (n+m) c') (n+m) (xs++news)->w.grownBy w' v.ownBlock->((Value.slice A' (n+m) c').ownBlock=v.ownBlock∨(Value.slice A' (n+m) c').ownBlock=some w.heap.size) ->
   K (a.put o.dst (.slice A' (n+m) c')) w'):Oper.wp P o a w K Q:=by
 obtain⟨A',c',w',hr,h2,h3,h5⟩:=qcv (P:=P) w base t o.type e i z size bytes ht hi hz hsize hby hzs hsz v n xs hown lo hi' A m c news hr h1 h63 hbytes hbase
 unfold Oper.wp execOp
 simp only [ho,resolve,invoke,builtin,Sem.run_bind,Sem.run_pure,Result.andThen_ok,List.map_toArray,List.map_cons,List.map_nil,hs,hx,hr]
 exact h A' c' w' h2 h3 h5
theorem qdo{w w':World}{lo:Nat}{row:Option Nat}{k:IntKind}{A:Option Addr}{n:Nat}{xs:List Int}(h:qae w lo w.heap.size k A n xs)(hg:w.grownBy w' row)(hr:∀ a,A=some a->0 < n->row≠some a.block):qae w' lo w'.heap.size k A n xs:=by
 refine⟨h.len,h.wf,h.big,fun h0=>?_⟩
 obtain⟨b,off,e,h1,h2,hc⟩:=h.row h0
 have hb:=hg.block b h2 (fun k=>hr _ e h0 k.symm)
 exact⟨b,off,e,h1,Nat.lt_of_lt_of_le h2 hg.size,fun j hj=>⟨(World.cell?_of_block hb).trans (hc j hj).1,(World.frozen?_of_block hb).trans (hc j hj).2⟩⟩
theorem qh4{w w':World}{lo:Nat}{row:Option Nat}{f:Fv}(h:PRows w lo w.heap.size f.P)(hg:w.grownBy w' row)(hr:f.off row):PRows w' lo w'.heap.size f.P :=
 ⟨⟨qdo h.M.S hg (hr.1 0 (by decide)),qdo h.M.W hg (hr.1 1 (by decide)),qdo h.M.C hg (hr.1 2 (by decide)),qdo h.M.A hg (hr.1 3 (by decide))⟩,qdo h.L hg hr.2⟩
def qe8(fs gs:List Fv):Prop:=gs.length=fs.length/\∀ j (h1:j < fs.length) (h2:j < gs.length),gs[j].e=fs[j].e/\qbv fs[j].P gs[j].P
theorem infoF:(Tryz.prog.info? 115).map (fun i=>(i.zero,i.size,i.bytes))=some (some (.agg #[.int .i64 0,.bool false,.slice none 0 0,.int .i64 0,.bool false,.slice none 0 0,.int .i64 0,.bool false,.slice none 0 0,.int .i64 0,.bool false,.slice none 0 0,.int .i64 0,.bool false,.int .i64 0,.int .i64 0,.slice none 0 0]),17,216):=by kernel_rfl
theorem qta(w:World)(A:Option Addr)(n c:Nat)(fs:List Fv)(hL:LFs w 0 w.heap.size A n fs)(hn:n<=1028)(hs:∀ j (h:j < fs.length),(∀ x,x < 4->(fs[j].P.M.get x).n<=1000000)/\fs[j].P.n<=1000000) :
  Calls Tryz.prog 54 #[.slice A n c] w fun e w'=>∃ (A':Option Addr) (c':Nat) (gs:List Fv),e=.returned (.slice A' n c')/\qe8 fs gs/\Below w.heap.size w w'/\qk5 w' w.heap.size (.slice A' n c') n gs/\∀ g∈gs,PRows w' w.heap.size w'.heap.size g.P:=by
 have HL:=Lib.hid hL.len
 have NN:=Lib.hid hs
 clear hs
 obtain⟨i0,hi0,hz0,hz1,hz2⟩:=info_parts infoF
 go_enter Tryz.func54,Tryz.ntmps54
 go_wp2
 go_loopw [3,4] (fun ov iv wr=>∃ (i:Nat) (os:List Fv),iv=.int .i64 i/\i<=n/\qk5 wr w.heap.size ov i os/\Below w.heap.size w wr/\(∀ g∈os,PRows wr w.heap.size wr.heap.size g.P)/\Hid (∀ j (h1:j < fs.length) (h2:j < os.length),os[j].e=fs[j].e/\qbv fs[j].P os[j].P)) (fun _ iv _=>n-(intOf iv).toNat)
 case atStart=>exact⟨0,[],rfl,Nat.zero_le _,qk5.nil_ _ _,Below.refl _ _,fun _ h=>absurd h (by simp),Lib.hid fun j _ h=>absurd h (Nat.not_lt_zero _)⟩
 obtain⟨i,os,rfl,hi1,hO,hb,hfr,htw⟩:=hrel
 have lw:=hb.size
 obtain⟨Ao,co,rfl,hcap,hcm⟩:=hO.shape
 by_cases hi:i < n
 rotate_left
 . obtain rfl:i=n:=by omega
   have ht:qe8 fs os:=⟨hO.len.trans HL.out.symm,htw.out⟩
   go_wp2
   go_ret
   exact⟨Ao,co,os,rfl,ht,hb,hO,hfr⟩
 have hi2:i < fs.length:=by rw [HL.out]; exact hi
 obtain⟨b,off,hA,hb1,hb2,hc⟩:=(hL.below hb (Nat.le_refl _)).row (by omega)
 have hci:=Lib.hid (hc i hi2)
 have hri:=(hL.below hb (Nat.le_refl _)).rows i hi2
 have hsz:=Lib.hid (NN.out i hi2)
 obtain⟨f,hf⟩:∃ f,fs[i]=f:=⟨_,rfl⟩
 rw [hf] at hci hri hsz
 have HF:=Lib.hid hf
 have hwrj:IntKind.i64.wrap ((i:Int)+1)=((i+1:Nat):Int):=by rw [IntKind.wrap_i64]; omega
 clear hc hf
 subst hA
 have hOlt:∀ k,(Value.slice Ao i co).ownBlock=some k->w.heap.size<=k/\k < wr.heap.size:=fun k hk=>hO.own.lt k hk
 go_wp2_with fail
 refine zB (fun W':World=>W'.heap[b]? = wr.heap[b]?) [] 16 ?_
 have kp0:wr.drew.heap[b]? = wr.heap[b]? := rfl
 have j0:Below wr.heap.size wr wr.drew:=(Below.refl _ _).drew
 have hbw:b < wr.heap.size:=by omega
 generalize wr.drew=v0 at *
 have s0:=j0.size
 refine zM 5 [0,1,2,3,4] ?_ ?_
 refine zD 5 (.int .i64 f.e) rfl ?ya ?za
 case ya =>
  intro w' h1
  have k_:=(hci.out.blk h1).1
  go_simp
 try simp only [Act.put,zp]
 refine zM 4 [6,7,8,9] ?_ ?_
 refine zD 10 (.agg #[.bool f.P.M.S.s,.slice f.P.M.S.A f.P.M.S.n f.P.M.S.c,.int .i64 f.P.M.S.e,.bool f.P.M.W.s,.slice f.P.M.W.A f.P.M.W.n f.P.M.W.c,.int .i64 f.P.M.W.e,.bool f.P.M.C.s,.slice f.P.M.C.A f.P.M.C.n f.P.M.C.c,.int .i64 f.P.M.C.e,.bool f.P.M.A.s,.slice f.P.M.A.A f.P.M.A.n f.P.M.A.c,.int .i64 f.P.M.A.e,.bool f.P.h,.int .i64 f.P.mn,.int .i64 f.P.mx,.slice f.P.A f.P.n f.P.c]) rfl ?yb ?zb
 case yb =>
  intro w' h1
  obtain⟨k_,k0,k1,k2,k3,k4,k5,k6,k7,k8,k9,k10,k11,k12,k13,k14,k15⟩:=hci.out.blk h1
  go_simp
 try simp only [Act.put,zp]
 refine zK 11 rfl fun K hK=>?_
 go_simp
 go_at_call 9
 refine (qdg v0 f.P ((hri.more (Nat.le_refl _) lw).on j0) hsz.out.1 hsz.out.2).mono ?_
 rintro e' v1 ⟨q,rfl,tw,j1,Rq⟩
 have kp1:=(j1.block b (by omega)).trans kp0
 refine hK _ _ ⟨fun _ _=>kp1,?_⟩
 clear hK K
 try simp only [Act.put,zp]
 have s1:=j1.size
 refine zM 1 [12] ?_ ?_
 obtain⟨v2,hv2⟩:∃ U,v1.alloc (.cells #[.int .i64 f.e,.bool q.M.S.s,.slice q.M.S.A q.M.S.n q.M.S.c,.int .i64 q.M.S.e,.bool q.M.W.s,.slice q.M.W.A q.M.W.n q.M.W.c,.int .i64 q.M.W.e,.bool q.M.C.s,.slice q.M.C.A q.M.C.n q.M.C.c,.int .i64 q.M.C.e,.bool q.M.A.s,.slice q.M.A.A q.M.A.n q.M.A.c,.int .i64 q.M.A.e,.bool q.h,.int .i64 q.mn,.int .i64 q.mx,.slice q.A q.n q.c] 115)=U:=⟨_,rfl⟩
 have j2:Below v1.heap.size v1 v2:=by rw [<-hv2]; exact (Below.refl _ _).alloc (Nat.le_refl _) _
 have s2:v1.heap.size < v2.heap.size:=by rw [<-hv2]; simp
 have hraw:=qxe v1 (⟨f.e,q⟩:Fv) hv2
 have kp2:=(j2.block b (by omega)).trans kp1
 refine zK 13 rfl fun K hK=>?_
 go_simp
 try rw [hv2]
 refine hK _ _ ⟨fun _ _=>kp2,?_⟩
 clear hK K
 try clear hv2
 try simp only [Act.put,zp]
 have hO2:=((hO.on j0).on j1).on j2
 have hb2':=((hb.trans (j0.mono lw)).trans (j1.mono (by omega))).trans (j2.mono (by omega))
 have Rd:PRows v2 w.heap.size v2.heap.size q:=(Rq.below j2 (Nat.le_refl _)).more (by omega) (by omega)
 have hoffd:Fv.off ⟨f.e,q⟩ (Value.slice Ao i co).ownBlock:=qmx (f:=⟨f.e,q⟩) Rq fun k hk=>.inl (by have:=hOlt k hk; omega)
 refine zK 14 rfl fun K hK=>?_
 refine qj8 (.tmp 11) (.tmp 24) 60 rfl w.heap.size 115 i0 _ 17 216 Tryz.underlying60 hi0 hz0 hz1 hz2 rfl (by decide) _ _ _ rfl hO2.own _ _ _ 1 1 (cells17 ⟨f.e,q⟩) rfl hraw (qeo _) (by unfold maxLen; omega) (by omega) (by omega) ?_
 intro A3 c3 v3 hown hg hob
 have kp3:=(hg.block b (by omega) (fun e=>by have:=hOlt b e.symm; omega)).trans kp2
 refine hK _ _ ⟨fun _ _=>kp3,?_⟩
 clear hK K
 try simp only [Act.put,zp]
 have hO3:=hO2.push (d:=⟨f.e,q⟩) (Rd.more (Nat.zero_le _) (Nat.le_refl _)) hoffd hown hg hob
 have hb3:Below w.heap.size w v3:=hb2'.grown hg (by omega) (fun k hk=>(hOlt k hk).1)
 have hfr2:∀ g∈os++[(⟨f.e,q⟩:Fv)],PRows v3 w.heap.size v3.heap.size g.P:=fun g hg'=>by
  rcases List.mem_append.1 hg' with h|h
  . exact qh4 ((((hfr g h).below (j0) (Nat.le_refl _)).below (j1.mono s0) (by omega) |>.below (j2.mono (by omega:wr.heap.size<=v1.heap.size)) (Nat.le_refl _)).more (Nat.le_refl _) (by omega)) hg (hO.off g h)
  obtain rfl:g=⟨f.e,q⟩:=by simpa using h
  exact qh4 (f:=⟨f.e,q⟩) Rd hg hoffd
 have htw2:Hid (∀ j (h1:j < fs.length) (h2:j < (os++[(⟨f.e,q⟩:Fv)]).length),(os++[(⟨f.e,q⟩:Fv)])[j].e=fs[j].e/\qbv fs[j].P (os++[(⟨f.e,q⟩:Fv)])[j].P):=Lib.hid fun j h1 h2=>by
  by_cases e:j < os.length
  . rw [List.getElem_append_left e]
    exact htw.out j h1 e
  have hl:=hO.len
  have hj:j=i:=by simp at h2; omega
  subst hj
  rw [List.getElem_append_right (by omega)]
  simp only [hl,Nat.sub_self,List.getElem_cons_zero]
  rw [HF.out]
  exact⟨rfl,tw⟩
 refine zM 1 [15] ?_ ?_
 refine qa2 (by kernel_rfl) ?_ _
 clear hown hg hob hraw hO2 hO hfr htw Rd Rq
 go_wp2
 go_roundw
 case rel=>exact⟨i+1,_,by first | rfl | (congr 1; omega) | go_num,by omega,hO3,hb3,hfr2,htw2⟩
 case measure=>first | (simp [intOf]; done) | (simp [intOf]; omega)
theorem qdp{n:Nat}{fs:List Fv}(h:¬ 1024 < n)(h2:qey (-1) fs=false):qbo n fs=8:=by
 unfold qbo
 rw [if_neg h,h2]
 rfl
theorem qnu{n:Nat}{fs:List Fv}(h:¬ 1024 < n)(h2:qey (-1) fs=true):qbo n fs=0:=by
 unfold qbo
 rw [if_neg h,h2]
 rfl
theorem CheckF_any(w:World)(A:Option Addr)(n c:Nat)(fs:List Fv)(hL:LFs w 0 w.heap.size A n fs)(k:Int)(hk:qbo n fs=k) :
  Calls Tryz.prog 126 #[.slice A n c] w fun e w'=>e=.returned (.int .i64 k)/\Below w.heap.size w w':=by
 have HL:=Lib.hid hL.len
 have HK:=Lib.hid hk
 have hbig:=hL.big
 clear hk
 go_enter Tryz.func126,Tryz.ntmps126
 by_cases c1:1024 < n
 . have hk':k=4:=by rw [<-HK.out,qbo,if_pos c1]
   subst hk'
   clear HK
   go_wp2
   go_ret
   exact⟨rfl,Below.refl _ _⟩
 go_wp2
 go_loopw [3,11] (fun lv iv wr=>∃ (i:Nat) (last:Int),iv=.int .i64 i/\lv=.int .i64 last/\i<=n/\Below w.heap.size w wr/\Hid (qey (-1) fs=qey last (fs.drop i))) (fun _ iv _=>n-(intOf iv).toNat)
 case atStart=>exact⟨0,-1,rfl,rfl,Nat.zero_le _,Below.refl _ _,Lib.hid rfl⟩
 obtain⟨i,last,rfl,rfl,hi1,hb,hmy⟩:=hrel
 by_cases hi:i < n
 rotate_left
 . have hk':k=0:=by
     rw [<-HK.out]
     exact qnu c1 (by rw [hmy.out]; exact qql (by have:=HL.out; omega) _)
   subst hk'
   go_wp2
   go_ret
   exact⟨rfl,hb⟩
 have hi2:i < fs.length:=by rw [HL.out]; exact hi
 obtain⟨b,off,hA,hb1,hb2,hc⟩:=(hL.below hb (Nat.le_refl _)).row (by omega)
 have hci:=Lib.hid (hc i hi2)
 have hri:=(hL.below hb (Nat.le_refl _)).rows i hi2
 obtain⟨f,hf⟩:∃ f,fs[i]=f:=⟨_,rfl⟩
 have hmy2:Hid (qey (-1) fs=(decide (last < f.e/\f.e<=65535) && (qd6 f.P && qey f.e (fs.drop (i+1))))):=Lib.hid (by rw [hmy.out,qm9 hi2,hf])
 rw [hf] at hci hri
 have hwrj:IntKind.i64.wrap ((i:Int)+1)=((i+1:Nat):Int):=by rw [IntKind.wrap_i64]; omega
 clear hc hf hmy
 subst hA
 have lw:=hb.size
 obtain⟨u1,hu1,f1,j1,s1⟩:=qmc wr f
 have rg:=hci.out.range
 go_upto_region 7 with (first
  | (refine wpList_load_mid rfl 115 (.tmp 13) rfl b (off+i*17) rfl [.int .i64 f.e,.bool f.P.M.S.s,.slice f.P.M.S.A f.P.M.S.n f.P.M.S.c,.int .i64 f.P.M.S.e,.bool f.P.M.W.s,.slice f.P.M.W.A f.P.M.W.n f.P.M.W.c,.int .i64 f.P.M.W.e,.bool f.P.M.C.s,.slice f.P.M.C.A f.P.M.C.n f.P.M.C.c,.int .i64 f.P.M.C.e,.bool f.P.M.A.s,.slice f.P.M.A.A f.P.M.A.n f.P.M.A.c,.int .i64 f.P.M.A.e,.bool f.P.h,.int .i64 f.P.mn,.int .i64 f.P.mx,.slice f.P.A f.P.n f.P.c] _ rg Tryz.underlying115 rfl (by kernel_rfl) ?_)
  | (refine qc6 rfl 115 (.tmp 5) (.tmp 14) rfl _ #[.int .i64 f.e,.bool f.P.M.S.s,.slice f.P.M.S.A f.P.M.S.n f.P.M.S.c,.int .i64 f.P.M.S.e,.bool f.P.M.W.s,.slice f.P.M.W.A f.P.M.W.n f.P.M.W.c,.int .i64 f.P.M.W.e,.bool f.P.M.C.s,.slice f.P.M.C.A f.P.M.C.n f.P.M.C.c,.int .i64 f.P.M.C.e,.bool f.P.M.A.s,.slice f.P.M.A.A f.P.M.A.n f.P.M.A.c,.int .i64 f.P.M.A.e,.bool f.P.h,.int .i64 f.P.mn,.int .i64 f.P.mx,.slice f.P.A f.P.n f.P.c] rfl rfl (by kernel_rfl) rfl (all_oneCell_toArray (qeo f)) ?_))
 try rw [hu1]
 try clear hu1
 clear rg
 have hb3:=hb.trans (j1.mono lw)
 obtain⟨⟨k0,k1,k2,k3,k4,k5,k6,k7,k8,k9,k10,k11,k12,k13,k14,k15,k16⟩,kf⟩:=qkh.cell f1
 by_cases a1:f.e<=last
 . have hk':k=8:=by
     rw [<-HK.out]
     exact qdp c1 (by rw [hmy2.out,decide_eq_false (by omega)]; rfl)
   subst hk'
   clear HK hmy2
   go_wp2
   go_ret
   exact⟨rfl,hb3⟩
 have d1:decide (f.e<=last)=false:=decide_eq_false a1
 by_cases a2:(65535:Int) < f.e
 . have hk':k=8:=by
     rw [<-HK.out]
     exact qdp c1 (by rw [hmy2.out,decide_eq_false (by omega)]; rfl)
   subst hk'
   clear HK hmy2
   go_wp2
   go_ret
   exact⟨rfl,hb3⟩
 have d2:decide ((65535:Int) < f.e)=false:=decide_eq_false a2
 obtain⟨m,hm⟩:∃ m,qd6 f.P=m:=⟨_,rfl⟩
 have HM:=Lib.hid hm
 clear hm
 go_wp2_with fail
 refine (CheckPart_any u1 f.P ((hri.more (Nat.le_refl _) lw).on j1) m HM.out).mono ?_
 rintro e' u2 ⟨rfl,j2⟩
 have hb4:=hb3.trans (j2.mono (by omega))
 have f2:qkh u2 wr.heap.size f:=(j2.block _ s1).trans f1
 clear k0 k1 k2 k3 k4 k5 k6 k7 k8 k9 k10 k11 k12 k13 k14 k15 k16 kf
 have k0:=(qkh.cell f2).1.1
 have kf:=(qkh.cell f2).2
 cases m
 . have hk':k=8:=by
     rw [<-HK.out]
     exact qdp c1 (by rw [hmy2.out,HM.out]; simp)
   subst hk'
   clear HK hmy2 HM
   go_wp2
   go_ret
   exact⟨rfl,hb4⟩
 have hmy3:Hid (qey (-1) fs=qey f.e (fs.drop (i+1))):=Lib.hid (by rw [hmy2.out,HM.out,decide_eq_true (by omega)]; simp)
 clear hmy2 HM
 go_wp2
 go_roundw
 case rel=>exact⟨i+1,f.e,by first | rfl | (congr 1; omega) | go_num,rfl,by omega,hb4,hmy3⟩
 case measure=>first | (simp [intOf]; done) | (simp [intOf]; omega)
theorem RCheckF_any(w:World)(A:Option Addr)(n c:Nat)(fs:List Fv)(hL:LFs w 0 w.heap.size A n fs)(k:Int)(hk:qbo n fs=k) :
  Calls Tryz.prog 106 #[.slice A n c] w fun e w'=>e=.returned (.int .i64 k)/\Below w.heap.size w w':=by
 have HL:=Lib.hid hL.len
 have HK:=Lib.hid hk
 have hbig:=hL.big
 clear hk
 go_enter Tryz.func106,Tryz.ntmps106
 by_cases c1:1024 < n
 . have hk':k=4:=by rw [<-HK.out,qbo,if_pos c1]
   subst hk'
   clear HK
   go_wp2
   go_ret
   exact⟨rfl,Below.refl _ _⟩
 go_wp2
 go_loopw [3] (fun iv wr=>∃ (i:Nat) (last:Int),iv=.int .i64 i/\i<=n/\Below w.heap.size w wr/\Hid (qey (-1) fs=qey last (fs.drop i))/\Hid (∀ h:i-1 < fs.length,0 < i->fs[i-1].e=last)/\Hid ((i=0->last=-1)/\(0 < i->0<=last))) (fun iv _=>n-(intOf iv).toNat)
 case atStart=>exact⟨0,-1,rfl,Nat.zero_le _,Below.refl _ _,Lib.hid rfl,Lib.hid fun _ h=>absurd h (Nat.lt_irrefl 0),Lib.hid ⟨fun _=>rfl,fun h=>absurd h (Nat.lt_irrefl 0)⟩⟩
 obtain⟨i,last,rfl,hi1,hb,hmy,hla,hl0⟩:=hrel
 by_cases hi:i < n
 rotate_left
 . have hk':k=0:=by
     rw [<-HK.out]
     exact qnu c1 (by rw [hmy.out]; exact qql (by have:=HL.out; omega) _)
   subst hk'
   go_wp2
   go_ret
   exact⟨rfl,hb⟩
 have hi2:i < fs.length:=by rw [HL.out]; exact hi
 obtain⟨b,off,hA,hb1,hb2,hc⟩:=(hL.below hb (Nat.le_refl _)).row (by omega)
 have hci:=Lib.hid (hc i hi2)
 have hcp:=Lib.hid (fun (h:i-1 < fs.length)=>hc (i-1) h)
 have hri:=(hL.below hb (Nat.le_refl _)).rows i hi2
 obtain⟨f,hf⟩:∃ f,fs[i]=f:=⟨_,rfl⟩
 have hmy2:Hid (qey (-1) fs=(decide (last < f.e/\f.e<=65535) && (qd6 f.P && qey f.e (fs.drop (i+1))))):=Lib.hid (by rw [hmy.out,qm9 hi2,hf])
 have HF:=Lib.hid hf
 rw [hf] at hci hri
 have hwrj:IntKind.i64.wrap ((i:Int)+1)=((i+1:Nat):Int):=by rw [IntKind.wrap_i64]; omega
 clear hc hf hmy
 subst hA
 have lw:=hb.size
 have hbw:b < wr.heap.size:=by omega
 obtain⟨m,hm⟩:∃ m,qd6 f.P=m:=⟨_,rfl⟩
 have HM:=Lib.hid hm
 clear hm
 have hri:=hri.more (Nat.le_refl _) lw
 by_cases a1:f.e < 0
 . have hk':k=8:=by
    rw [<-HK.out]
    exact qdp c1 (by rw [hmy2.out,decide_eq_false (by have:=hl0.out; omega)]; rfl)
   subst hk'
   clear HK hmy2 HM
   go_wp2_with fail
   try clear hw
   refine zB (qan wr) [] 41 ?_
   have j2:Below wr.heap.size wr wr.drew:=(Below.refl _ _).drew
   generalize wr.drew=v1 at *
   refine zM 4 [0,1,2,3] ?_ ?_
   have kpy3:qan wr v1:=fun p hp=>Below.block j2 p hp
   refine zD 4 (.int .i64 f.e) rfl ?y3 ?z4
   case y3 =>
    intro w' h1
    have k_:=(hci.out.blk (h1 _ hbw)).1
    try simp only [Nat.zero_mul,Nat.add_zero] at k_
    go_simp
   try simp only [Act.put,zp]
   refine zM 2 [5,6] ?_ ?_
   refine zS 6 [7,8,9,10,11,12] ?_ ?_
   refine zM 2 [13,14] ?_ ?_
   refine zS 7 [15,16,17,18,19,20,21] ?_ ?_
   refine zM 2 [22,23] ?_ ?_
   refine zS 16 [24,25,26,27,28,29,30,31,32,33,34,35,36,37,38,39] ?_ ?_
   refine zM 1 [40] ?_ ?_
   refine qa2 (by kernel_rfl) ?_ _
   have hbz:=hb.trans ((j2).mono lw)
   go_wp2
   go_ret
   exact⟨rfl,hbz⟩
 skip
 have d1:decide (f.e < 0)=false:=decide_eq_false a1
 by_cases a2:(65535:Int) < f.e
 . have hk':k=8:=by
    rw [<-HK.out]
    exact qdp c1 (by rw [hmy2.out,decide_eq_false (by omega)]; rfl)
   subst hk'
   clear HK hmy2 HM
   go_wp2_with fail
   try clear hw
   refine zB (qan wr) [] 41 ?_
   have j6:Below wr.heap.size wr wr.drew:=(Below.refl _ _).drew
   generalize wr.drew=v5 at *
   refine zM 4 [0,1,2,3] ?_ ?_
   have kpy7:qan wr v5:=fun p hp=>Below.block j6 p hp
   refine zD 4 (.int .i64 f.e) rfl ?y7 ?z8
   case y7 =>
    intro w' h1
    have k_:=(hci.out.blk (h1 _ hbw)).1
    try simp only [Nat.zero_mul,Nat.add_zero] at k_
    go_simp
   try simp only [Act.put,zp]
   refine zM 6 [5,6,7,8,9,10] ?_ ?_
   have kpy9:qan wr v5:=fun p hp=>Below.block j6 p hp
   refine zD 11 (.int .i64 f.e) rfl ?y9 ?z10
   case y9 =>
    intro w' h1
    have k_:=(hci.out.blk (h1 _ hbw)).1
    try simp only [Nat.zero_mul,Nat.add_zero] at k_
    go_simp
   try simp only [Act.put,zp]
   refine zM 3 [12,13,14] ?_ ?_
   refine zS 7 [15,16,17,18,19,20,21] ?_ ?_
   refine zM 2 [22,23] ?_ ?_
   refine zS 16 [24,25,26,27,28,29,30,31,32,33,34,35,36,37,38,39] ?_ ?_
   refine zM 1 [40] ?_ ?_
   refine qa2 (by kernel_rfl) ?_ _
   have hbz:=hb.trans ((j6).mono lw)
   go_wp2
   go_ret
   exact⟨rfl,hbz⟩
 skip
 have d2:decide ((65535:Int) < f.e)=false:=decide_eq_false a2
 cases m
 . have hk':k=8:=by
    rw [<-HK.out]
    exact qdp c1 (by rw [hmy2.out,HM.out]; simp)
   subst hk'
   clear HK hmy2
   go_wp2_with fail
   try clear hw
   refine zB (qan wr) [] 41 ?_
   have j12:Below wr.heap.size wr wr.drew:=(Below.refl _ _).drew
   generalize wr.drew=v11 at *
   refine zM 4 [0,1,2,3] ?_ ?_
   have kpy13:qan wr v11:=fun p hp=>Below.block j12 p hp
   refine zD 4 (.int .i64 f.e) rfl ?y13 ?z14
   case y13 =>
    intro w' h1
    have k_:=(hci.out.blk (h1 _ hbw)).1
    try simp only [Nat.zero_mul,Nat.add_zero] at k_
    go_simp
   try simp only [Act.put,zp]
   refine zM 6 [5,6,7,8,9,10] ?_ ?_
   have kpy15:qan wr v11:=fun p hp=>Below.block j12 p hp
   refine zD 11 (.int .i64 f.e) rfl ?y15 ?z16
   case y15 =>
    intro w' h1
    have k_:=(hci.out.blk (h1 _ hbw)).1
    try simp only [Nat.zero_mul,Nat.add_zero] at k_
    go_simp
   try simp only [Act.put,zp]
   refine zM 7 [12,13,14,15,16,17,18] ?_ ?_
   have kpy17:qan wr v11:=fun p hp=>Below.block j12 p hp
   refine zD 19 (.agg #[.bool f.P.M.S.s,.slice f.P.M.S.A f.P.M.S.n f.P.M.S.c,.int .i64 f.P.M.S.e,.bool f.P.M.W.s,.slice f.P.M.W.A f.P.M.W.n f.P.M.W.c,.int .i64 f.P.M.W.e,.bool f.P.M.C.s,.slice f.P.M.C.A f.P.M.C.n f.P.M.C.c,.int .i64 f.P.M.C.e,.bool f.P.M.A.s,.slice f.P.M.A.A f.P.M.A.n f.P.M.A.c,.int .i64 f.P.M.A.e,.bool f.P.h,.int .i64 f.P.mn,.int .i64 f.P.mx,.slice f.P.A f.P.n f.P.c]) rfl ?y17 ?z18
   case y17 =>
    intro w' h1
    obtain⟨k_,k0,k1,k2,k3,k4,k5,k6,k7,k8,k9,k10,k11,k12,k13,k14,k15⟩:=hci.out.blk (h1 _ hbw)
    go_simp
   try simp only [Act.put,zp]
   refine zK 20 rfl fun K hK=>?_
   go_simp
   go_at_call 41
   refine (MayPart_any v11 f.P (PRows.on hri j12) false HM.out).mono ?_
   rintro e' v19 ⟨rfl,j20⟩
   refine hK _ _ ⟨fun _ _=>fun p hp=>Below.block (lz j12 j20) p hp,?_⟩
   clear hK K
   try simp only [Act.put,zp]
   refine zM 3 [21,22,23] ?_ ?_
   refine zS 16 [24,25,26,27,28,29,30,31,32,33,34,35,36,37,38,39] ?_ ?_
   refine zM 1 [40] ?_ ?_
   refine qa2 (by kernel_rfl) ?_ _
   have hbz:=hb.trans (((lz j12 j20)).mono lw)
   go_wp2
   go_ret
   exact⟨rfl,hbz⟩
 skip
 by_cases a3:0 < i
 rotate_left
 . obtain rfl:i=0:=by omega
   have d4:decide ((0:Int) < ((0:Nat):Int))=false:=rfl
   have hmy3:Hid (qey (-1) fs=qey f.e (fs.drop (0+1))):=Lib.hid (by rw [hmy2.out,HM.out,decide_eq_true (by have:=hl0.out; omega)]; simp)
   go_wp2_with fail
   try clear hw
   refine zB (qan wr) [] 41 ?_
   have j22:Below wr.heap.size wr wr.drew:=(Below.refl _ _).drew
   generalize wr.drew=v21 at *
   refine zM 4 [0,1,2,3] ?_ ?_
   have kpy23:qan wr v21:=fun p hp=>Below.block j22 p hp
   refine zD 4 (.int .i64 f.e) rfl ?y23 ?z24
   case y23 =>
    intro w' h1
    have k_:=(hci.out.blk (h1 _ hbw)).1
    try simp only [Nat.zero_mul,Nat.add_zero] at k_
    go_simp
   try simp only [Act.put,zp]
   refine zM 6 [5,6,7,8,9,10] ?_ ?_
   have kpy25:qan wr v21:=fun p hp=>Below.block j22 p hp
   refine zD 11 (.int .i64 f.e) rfl ?y25 ?z26
   case y25 =>
    intro w' h1
    have k_:=(hci.out.blk (h1 _ hbw)).1
    try simp only [Nat.zero_mul,Nat.add_zero] at k_
    go_simp
   try simp only [Act.put,zp]
   refine zM 7 [12,13,14,15,16,17,18] ?_ ?_
   have kpy27:qan wr v21:=fun p hp=>Below.block j22 p hp
   refine zD 19 (.agg #[.bool f.P.M.S.s,.slice f.P.M.S.A f.P.M.S.n f.P.M.S.c,.int .i64 f.P.M.S.e,.bool f.P.M.W.s,.slice f.P.M.W.A f.P.M.W.n f.P.M.W.c,.int .i64 f.P.M.W.e,.bool f.P.M.C.s,.slice f.P.M.C.A f.P.M.C.n f.P.M.C.c,.int .i64 f.P.M.C.e,.bool f.P.M.A.s,.slice f.P.M.A.A f.P.M.A.n f.P.M.A.c,.int .i64 f.P.M.A.e,.bool f.P.h,.int .i64 f.P.mn,.int .i64 f.P.mx,.slice f.P.A f.P.n f.P.c]) rfl ?y27 ?z28
   case y27 =>
    intro w' h1
    obtain⟨k_,k0,k1,k2,k3,k4,k5,k6,k7,k8,k9,k10,k11,k12,k13,k14,k15⟩:=hci.out.blk (h1 _ hbw)
    go_simp
   try simp only [Act.put,zp]
   refine zK 20 rfl fun K hK=>?_
   go_simp
   go_at_call 41
   refine (MayPart_any v21 f.P (PRows.on hri j22) true HM.out).mono ?_
   rintro e' v29 ⟨rfl,j30⟩
   refine hK _ _ ⟨fun _ _=>fun p hp=>Below.block (lz j22 j30) p hp,?_⟩
   clear hK K
   try simp only [Act.put,zp]
   refine zM 6 [21,22,23,24,25,26] ?_ ?_
   refine zS 12 [27,28,29,30,31,32,33,34,35,36,37,38] ?_ ?_
   refine zM 2 [39,40] ?_ ?_
   refine qa2 (by kernel_rfl) ?_ _
   have hbz:=hb.trans (((lz j22 j30)).mono lw)
   clear hmy2 HM
   go_wp2
   go_roundw
   case rel=>exact⟨0+1,f.e,by first | rfl | (congr 1; omega) | go_num,by omega,hbz,hmy3,Lib.hid fun h _=>(by simp only [Nat.add_sub_cancel]; rw [HF.out]),Lib.hid ⟨fun h=>absurd h (Nat.succ_ne_zero _),fun _=>by omega⟩⟩
   case measure=>first | (simp [intOf]; done) | (simp [intOf]; omega)
 skip
 have a4:(0:Int) < (i:Int):=by omega
 have hp2:i-1 < fs.length:=by omega
 obtain⟨p,hp⟩:∃ p,fs[i-1]=p:=⟨_,rfl⟩
 have hpi:=Lib.hid (hcp.out hp2)
 rw [hp] at hpi
 have hpe:Hid (p.e=last):=Lib.hid (by rw [<-hp]; exact hla.out hp2 a3)
 have hwm:IntKind.i64.wrap ((i:Int)-1)=((i-1:Nat):Int):=by rw [IntKind.wrap_i64]; omega
 have hil:i-1 < n:=by omega
 clear hp
 by_cases a5:f.e<=p.e
 . have hk':k=8:=by
    rw [<-HK.out]
    exact qdp c1 (by rw [hmy2.out,decide_eq_false (by have:=hpe.out; omega)]; rfl)
   subst hk'
   clear HK hmy2
   go_wp2_with fail
   try clear hw
   refine zB (qan wr) [] 41 ?_
   have j32:Below wr.heap.size wr wr.drew:=(Below.refl _ _).drew
   generalize wr.drew=v31 at *
   refine zM 4 [0,1,2,3] ?_ ?_
   have kpy33:qan wr v31:=fun p hp=>Below.block j32 p hp
   refine zD 4 (.int .i64 f.e) rfl ?y33 ?z34
   case y33 =>
    intro w' h1
    have k_:=(hci.out.blk (h1 _ hbw)).1
    try simp only [Nat.zero_mul,Nat.add_zero] at k_
    go_simp
   try simp only [Act.put,zp]
   refine zM 6 [5,6,7,8,9,10] ?_ ?_
   have kpy35:qan wr v31:=fun p hp=>Below.block j32 p hp
   refine zD 11 (.int .i64 f.e) rfl ?y35 ?z36
   case y35 =>
    intro w' h1
    have k_:=(hci.out.blk (h1 _ hbw)).1
    try simp only [Nat.zero_mul,Nat.add_zero] at k_
    go_simp
   try simp only [Act.put,zp]
   refine zM 7 [12,13,14,15,16,17,18] ?_ ?_
   have kpy37:qan wr v31:=fun p hp=>Below.block j32 p hp
   refine zD 19 (.agg #[.bool f.P.M.S.s,.slice f.P.M.S.A f.P.M.S.n f.P.M.S.c,.int .i64 f.P.M.S.e,.bool f.P.M.W.s,.slice f.P.M.W.A f.P.M.W.n f.P.M.W.c,.int .i64 f.P.M.W.e,.bool f.P.M.C.s,.slice f.P.M.C.A f.P.M.C.n f.P.M.C.c,.int .i64 f.P.M.C.e,.bool f.P.M.A.s,.slice f.P.M.A.A f.P.M.A.n f.P.M.A.c,.int .i64 f.P.M.A.e,.bool f.P.h,.int .i64 f.P.mn,.int .i64 f.P.mx,.slice f.P.A f.P.n f.P.c]) rfl ?y37 ?z38
   case y37 =>
    intro w' h1
    obtain⟨k_,k0,k1,k2,k3,k4,k5,k6,k7,k8,k9,k10,k11,k12,k13,k14,k15⟩:=hci.out.blk (h1 _ hbw)
    go_simp
   try simp only [Act.put,zp]
   refine zK 20 rfl fun K hK=>?_
   go_simp
   go_at_call 41
   refine (MayPart_any v31 f.P (PRows.on hri j32) true HM.out).mono ?_
   rintro e' v39 ⟨rfl,j40⟩
   refine hK _ _ ⟨fun _ _=>fun p hp=>Below.block (lz j32 j40) p hp,?_⟩
   clear hK K
   try simp only [Act.put,zp]
   refine zM 10 [21,22,23,24,25,26,27,28,29,30] ?_ ?_
   have kpy41:qan wr v39:=fun p hp=>Below.block (lz j32 j40) p hp
   refine zD 31 (.int .i64 f.e) rfl ?y41 ?z42
   case y41 =>
    intro w' h1
    have k_:=(hci.out.blk (h1 _ hbw)).1
    try simp only [Nat.zero_mul,Nat.add_zero] at k_
    go_simp
   try simp only [Act.put,zp]
   refine zM 5 [32,33,34,35,36] ?_ ?_
   have kpy43:qan wr v39:=fun p hp=>Below.block (lz j32 j40) p hp
   refine zD 37 (.int .i64 p.e) rfl ?y43 ?z44
   case y43 =>
    intro w' h1
    have k_:=(hpi.out.blk (h1 _ hbw)).1
    go_simp
   try simp only [Act.put,zp]
   refine zM 3 [38,39,40] ?_ ?_
   refine qa2 (by kernel_rfl) ?_ _
   have hbz:=hb.trans (((lz j32 j40)).mono lw)
   go_wp2
   go_ret
   exact⟨rfl,hbz⟩
 skip
 have d5:decide (f.e<=p.e)=false:=decide_eq_false a5
 have hmy3:Hid (qey (-1) fs=qey f.e (fs.drop (i+1))):=Lib.hid (by rw [hmy2.out,HM.out,decide_eq_true (by have:=hpe.out; omega)]; simp)
 go_wp2_with fail
 try clear hw
 refine zB (qan wr) [] 41 ?_
 have j46:Below wr.heap.size wr wr.drew:=(Below.refl _ _).drew
 generalize wr.drew=v45 at *
 refine zM 4 [0,1,2,3] ?_ ?_
 have kpy47:qan wr v45:=fun p hp=>Below.block j46 p hp
 refine zD 4 (.int .i64 f.e) rfl ?y47 ?z48
 case y47 =>
  intro w' h1
  have k_:=(hci.out.blk (h1 _ hbw)).1
  try simp only [Nat.zero_mul,Nat.add_zero] at k_
  go_simp
 try simp only [Act.put,zp]
 refine zM 6 [5,6,7,8,9,10] ?_ ?_
 have kpy49:qan wr v45:=fun p hp=>Below.block j46 p hp
 refine zD 11 (.int .i64 f.e) rfl ?y49 ?z50
 case y49 =>
  intro w' h1
  have k_:=(hci.out.blk (h1 _ hbw)).1
  try simp only [Nat.zero_mul,Nat.add_zero] at k_
  go_simp
 try simp only [Act.put,zp]
 refine zM 7 [12,13,14,15,16,17,18] ?_ ?_
 have kpy51:qan wr v45:=fun p hp=>Below.block j46 p hp
 refine zD 19 (.agg #[.bool f.P.M.S.s,.slice f.P.M.S.A f.P.M.S.n f.P.M.S.c,.int .i64 f.P.M.S.e,.bool f.P.M.W.s,.slice f.P.M.W.A f.P.M.W.n f.P.M.W.c,.int .i64 f.P.M.W.e,.bool f.P.M.C.s,.slice f.P.M.C.A f.P.M.C.n f.P.M.C.c,.int .i64 f.P.M.C.e,.bool f.P.M.A.s,.slice f.P.M.A.A f.P.M.A.n f.P.M.A.c,.int .i64 f.P.M.A.e,.bool f.P.h,.int .i64 f.P.mn,.int .i64 f.P.mx,.slice f.P.A f.P.n f.P.c]) rfl ?y51 ?z52
 case y51 =>
  intro w' h1
  obtain⟨k_,k0,k1,k2,k3,k4,k5,k6,k7,k8,k9,k10,k11,k12,k13,k14,k15⟩:=hci.out.blk (h1 _ hbw)
  go_simp
 try simp only [Act.put,zp]
 refine zK 20 rfl fun K hK=>?_
 go_simp
 go_at_call 41
 refine (MayPart_any v45 f.P (PRows.on hri j46) true HM.out).mono ?_
 rintro e' v53 ⟨rfl,j54⟩
 refine hK _ _ ⟨fun _ _=>fun p hp=>Below.block (lz j46 j54) p hp,?_⟩
 clear hK K
 try simp only [Act.put,zp]
 refine zM 10 [21,22,23,24,25,26,27,28,29,30] ?_ ?_
 have kpy55:qan wr v53:=fun p hp=>Below.block (lz j46 j54) p hp
 refine zD 31 (.int .i64 f.e) rfl ?y55 ?z56
 case y55 =>
  intro w' h1
  have k_:=(hci.out.blk (h1 _ hbw)).1
  try simp only [Nat.zero_mul,Nat.add_zero] at k_
  go_simp
 try simp only [Act.put,zp]
 refine zM 5 [32,33,34,35,36] ?_ ?_
 have kpy57:qan wr v53:=fun p hp=>Below.block (lz j46 j54) p hp
 refine zD 37 (.int .i64 p.e) rfl ?y57 ?z58
 case y57 =>
  intro w' h1
  have k_:=(hpi.out.blk (h1 _ hbw)).1
  go_simp
 try simp only [Act.put,zp]
 refine zM 3 [38,39,40] ?_ ?_
 refine qa2 (by kernel_rfl) ?_ _
 have hbz:=hb.trans (((lz j46 j54)).mono lw)
 clear hmy2 HM
 go_wp2
 go_roundw
 case rel=>exact⟨i+1,f.e,by first | rfl | (congr 1; omega) | go_num,by omega,hbz,hmy3,Lib.hid fun h _=>(by simp only [Nat.add_sub_cancel]; rw [HF.out]),Lib.hid ⟨fun h=>absurd h (Nat.succ_ne_zero _),fun _=>by omega⟩⟩
 case measure=>first | (simp [intOf]; done) | (simp [intOf]; omega)
theorem qyn{n:Nat}{fs:List Fv}{z k q:Int}(hk:qmh n fs z=k)(hq:qbo n fs=q):(q≠0->k=q)/\(q=0->z < 0∨65535 < z->k=2)/\(q=0->¬ (z < 0∨65535 < z)->k=0):=by
 subst hk hq
 unfold qmh
 refine⟨fun h=>by rw [if_pos h],fun h h2=>by rw [if_neg (by rw [h]; simp),if_pos h2],fun h h2=>by rw [if_neg (by rw [h]; simp),if_neg h2]⟩
end Ma
end Go.Proofs.YtmbppgjhdcmckaaGreatDoor