/- headcountlaw06.half and alive: walks (printed by a program of mine). -/
import Derived.Test.YtmbppgjhdcmckaaGreatDoorBj12
set_option maxHeartbeats 102400000
set_option maxRecDepth 100000
namespace Go.Proofs.YtmbppgjhdcmckaaGreatDoor
open Go.RowKit
namespace Ma
open Dp Dy
theorem MRows.on{w w':World}{m:Mv}(h:MRows w 0 w.heap.size m)(hb:Below w.heap.size w w'):MRows w' 0 w'.heap.size m:=(h.below hb (Nat.le_refl _)).more (Nat.le_refl _) hb.size
def Dv.great(d:Dv):Bool:=Pa.Dy.great ⟨d.s,d.xs,d.e⟩
def qh6(m:Mv):Bool:=m.S.great || m.W.great || m.C.great || m.A.great
theorem qnf{m:Mv}(h:qh6 m=false):∀ x,x < 4->(m.get x).xs.length<=42/\(m.get x).e<=1100:=by
 have hd:∀ d:Dv,d.great=false->d.xs.length<=42/\d.e<=1100:=fun d h=>by
  simp [Dv.great,Pa.Dy.great] at h
  omega
 unfold qh6 at h
 simp only [Bool.or_eq_false_iff] at h
 exact four (hd _ h.1.1.1) (hd _ h.1.1.2) (hd _ h.1.2) (hd _ h.2)
theorem qtd(w:World)(m:Mv){lo hi:Nat}(hRm:MRows w lo hi m)(k:Bool)(hk:qh6 m=k) :
  Calls Tryz.prog 32 #[.agg #[.bool m.S.s,.slice m.S.A m.S.n m.S.c,.int .i64 m.S.e,.bool m.W.s,.slice m.W.A m.W.n m.W.c,.int .i64 m.W.e,.bool m.C.s,.slice m.C.A m.C.n m.C.c,.int .i64 m.C.e,.bool m.A.s,.slice m.A.A m.A.n m.A.c,.int .i64 m.A.e]] w fun e w'=>e=.returned (.bool k)/\Below w.heap.size w w':=by
 have L0:=Lib.hid (hRm.get 0).len
 have L1:=Lib.hid (hRm.get 1).len
 have L2:=Lib.hid (hRm.get 2).len
 have L3:=Lib.hid (hRm.get 3).len
 unfold qh6 at hk
 obtain⟨g0,h0⟩:∃ g,m.S.great=g:=⟨_,rfl⟩
 obtain⟨g1,h1⟩:∃ g,m.W.great=g:=⟨_,rfl⟩
 obtain⟨g2,h2⟩:∃ g,m.C.great=g:=⟨_,rfl⟩
 obtain⟨g3,h3⟩:∃ g,m.A.great=g:=⟨_,rfl⟩
 rw [h0,h1,h2,h3] at hk
 have HK:=Lib.hid hk
 have H0:=Lib.hid h0
 have H1:=Lib.hid h1
 have H2:=Lib.hid h2
 have H3:=Lib.hid h3
 clear hk h0 h1 h2 h3
 generalize hw:w.alloc (.cells #[.bool m.S.s,.slice m.S.A m.S.n m.S.c,.int .i64 m.S.e,.bool m.W.s,.slice m.W.A m.W.n m.W.c,.int .i64 m.W.e,.bool m.C.s,.slice m.C.A m.C.n m.C.c,.int .i64 m.C.e,.bool m.A.s,.slice m.A.A m.A.n m.A.c,.int .i64 m.A.e] 26)=w1
 have hM1:qaz w1 w.heap.size m:=by rw [<-hw]; exact heap_alloc_last _ _
 have hb:Below w.heap.size w w1:=by rw [<-hw]; exact (Below.refl _ w).alloc (Nat.le_refl _) _
 have hlo:w.heap.size+1<=w1.heap.size:=by rw [<-hw]; simp
 obtain⟨⟨k0,k1,k2,k3,k4,k5,k6,k7,k8,k9,k10,k11⟩,kf⟩:=qaz.cells hM1
 go_enter Tryz.func32,Tryz.ntmps32
 go_wp2_with fail
 try clear hw
 refine (Pa.rGreat_any w1 m.S.s m.S.A m.S.n m.S.c m.S.xs m.S.e L0.out g0 H0.out).mono ?_
 rintro e w2 ⟨rfl,hB⟩
 clear k0 k1 k2 k3 k4 k5 k6 k7 k8 k9 k10 k11 kf
 have l2:=hB.size
 replace hM1:qaz w2 w.heap.size m:=qb2 hM1 hB (by omega)
 replace hb:=hb.trans (hB.mono (by omega))
 clear hB
 cases g0
 rotate_left
 . go_wp2
   go_ret
   exact⟨by rw [<-HK.out]; simp,hb⟩
 skip
 obtain⟨⟨k0,k1,k2,k3,k4,k5,k6,k7,k8,k9,k10,k11⟩,kf⟩:=qaz.cells hM1
 go_wp2_with fail
 refine (Pa.rGreat_any w2 m.W.s m.W.A m.W.n m.W.c m.W.xs m.W.e L1.out g1 H1.out).mono ?_
 rintro e w3 ⟨rfl,hB⟩
 clear k0 k1 k2 k3 k4 k5 k6 k7 k8 k9 k10 k11 kf
 have l3:=hB.size
 replace hM1:qaz w3 w.heap.size m:=qb2 hM1 hB (by omega)
 replace hb:=hb.trans (hB.mono (by omega))
 clear hB
 cases g1
 rotate_left
 . go_wp2
   go_ret
   exact⟨by rw [<-HK.out]; simp,hb⟩
 skip
 obtain⟨⟨k0,k1,k2,k3,k4,k5,k6,k7,k8,k9,k10,k11⟩,kf⟩:=qaz.cells hM1
 go_wp2_with fail
 refine (Pa.rGreat_any w3 m.C.s m.C.A m.C.n m.C.c m.C.xs m.C.e L2.out g2 H2.out).mono ?_
 rintro e w4 ⟨rfl,hB⟩
 clear k0 k1 k2 k3 k4 k5 k6 k7 k8 k9 k10 k11 kf
 have l4:=hB.size
 replace hM1:qaz w4 w.heap.size m:=qb2 hM1 hB (by omega)
 replace hb:=hb.trans (hB.mono (by omega))
 clear hB
 cases g2
 rotate_left
 . go_wp2
   go_ret
   exact⟨by rw [<-HK.out]; simp,hb⟩
 skip
 obtain⟨⟨k0,k1,k2,k3,k4,k5,k6,k7,k8,k9,k10,k11⟩,kf⟩:=qaz.cells hM1
 go_wp2_with fail
 refine (Pa.rGreat_any w4 m.A.s m.A.A m.A.n m.A.c m.A.xs m.A.e L3.out g3 H3.out).mono ?_
 rintro e w5 ⟨rfl,hB⟩
 clear k0 k1 k2 k3 k4 k5 k6 k7 k8 k9 k10 k11 kf
 have l5:=hB.size
 replace hM1:qaz w5 w.heap.size m:=qb2 hM1 hB (by omega)
 replace hb:=hb.trans (hB.mono (by omega))
 clear hB
 go_wp2
 go_ret
 exact⟨by rw [<-HK.out]; simp,hb⟩
open Classical in
noncomputable def qn3(d:Dv):Bool:=decide (d.may)
open Classical in
noncomputable def qr6(m:Mv):Bool:=qn3 m.S && qn3 m.W && qn3 m.C && qn3 m.A
theorem qm7(m:Mv):qr6 m=true↔m.may:=by
 unfold qr6 qn3
 simp only [Bool.and_eq_true,decide_eq_true_eq]
 exact⟨fun h=>four h.1.1.1 h.1.1.2 h.1.2 h.2,fun h=>⟨⟨⟨h 0 (by decide),h 1 (by decide)⟩,h 2 (by decide)⟩,h 3 (by decide)⟩⟩
open Classical in
theorem rMay_all(w:World)(d:Dv)(hX:qae w 0 w.heap.size .u32 d.A d.n d.xs)(k:Bool)(hk:qn3 d=k) :
  Calls Tryz.prog 181 #[.agg #[.bool d.s,.slice d.A d.n d.c,.int .i64 d.e]] w fun e w'=>e=.returned (.bool k)/\Below w.heap.size w w':=by
 unfold qn3 at hk
 by_cases h:d.may
 . rw [decide_eq_true h] at hk
   subst hk
   exact qhh w 0 w.heap.size d.s d.A d.n d.c d.xs d.e hX (Nat.le_refl _) h
 rw [decide_eq_false h] at hk
 subst hk
 exact qfg w 0 w.heap.size d.s d.A d.n d.c d.xs d.e hX (Nat.le_refl _) h
theorem qwk(w:World)(a b:Mv)(hRa:MRows w 0 w.heap.size a)(hRb:MRows w 0 w.heap.size b)(k:Bool)(hk:qfp a b=k) :
  Calls Tryz.prog 45 #[.agg #[.bool a.S.s,.slice a.S.A a.S.n a.S.c,.int .i64 a.S.e,.bool a.W.s,.slice a.W.A a.W.n a.W.c,.int .i64 a.W.e,.bool a.C.s,.slice a.C.A a.C.n a.C.c,.int .i64 a.C.e,.bool a.A.s,.slice a.A.A a.A.n a.A.c,.int .i64 a.A.e],.agg #[.bool b.S.s,.slice b.S.A b.S.n b.S.c,.int .i64 b.S.e,.bool b.W.s,.slice b.W.A b.W.n b.W.c,.int .i64 b.W.e,.bool b.C.s,.slice b.C.A b.C.n b.C.c,.int .i64 b.C.e,.bool b.A.s,.slice b.A.A b.A.n b.A.c,.int .i64 b.A.e]] w fun e w'=>e=.returned (.bool k)/\Below w.heap.size w w':=by
 unfold qfp at hk
 obtain⟨g0,h0⟩:∃ g,qdd a.S b.S=g:=⟨_,rfl⟩
 obtain⟨g1,h1⟩:∃ g,qdd a.W b.W=g:=⟨_,rfl⟩
 obtain⟨g2,h2⟩:∃ g,qdd a.C b.C=g:=⟨_,rfl⟩
 obtain⟨g3,h3⟩:∃ g,qdd a.A b.A=g:=⟨_,rfl⟩
 rw [h0,h1,h2,h3] at hk
 have HK:=Lib.hid hk
 have H0:=Lib.hid h0
 have H1:=Lib.hid h1
 have H2:=Lib.hid h2
 have H3:=Lib.hid h3
 clear hk h0 h1 h2 h3
 generalize hw:(w.alloc (.cells #[.bool a.S.s,.slice a.S.A a.S.n a.S.c,.int .i64 a.S.e,.bool a.W.s,.slice a.W.A a.W.n a.W.c,.int .i64 a.W.e,.bool a.C.s,.slice a.C.A a.C.n a.C.c,.int .i64 a.C.e,.bool a.A.s,.slice a.A.A a.A.n a.A.c,.int .i64 a.A.e] 26)).alloc (.cells #[.bool b.S.s,.slice b.S.A b.S.n b.S.c,.int .i64 b.S.e,.bool b.W.s,.slice b.W.A b.W.n b.W.c,.int .i64 b.W.e,.bool b.C.s,.slice b.C.A b.C.n b.C.c,.int .i64 b.C.e,.bool b.A.s,.slice b.A.A b.A.n b.A.c,.int .i64 b.A.e] 26)=w1
 obtain⟨hA1,hB1,hb,hlo,hhi⟩:=qdy w _ _ hw
 replace hA1:qaz w1 w.heap.size a:=hA1
 replace hB1:qaz w1 (w.heap.size+1) b:=hB1
 replace hRa:=hRa.below hb (Nat.le_refl _)
 replace hRb:=hRb.below hb (Nat.le_refl _)
 obtain⟨⟨k0,k1,k2,k3,k4,k5,k6,k7,k8,k9,k10,k11⟩,kf⟩:=qaz.cells hA1
 obtain⟨⟨z0,z1,z2,z3,z4,z5,z6,z7,z8,z9,z10,z11⟩,zf⟩:=qaz.cells hB1
 go_enter Tryz.func45,Tryz.ntmps45
 go_wp2_with fail
 try clear hw
 refine (Pa.rSame_any w1 a.S.s b.S.s a.S.A b.S.A a.S.n a.S.c b.S.n b.S.c a.S.xs b.S.xs a.S.e b.S.e (qae.more hRa.S (Nat.le_refl _) (by omega)) (qae.more hRb.S (Nat.le_refl _) (by omega)) g0 H0.out).mono ?_
 rintro e w2 ⟨rfl,hB⟩
 clear k0 k1 k2 k3 k4 k5 k6 k7 k8 k9 k10 k11 kf z0 z1 z2 z3 z4 z5 z6 z7 z8 z9 z10 z11 zf
 have l2:=hB.size
 replace hA1:qaz w2 w.heap.size a:=qb2 hA1 hB (by omega)
 replace hB1:qaz w2 (w.heap.size+1) b:=qb2 hB1 hB (by omega)
 replace hRa:=hRa.below hB (by omega)
 replace hRb:=hRb.below hB (by omega)
 replace hb:=hb.trans (hB.mono (by omega))
 clear hB
 cases g0
 . go_wp2
   go_ret
   exact⟨by rw [<-HK.out]; simp,hb⟩
 skip
 obtain⟨⟨k0,k1,k2,k3,k4,k5,k6,k7,k8,k9,k10,k11⟩,kf⟩:=qaz.cells hA1
 obtain⟨⟨z0,z1,z2,z3,z4,z5,z6,z7,z8,z9,z10,z11⟩,zf⟩:=qaz.cells hB1
 go_wp2_with fail
 refine (Pa.rSame_any w2 a.W.s b.W.s a.W.A b.W.A a.W.n a.W.c b.W.n b.W.c a.W.xs b.W.xs a.W.e b.W.e (qae.more hRa.W (Nat.le_refl _) (by omega)) (qae.more hRb.W (Nat.le_refl _) (by omega)) g1 H1.out).mono ?_
 rintro e w3 ⟨rfl,hB⟩
 clear k0 k1 k2 k3 k4 k5 k6 k7 k8 k9 k10 k11 kf z0 z1 z2 z3 z4 z5 z6 z7 z8 z9 z10 z11 zf
 have l3:=hB.size
 replace hA1:qaz w3 w.heap.size a:=qb2 hA1 hB (by omega)
 replace hB1:qaz w3 (w.heap.size+1) b:=qb2 hB1 hB (by omega)
 replace hRa:=hRa.below hB (by omega)
 replace hRb:=hRb.below hB (by omega)
 replace hb:=hb.trans (hB.mono (by omega))
 clear hB
 cases g1
 . go_wp2
   go_ret
   exact⟨by rw [<-HK.out]; simp,hb⟩
 skip
 obtain⟨⟨k0,k1,k2,k3,k4,k5,k6,k7,k8,k9,k10,k11⟩,kf⟩:=qaz.cells hA1
 obtain⟨⟨z0,z1,z2,z3,z4,z5,z6,z7,z8,z9,z10,z11⟩,zf⟩:=qaz.cells hB1
 go_wp2_with fail
 refine (Pa.rSame_any w3 a.C.s b.C.s a.C.A b.C.A a.C.n a.C.c b.C.n b.C.c a.C.xs b.C.xs a.C.e b.C.e (qae.more hRa.C (Nat.le_refl _) (by omega)) (qae.more hRb.C (Nat.le_refl _) (by omega)) g2 H2.out).mono ?_
 rintro e w4 ⟨rfl,hB⟩
 clear k0 k1 k2 k3 k4 k5 k6 k7 k8 k9 k10 k11 kf z0 z1 z2 z3 z4 z5 z6 z7 z8 z9 z10 z11 zf
 have l4:=hB.size
 replace hA1:qaz w4 w.heap.size a:=qb2 hA1 hB (by omega)
 replace hB1:qaz w4 (w.heap.size+1) b:=qb2 hB1 hB (by omega)
 replace hRa:=hRa.below hB (by omega)
 replace hRb:=hRb.below hB (by omega)
 replace hb:=hb.trans (hB.mono (by omega))
 clear hB
 cases g2
 . go_wp2
   go_ret
   exact⟨by rw [<-HK.out]; simp,hb⟩
 skip
 obtain⟨⟨k0,k1,k2,k3,k4,k5,k6,k7,k8,k9,k10,k11⟩,kf⟩:=qaz.cells hA1
 obtain⟨⟨z0,z1,z2,z3,z4,z5,z6,z7,z8,z9,z10,z11⟩,zf⟩:=qaz.cells hB1
 go_wp2_with fail
 refine (Pa.rSame_any w4 a.A.s b.A.s a.A.A b.A.A a.A.n a.A.c b.A.n b.A.c a.A.xs b.A.xs a.A.e b.A.e (qae.more hRa.A (Nat.le_refl _) (by omega)) (qae.more hRb.A (Nat.le_refl _) (by omega)) g3 H3.out).mono ?_
 rintro e w5 ⟨rfl,hB⟩
 clear k0 k1 k2 k3 k4 k5 k6 k7 k8 k9 k10 k11 kf z0 z1 z2 z3 z4 z5 z6 z7 z8 z9 z10 z11 zf
 have l5:=hB.size
 replace hA1:qaz w5 w.heap.size a:=qb2 hA1 hB (by omega)
 replace hB1:qaz w5 (w.heap.size+1) b:=qb2 hB1 hB (by omega)
 replace hRa:=hRa.below hB (by omega)
 replace hRb:=hRb.below hB (by omega)
 replace hb:=hb.trans (hB.mono (by omega))
 clear hB
 go_wp2
 go_ret
 exact⟨by rw [<-HK.out]; simp,hb⟩
theorem qq6(w:World)(m:Mv)(hRm:MRows w 0 w.heap.size m)(k:Bool)(hk:qr6 m=k) :
  Calls Tryz.prog 140 #[.agg #[.bool m.S.s,.slice m.S.A m.S.n m.S.c,.int .i64 m.S.e,.bool m.W.s,.slice m.W.A m.W.n m.W.c,.int .i64 m.W.e,.bool m.C.s,.slice m.C.A m.C.n m.C.c,.int .i64 m.C.e,.bool m.A.s,.slice m.A.A m.A.n m.A.c,.int .i64 m.A.e]] w fun e w'=>e=.returned (.bool k)/\Below w.heap.size w w':=by
 unfold qr6 at hk
 obtain⟨g0,h0⟩:∃ g,qn3 m.S=g:=⟨_,rfl⟩
 obtain⟨g1,h1⟩:∃ g,qn3 m.W=g:=⟨_,rfl⟩
 obtain⟨g2,h2⟩:∃ g,qn3 m.C=g:=⟨_,rfl⟩
 obtain⟨g3,h3⟩:∃ g,qn3 m.A=g:=⟨_,rfl⟩
 rw [h0,h1,h2,h3] at hk
 have HK:=Lib.hid hk
 have H0:=Lib.hid h0
 have H1:=Lib.hid h1
 have H2:=Lib.hid h2
 have H3:=Lib.hid h3
 clear hk h0 h1 h2 h3
 generalize hw:w.alloc (.cells #[.bool m.S.s,.slice m.S.A m.S.n m.S.c,.int .i64 m.S.e,.bool m.W.s,.slice m.W.A m.W.n m.W.c,.int .i64 m.W.e,.bool m.C.s,.slice m.C.A m.C.n m.C.c,.int .i64 m.C.e,.bool m.A.s,.slice m.A.A m.A.n m.A.c,.int .i64 m.A.e] 26)=w1
 have hM1:qaz w1 w.heap.size m:=by rw [<-hw]; exact heap_alloc_last _ _
 have hb:Below w.heap.size w w1:=by rw [<-hw]; exact (Below.refl _ w).alloc (Nat.le_refl _) _
 have hlo:w.heap.size+1<=w1.heap.size:=by rw [<-hw]; simp
 replace hRm:=hRm.below hb (Nat.le_refl _)
 obtain⟨⟨k0,k1,k2,k3,k4,k5,k6,k7,k8,k9,k10,k11⟩,kf⟩:=qaz.cells hM1
 go_enter Tryz.func140,Tryz.ntmps140
 go_wp2_with fail
 try clear hw
 refine (rMay_all w1 m.S (qae.more hRm.S (Nat.le_refl _) (by omega)) g0 H0.out).mono ?_
 rintro e w2 ⟨rfl,hB⟩
 clear k0 k1 k2 k3 k4 k5 k6 k7 k8 k9 k10 k11 kf
 have l2:=hB.size
 replace hM1:qaz w2 w.heap.size m:=qb2 hM1 hB (by omega)
 replace hRm:=hRm.below hB (by omega)
 replace hb:=hb.trans (hB.mono (by omega))
 clear hB
 cases g0
 . go_wp2
   go_ret
   exact⟨by rw [<-HK.out]; simp,hb⟩
 skip
 obtain⟨⟨k0,k1,k2,k3,k4,k5,k6,k7,k8,k9,k10,k11⟩,kf⟩:=qaz.cells hM1
 go_wp2_with fail
 refine (rMay_all w2 m.W (qae.more hRm.W (Nat.le_refl _) (by omega)) g1 H1.out).mono ?_
 rintro e w3 ⟨rfl,hB⟩
 clear k0 k1 k2 k3 k4 k5 k6 k7 k8 k9 k10 k11 kf
 have l3:=hB.size
 replace hM1:qaz w3 w.heap.size m:=qb2 hM1 hB (by omega)
 replace hRm:=hRm.below hB (by omega)
 replace hb:=hb.trans (hB.mono (by omega))
 clear hB
 cases g1
 . go_wp2
   go_ret
   exact⟨by rw [<-HK.out]; simp,hb⟩
 skip
 obtain⟨⟨k0,k1,k2,k3,k4,k5,k6,k7,k8,k9,k10,k11⟩,kf⟩:=qaz.cells hM1
 go_wp2_with fail
 refine (rMay_all w3 m.C (qae.more hRm.C (Nat.le_refl _) (by omega)) g2 H2.out).mono ?_
 rintro e w4 ⟨rfl,hB⟩
 clear k0 k1 k2 k3 k4 k5 k6 k7 k8 k9 k10 k11 kf
 have l4:=hB.size
 replace hM1:qaz w4 w.heap.size m:=qb2 hM1 hB (by omega)
 replace hRm:=hRm.below hB (by omega)
 replace hb:=hb.trans (hB.mono (by omega))
 clear hB
 cases g2
 . go_wp2
   go_ret
   exact⟨by rw [<-HK.out]; simp,hb⟩
 skip
 obtain⟨⟨k0,k1,k2,k3,k4,k5,k6,k7,k8,k9,k10,k11⟩,kf⟩:=qaz.cells hM1
 go_wp2_with fail
 refine (rMay_all w4 m.A (qae.more hRm.A (Nat.le_refl _) (by omega)) g3 H3.out).mono ?_
 rintro e w5 ⟨rfl,hB⟩
 clear k0 k1 k2 k3 k4 k5 k6 k7 k8 k9 k10 k11 kf
 have l5:=hB.size
 replace hM1:qaz w5 w.heap.size m:=qb2 hM1 hB (by omega)
 replace hRm:=hRm.below hB (by omega)
 replace hb:=hb.trans (hB.mono (by omega))
 clear hB
 go_wp2
 go_ret
 exact⟨by rw [<-HK.out]; simp,hb⟩
theorem qs9(w:World)(m:Mv)(hR:MRows w 0 w.heap.size m)(hn:∀ x,x < 4->(m.get x).n<=1000000) :
  Calls Tryz.prog 34 #[.agg #[.bool m.S.s,.slice m.S.A m.S.n m.S.c,.int .i64 m.S.e,.bool m.W.s,.slice m.W.A m.W.n m.W.c,.int .i64 m.W.e,.bool m.C.s,.slice m.C.A m.C.n m.C.c,.int .i64 m.C.e,.bool m.A.s,.slice m.A.A m.A.n m.A.c,.int .i64 m.A.e]] w fun e w'=>∃ m':Mv,e=.returned (.agg #[.bool m'.S.s,.slice m'.S.A m'.S.n m'.S.c,.int .i64 m'.S.e,.bool m'.W.s,.slice m'.W.A m'.W.n m'.W.c,.int .i64 m'.W.e,.bool m'.C.s,.slice m'.C.A m'.C.n m'.C.c,.int .i64 m'.C.e,.bool m'.A.s,.slice m'.A.A m'.A.n m'.A.c,.int .i64 m'.A.e])/\(∀ x,x < 4->qet (m.get x) (m'.get x))/\Below w.heap.size w w'/\MRows w' w.heap.size w'.heap.size m':=by
 generalize hw1:(w.alloc (.cells #[.bool m.S.s,.slice m.S.A m.S.n m.S.c,.int .i64 m.S.e,.bool m.W.s,.slice m.W.A m.W.n m.W.c,.int .i64 m.W.e,.bool m.C.s,.slice m.C.A m.C.n m.C.c,.int .i64 m.C.e,.bool m.A.s,.slice m.A.A m.A.n m.A.c,.int .i64 m.A.e] 26)).alloc (.cells #[.bool false,.slice none 0 0,.int .i64 0,.bool false,.slice none 0 0,.int .i64 0,.bool false,.slice none 0 0,.int .i64 0,.bool false,.slice none 0 0,.int .i64 0] 26)=w1
 obtain⟨hM,hZ,hBL,lo1,hi1⟩:=qdy w _ _ hw1
 replace hM:qaz w1 w.heap.size m:=hM
 replace hZ:qaz w1 (w.heap.size+1) ZM:=hZ
 replace hBL:Below w.heap.size w w1:=hBL
 have Rm:MRows w1 0 w1.heap.size m:=hR.on hBL
 have n0:m.S.n<=1000000:=hn 0 (by decide)
 have n1:m.W.n<=1000000:=hn 1 (by decide)
 have n2:m.C.n<=1000000:=hn 2 (by decide)
 have n3:m.A.n<=1000000:=hn 3 (by decide)
 clear hn
 go_enter Tryz.func34,Tryz.ntmps34
 go_wp2_with fail
 try clear hw1
 refine zB (qan w1) [13] 14 ?_
 have kp_:qan w1 w1.drew:=fun _ _=>rfl
 have hB:Below w1.heap.size w1 w1.drew:=(Below.refl _ _).drew
 replace Rm:MRows w1.drew 0 w1.drew.heap.size _:=MRows.on Rm hB
 replace hBL:=hBL.trans (hB.mono (by omega))
 have lw_1:w1.heap.size<=w1.drew.heap.size:=hB.size
 clear hB
 generalize w1.drew=w_1 at *
 refine zM 4 [0,3,6,9] ?_ ?_
 refine zD 1 (.agg #[.bool m.S.s,.slice m.S.A m.S.n m.S.c,.int .i64 m.S.e]) rfl ?yr_2 ?zr_2
 case yr_2 =>
  intro w' h1
  obtain⟨⟨k0,k1,k2,k3,k4,k5,k6,k7,k8,k9,k10,k11⟩,kf⟩:=qaz.cells ((h1 _ (by omega)).trans hM)
  go_simp
 try simp only [Act.put,zp]
 refine zD 4 (.agg #[.bool m.W.s,.slice m.W.A m.W.n m.W.c,.int .i64 m.W.e]) rfl ?yr_3 ?zr_3
 case yr_3 =>
  intro w' h1
  obtain⟨⟨k0,k1,k2,k3,k4,k5,k6,k7,k8,k9,k10,k11⟩,kf⟩:=qaz.cells ((h1 _ (by omega)).trans hM)
  go_simp
 try simp only [Act.put,zp]
 refine zD 7 (.agg #[.bool m.C.s,.slice m.C.A m.C.n m.C.c,.int .i64 m.C.e]) rfl ?yr_4 ?zr_4
 case yr_4 =>
  intro w' h1
  obtain⟨⟨k0,k1,k2,k3,k4,k5,k6,k7,k8,k9,k10,k11⟩,kf⟩:=qaz.cells ((h1 _ (by omega)).trans hM)
  go_simp
 try simp only [Act.put,zp]
 refine zD 10 (.agg #[.bool m.A.s,.slice m.A.A m.A.n m.A.c,.int .i64 m.A.e]) rfl ?yr_5 ?zr_5
 case yr_5 =>
  intro w' h1
  obtain⟨⟨k0,k1,k2,k3,k4,k5,k6,k7,k8,k9,k10,k11⟩,kf⟩:=qaz.cells ((h1 _ (by omega)).trans hM)
  go_simp
 try simp only [Act.put,zp]
 refine zK 2 rfl fun K hK=>?_
 go_simp
 go_at_call 66
 refine (Pa.rTwin_any w_1 m.S.s m.S.A m.S.n m.S.c m.S.xs m.S.e (MRows.get Rm 0) n0).mono ?_
 rintro e' w_6 ⟨A0,c0,rfl,hc0,hB,hlt0,hI⟩
 replace kp_:=qan.on kp_ (by omega) hB
 have lw_6:w_1.heap.size<=w_6.heap.size:=hB.size
 replace Rm:=MRows.on Rm hB
 replace hBL:=hBL.trans (hB.mono (by omega))
 have I0:qae _ (w.heap.size+2) _ .u32 A0 m.S.n m.S.xs:=qae.more hI (by omega) (Nat.le_refl _)
 clear hI hlt0
 clear hB
 refine hK _ _ ⟨fun _ _=>kp_,?_⟩
 clear hK K
 try simp only [Act.put,zp]
 refine zK 5 rfl fun K hK=>?_
 go_simp
 go_at_call 66
 refine (Pa.rTwin_any w_6 m.W.s m.W.A m.W.n m.W.c m.W.xs m.W.e (MRows.get Rm 1) n1).mono ?_
 rintro e' w_7 ⟨A1,c1,rfl,hc1,hB,hlt1,hI⟩
 replace kp_:=qan.on kp_ (by omega) hB
 have lw_7:w_6.heap.size<=w_7.heap.size:=hB.size
 replace Rm:=MRows.on Rm hB
 replace I0:=(qae.below I0 hB (Nat.le_refl _)).more (Nat.le_refl _) hB.size
 replace hBL:=hBL.trans (hB.mono (by omega))
 have I1:qae _ (w.heap.size+2) _ .u32 A1 m.W.n m.W.xs:=qae.more hI (by omega) (Nat.le_refl _)
 clear hI hlt1
 clear hB
 refine hK _ _ ⟨fun _ _=>kp_,?_⟩
 clear hK K
 try simp only [Act.put,zp]
 refine zK 8 rfl fun K hK=>?_
 go_simp
 go_at_call 66
 refine (Pa.rTwin_any w_7 m.C.s m.C.A m.C.n m.C.c m.C.xs m.C.e (MRows.get Rm 2) n2).mono ?_
 rintro e' w_8 ⟨A2,c2,rfl,hc2,hB,hlt2,hI⟩
 replace kp_:=qan.on kp_ (by omega) hB
 have lw_8:w_7.heap.size<=w_8.heap.size:=hB.size
 replace Rm:=MRows.on Rm hB
 replace I0:=(qae.below I0 hB (Nat.le_refl _)).more (Nat.le_refl _) hB.size
 replace I1:=(qae.below I1 hB (Nat.le_refl _)).more (Nat.le_refl _) hB.size
 replace hBL:=hBL.trans (hB.mono (by omega))
 have I2:qae _ (w.heap.size+2) _ .u32 A2 m.C.n m.C.xs:=qae.more hI (by omega) (Nat.le_refl _)
 clear hI hlt2
 clear hB
 refine hK _ _ ⟨fun _ _=>kp_,?_⟩
 clear hK K
 try simp only [Act.put,zp]
 refine zK 11 rfl fun K hK=>?_
 go_simp
 go_at_call 66
 refine (Pa.rTwin_any w_8 m.A.s m.A.A m.A.n m.A.c m.A.xs m.A.e (MRows.get Rm 3) n3).mono ?_
 rintro e' w_9 ⟨A3,c3,rfl,hc3,hB,hlt3,hI⟩
 replace kp_:=qan.on kp_ (by omega) hB
 have lw_9:w_8.heap.size<=w_9.heap.size:=hB.size
 replace Rm:=MRows.on Rm hB
 replace I0:=(qae.below I0 hB (Nat.le_refl _)).more (Nat.le_refl _) hB.size
 replace I1:=(qae.below I1 hB (Nat.le_refl _)).more (Nat.le_refl _) hB.size
 replace I2:=(qae.below I2 hB (Nat.le_refl _)).more (Nat.le_refl _) hB.size
 replace hBL:=hBL.trans (hB.mono (by omega))
 have I3:qae _ (w.heap.size+2) _ .u32 A3 m.A.n m.A.xs:=qae.more hI (by omega) (Nat.le_refl _)
 clear hI hlt3
 clear hB
 refine hK _ _ ⟨fun _ _=>kp_,?_⟩
 clear hK K
 try simp only [Act.put,zp]
 refine zM 1 [12] ?_ ?_
 have hZ2:qaz w_9 (w.heap.size+1) ZM:=(kp_ _ (by omega)).trans hZ
 obtain⟨⟨z0,z1,z2,z3,z4,z5,z6,z7,z8,z9,z10,z11⟩,zf⟩:=qaz.cells hZ2
 refine zK 13 rfl fun K hK=>?_
 go_simp
 refine hK _ _ ⟨fun h=>absurd h (by decide),?_⟩
 clear hK K z0 z1 z2 z3 z4 z5 z6 z7 z8 z9 z10 z11 zf
 try simp only [Act.put,zp]
 obtain⟨M,hMe⟩:∃ M:Mv,M=⟨⟨m.S.s,A0,m.S.n,c0,m.S.e,m.S.xs⟩,⟨m.W.s,A1,m.W.n,c1,m.W.e,m.W.xs⟩,⟨m.C.s,A2,m.C.n,c2,m.C.e,m.C.xs⟩,⟨m.A.s,A3,m.A.n,c3,m.A.e,m.A.xs⟩⟩:=⟨_,rfl⟩
 have hX:qaz ((((((((((((w_9.setCell ⟨w.heap.size+1,0,none⟩ (.bool m.S.s)).setCell ⟨w.heap.size+1,1,none⟩ (.slice A0 m.S.n c0)).setCell ⟨w.heap.size+1,2,none⟩ (.int .i64 m.S.e)).setCell ⟨w.heap.size+1,3,none⟩ (.bool m.W.s)).setCell ⟨w.heap.size+1,4,none⟩ (.slice A1 m.W.n c1)).setCell ⟨w.heap.size+1,5,none⟩ (.int .i64 m.W.e)).setCell ⟨w.heap.size+1,6,none⟩ (.bool m.C.s)).setCell ⟨w.heap.size+1,7,none⟩ (.slice A2 m.C.n c2)).setCell ⟨w.heap.size+1,8,none⟩ (.int .i64 m.C.e)).setCell ⟨w.heap.size+1,9,none⟩ (.bool m.A.s)).setCell ⟨w.heap.size+1,10,none⟩ (.slice A3 m.A.n c3)).setCell ⟨w.heap.size+1,11,none⟩ (.int .i64 m.A.e)) (w.heap.size+1) M:=by rw [hMe]; exact qaz.all hZ2 ⟨⟨m.S.s,A0,m.S.n,c0,m.S.e,m.S.xs⟩,⟨m.W.s,A1,m.W.n,c1,m.W.e,m.W.xs⟩,⟨m.C.s,A2,m.C.n,c2,m.C.e,m.C.xs⟩,⟨m.A.s,A3,m.A.n,c3,m.A.e,m.A.xs⟩⟩
 have hRX:MRows ((((((((((((w_9.setCell ⟨w.heap.size+1,0,none⟩ (.bool m.S.s)).setCell ⟨w.heap.size+1,1,none⟩ (.slice A0 m.S.n c0)).setCell ⟨w.heap.size+1,2,none⟩ (.int .i64 m.S.e)).setCell ⟨w.heap.size+1,3,none⟩ (.bool m.W.s)).setCell ⟨w.heap.size+1,4,none⟩ (.slice A1 m.W.n c1)).setCell ⟨w.heap.size+1,5,none⟩ (.int .i64 m.W.e)).setCell ⟨w.heap.size+1,6,none⟩ (.bool m.C.s)).setCell ⟨w.heap.size+1,7,none⟩ (.slice A2 m.C.n c2)).setCell ⟨w.heap.size+1,8,none⟩ (.int .i64 m.C.e)).setCell ⟨w.heap.size+1,9,none⟩ (.bool m.A.s)).setCell ⟨w.heap.size+1,10,none⟩ (.slice A3 m.A.n c3)).setCell ⟨w.heap.size+1,11,none⟩ (.int .i64 m.A.e)) w.heap.size w_9.heap.size M:=by
  rw [hMe]
  have hfar:∀ {A:Option Addr} {n:Nat} {xs:List Int},qae w_9 (w.heap.size+2) w_9.heap.size .u32 A n xs->qae ((((((((((((w_9.setCell ⟨w.heap.size+1,0,none⟩ (.bool m.S.s)).setCell ⟨w.heap.size+1,1,none⟩ (.slice A0 m.S.n c0)).setCell ⟨w.heap.size+1,2,none⟩ (.int .i64 m.S.e)).setCell ⟨w.heap.size+1,3,none⟩ (.bool m.W.s)).setCell ⟨w.heap.size+1,4,none⟩ (.slice A1 m.W.n c1)).setCell ⟨w.heap.size+1,5,none⟩ (.int .i64 m.W.e)).setCell ⟨w.heap.size+1,6,none⟩ (.bool m.C.s)).setCell ⟨w.heap.size+1,7,none⟩ (.slice A2 m.C.n c2)).setCell ⟨w.heap.size+1,8,none⟩ (.int .i64 m.C.e)).setCell ⟨w.heap.size+1,9,none⟩ (.bool m.A.s)).setCell ⟨w.heap.size+1,10,none⟩ (.slice A3 m.A.n c3)).setCell ⟨w.heap.size+1,11,none⟩ (.int .i64 m.A.e)) w.heap.size w_9.heap.size .u32 A n xs:=fun h=>(qgs h fun k h1 h2=>q0i (by omega) ⟨⟨m.S.s,A0,m.S.n,c0,m.S.e,m.S.xs⟩,⟨m.W.s,A1,m.W.n,c1,m.W.e,m.W.xs⟩,⟨m.C.s,A2,m.C.n,c2,m.C.e,m.C.xs⟩,⟨m.A.s,A3,m.A.n,c3,m.A.e,m.A.xs⟩⟩).more (by omega) (Nat.le_refl _)
  exact⟨hfar I0,hfar I1,hfar I2,hfar I3⟩
 have hY:Below w.heap.size w ((((((((((((w_9.setCell ⟨w.heap.size+1,0,none⟩ (.bool m.S.s)).setCell ⟨w.heap.size+1,1,none⟩ (.slice A0 m.S.n c0)).setCell ⟨w.heap.size+1,2,none⟩ (.int .i64 m.S.e)).setCell ⟨w.heap.size+1,3,none⟩ (.bool m.W.s)).setCell ⟨w.heap.size+1,4,none⟩ (.slice A1 m.W.n c1)).setCell ⟨w.heap.size+1,5,none⟩ (.int .i64 m.W.e)).setCell ⟨w.heap.size+1,6,none⟩ (.bool m.C.s)).setCell ⟨w.heap.size+1,7,none⟩ (.slice A2 m.C.n c2)).setCell ⟨w.heap.size+1,8,none⟩ (.int .i64 m.C.e)).setCell ⟨w.heap.size+1,9,none⟩ (.bool m.A.s)).setCell ⟨w.heap.size+1,10,none⟩ (.slice A3 m.A.n c3)).setCell ⟨w.heap.size+1,11,none⟩ (.int .i64 m.A.e)):=qnw hBL (by omega) ⟨⟨m.S.s,A0,m.S.n,c0,m.S.e,m.S.xs⟩,⟨m.W.s,A1,m.W.n,c1,m.W.e,m.W.xs⟩,⟨m.C.s,A2,m.C.n,c2,m.C.e,m.C.xs⟩,⟨m.A.s,A3,m.A.n,c3,m.A.e,m.A.xs⟩⟩
 have hs:w_9.heap.size<=((((((((((((w_9.setCell ⟨w.heap.size+1,0,none⟩ (.bool m.S.s)).setCell ⟨w.heap.size+1,1,none⟩ (.slice A0 m.S.n c0)).setCell ⟨w.heap.size+1,2,none⟩ (.int .i64 m.S.e)).setCell ⟨w.heap.size+1,3,none⟩ (.bool m.W.s)).setCell ⟨w.heap.size+1,4,none⟩ (.slice A1 m.W.n c1)).setCell ⟨w.heap.size+1,5,none⟩ (.int .i64 m.W.e)).setCell ⟨w.heap.size+1,6,none⟩ (.bool m.C.s)).setCell ⟨w.heap.size+1,7,none⟩ (.slice A2 m.C.n c2)).setCell ⟨w.heap.size+1,8,none⟩ (.int .i64 m.C.e)).setCell ⟨w.heap.size+1,9,none⟩ (.bool m.A.s)).setCell ⟨w.heap.size+1,10,none⟩ (.slice A3 m.A.n c3)).setCell ⟨w.heap.size+1,11,none⟩ (.int .i64 m.A.e)).heap.size:=Nat.le_of_eq (qp4 (w:=w_9) (g:=w.heap.size+1) ⟨⟨m.S.s,A0,m.S.n,c0,m.S.e,m.S.xs⟩,⟨m.W.s,A1,m.W.n,c1,m.W.e,m.W.xs⟩,⟨m.C.s,A2,m.C.n,c2,m.C.e,m.C.xs⟩,⟨m.A.s,A3,m.A.n,c3,m.A.e,m.A.xs⟩⟩).symm
 generalize ((((((((((((w_9.setCell ⟨w.heap.size+1,0,none⟩ (.bool m.S.s)).setCell ⟨w.heap.size+1,1,none⟩ (.slice A0 m.S.n c0)).setCell ⟨w.heap.size+1,2,none⟩ (.int .i64 m.S.e)).setCell ⟨w.heap.size+1,3,none⟩ (.bool m.W.s)).setCell ⟨w.heap.size+1,4,none⟩ (.slice A1 m.W.n c1)).setCell ⟨w.heap.size+1,5,none⟩ (.int .i64 m.W.e)).setCell ⟨w.heap.size+1,6,none⟩ (.bool m.C.s)).setCell ⟨w.heap.size+1,7,none⟩ (.slice A2 m.C.n c2)).setCell ⟨w.heap.size+1,8,none⟩ (.int .i64 m.C.e)).setCell ⟨w.heap.size+1,9,none⟩ (.bool m.A.s)).setCell ⟨w.heap.size+1,10,none⟩ (.slice A3 m.A.n c3)).setCell ⟨w.heap.size+1,11,none⟩ (.int .i64 m.A.e))=U at *
 have hTw:∀ x,x < 4->qet (m.get x) (M.get x):=by
  rw [hMe]
  exact four ⟨rfl,rfl,rfl,rfl,hc0⟩ ⟨rfl,rfl,rfl,rfl,hc1⟩ ⟨rfl,rfl,rfl,rfl,hc2⟩ ⟨rfl,rfl,rfl,rfl,hc3⟩
 refine qa2 (by kernel_rfl) ?_ _
 go_wp2
 obtain⟨⟨k0,k1,k2,k3,k4,k5,k6,k7,k8,k9,k10,k11⟩,kf⟩:=qaz.cells hX
 exact bodyPost_ret (v:=.agg #[.bool M.S.s,.slice M.S.A M.S.n M.S.c,.int .i64 M.S.e,.bool M.W.s,.slice M.W.A M.W.n M.W.c,.int .i64 M.W.e,.bool M.C.s,.slice M.C.A M.C.n M.C.c,.int .i64 M.C.e,.bool M.A.s,.slice M.A.A M.A.n M.A.c,.int .i64 M.A.e]) (by simp [results,Tryz.results34,go_sem,k0,k1,k2,k3,k4,k5,k6,k7,k8,k9,k10,k11]) rfl ⟨M,rfl,hTw,hY,hRX.more (Nat.le_refl _) hs⟩
theorem qe7(w:World)(m:Mv):∃ U,w.alloc (.cells #[.bool m.S.s,.slice m.S.A m.S.n m.S.c,.int .i64 m.S.e,.bool m.W.s,.slice m.W.A m.W.n m.W.c,.int .i64 m.W.e,.bool m.C.s,.slice m.C.A m.C.n m.C.c,.int .i64 m.C.e,.bool m.A.s,.slice m.A.A m.A.n m.A.c,.int .i64 m.A.e] 26)=U/\qaz U w.heap.size m/\Below w.heap.size w U/\w.heap.size < U.heap.size :=
 ⟨_,rfl,heap_alloc_last _ _,(Below.refl _ w).alloc (Nat.le_refl _) _,by simp⟩
end Ma
end Go.Proofs.YtmbppgjhdcmckaaGreatDoor
namespace Go.Proofs.YtmbppgjhdcmckaaGreatDoor
open Go.RowKit
namespace Dy
open Dp
theorem qxq{k r v:Nat}{o:Nat}(h:o+2^k*r=v)(h0:0 < r)(hv:v < 18446744073709551616):k < 64:=by
 have h1:2^k*1<=2^k*r:=Nat.mul_le_mul_left _ h0
 have h2:2^k < 2^64:=by
  have e:(2:Nat)^64=18446744073709551616:=by decide
  rw [e]
  omega
 exact (Nat.pow_lt_pow_iff_right (by decide)).1 h2
theorem qz2{k r v:Nat}{out:List Int}(hl:out.length=k)(h:num 2 out+2^k*r=v):num 2 (out++[((r%2:Nat):Int)])+2^(k+1)*(r/2)=v:=by
 rw [qa8,hl,<-h]
 have e1:num 2 [((r%2:Nat):Int)]=r%2:=by
  simp [num]
  omega
 have e2:2^k*r=2^k*(r%2)+2^k*(2*(r/2)):=by
  rw [<-Nat.mul_add]
  congr 1
  omega
 rw [e1,e2,Nat.pow_succ,Nat.mul_assoc]
 omega
theorem qp9(w:World)(v:Nat)(hv:v < 18446744073709551616) :
  Calls Tryz.prog 149 #[.int .u64 v] w fun e w'=>∃ A n c,e=.returned (.slice A n c)/\n<=c/\Below w.heap.size w w'/\qae w' w.heap.size w'.heap.size .u32 A n (qaf 4294967296 v):=by
 obtain⟨i0,hi0,hz0,hz1,hz2⟩:=info_parts Tryz.info5
 go_enter Tryz.func149,Tryz.ntmps149
 go_wp2
 go_loopw [0,3] (fun nv o wr=>∃ k r:Nat,∃ out:List Int,nv=.int .u64 r/\r<=18446744073709551615/\k<=64/\wr.ownsRow w.heap.size 5 1 o k (out.map (Value.int .u8))/\Dig 2 out/\Hid (num 2 out+2^k*r=v)/\Below w.heap.size w wr)
  (fun nv _ _=>(intOf nv).toNat)
 case atStart=>exact⟨0,v,[],rfl,by omega,by omega,⟨rfl,.inl ⟨rfl,rfl⟩⟩,fun x hx=>(by simp at hx),by simp [Hid,num],Below.refl _ _⟩
 obtain⟨k,r,out,rfl,hr,hk,hown,hdo,hnum,hnx⟩:=hrel
 by_cases h0:0 < r
 . have hol:out.length=k:=by have:=hown.1; simpa using this
   have hk64:=qxq hnum.out h0 hv
   have hnum2:=Lib.hid (qz2 hol hnum.out)
   have hdo2:=qgz hdo (r%2) (by omega)
   clear hol hnum
   go_wp2_with (first
    | (at_builtin; refine qag _ rfl (.tmp 6) (.tmp 10) 171 rfl w.heap.size 5 i0 (.int .u8 0) 1 1 Tryz.underlying171 hi0 hz0 hz1 hz2 rfl (by decide) _ _ _ rfl (hown.alloc _) _ _ _ 1 1 [.int .u8 ((r:Int)%2)] rfl (qei _ _ _ _) ?c1 ?c2 ?c3 ?c4 ?_))
   case c1=>first | rfl | (intro u hu; simp at hu; subst hu; rfl)
   case c2=>unfold maxLen; omega
   case c3=>omega
   case c4=>have:=hnx.size; simp; omega
   intro A2 c2 w3 hown2 hgrow2 _
   have hnx2:Below w.heap.size w w3:=(hnx.alloc hnx.size _).grown hgrow2 (by have:=hnx.size; simp; omega) (fun q hq=>(hown.lt q hq).1)
   have hs:(r:Int)%2=((r%2:Nat):Int):=by omega
   rw [hs] at hown2
   have hown3:w3.ownsRow w.heap.size 5 1 (.slice A2 (k+1) c2) (k+1) ((out++[((r%2:Nat):Int)]).map (Value.int .u8)):=by simpa [Nat.add_assoc] using hown2
   clear hs hown2 hgrow2 hown
   go_wp2
   go_roundw
   case rel=>exact⟨k+1,r/2,_,by congr 1,by omega,by omega,hown3,hdo2,hnum2,hnx2⟩
   case measure=>simp [intOf]; omega
 obtain rfl:r=0:=by omega
 obtain⟨A2,c2,rfl,hc2,_⟩:=qbb hown
 have hend:num 2 out=v:=by have:=hnum.out; omega
 have hwf:∀ x∈out,IntKind.u8.min<=x/\x<=IntKind.u8.max:=fun x hx=>by
  have:=hdo x hx
  simp only [IntKind.min,IntKind.max,IntKind.signed,IntKind.bits]
  omega
 have hI:=qae.of_own hown hwf (by omega)
 have HE:=Lib.hid hend
 clear hown hnum hend
 go_wp2_with fail
 refine (qfa _ _ _ _ _ _ out hI hdo hc2 (Nat.le_refl _) (by omega) v HE.out).mono ?_
 rintro e w4 ⟨A4,n4,c4,rfl,hn4,hB,hI4⟩
 go_wp2
 go_ret
 exact⟨A4,n4,c4,rfl,hn4,hnx.trans (hB.mono hnx.size),hI4.more hnx.size (Nat.le_refl _)⟩
theorem qzx(w:World)(z:Int)(h0:-9223372036854775808<=z)(h1:z<=9223372036854775807)(s:Bool)(v:Nat)(hs:decide (z < 0)=s)(hv:z.natAbs=v) :
  Calls Tryz.prog 88 #[.int .i64 z] w fun e w'=>∃ A n c,e=.returned (.agg #[.bool s,.slice A n c,.int .i64 0])/\n<=c/\Below w.heap.size w w'/\qae w' w.heap.size w'.heap.size .u32 A n (qaf 4294967296 v):=by
 generalize hw:w.alloc (.cells #[.bool false,.slice none 0 0,.int .i64 0] 24)=w1
 have X1:w1.heap[w.heap.size]? = some (.cells #[.bool false,.slice none 0 0,.int .i64 0] 24 (0,0)):=by rw [<-hw]; exact heap_alloc_last _ _
 have hb:Below w.heap.size w w1:=by rw [<-hw]; exact (Below.refl _ w).alloc (Nat.le_refl _) _
 have l1:w.heap.size < w1.heap.size:=by rw [<-hw]; simp
 have hv64:v < 18446744073709551616:=by omega
 by_cases hz:z < 0
 . obtain rfl:s=true:=by rw [<-hs]; simpa using hz
   obtain⟨u,hu⟩:∃ u:Nat,v=u+1:=⟨v-1,by omega⟩
   obtain rfl:z=-((u:Int)+1):=by omega
   subst hu
   have e1:IntKind.i64.wrap (-((u:Int)+1)+1)=-(u:Int):=by rw [IntKind.wrap_i64]; omega
   have e2:wrap64 (u:Int)=u:=by unfold wrap64; omega
   have e3:IntKind.u64.wrap (u:Int)=u:=by rw [IntKind.wrap_u64]; omega
   have e4:IntKind.u64.wrap ((u:Int)+1)=((u+1:Nat):Int):=by rw [IntKind.wrap_u64]; omega
   clear hs hv h0
   obtain⟨⟨p0,p1,p2⟩,p3,p4,p5⟩:=qam X1
   go_enter Tryz.func88,Tryz.ntmps88
   go_wp2_with fail
   try clear hw
   clear p0 p1 p2 p3 p4 p5 e1 e2 e3 e4
   refine (qp9 w1 (u+1) hv64).mono ?_
   rintro e w2 ⟨A,n,c,rfl,hc,hB,hI⟩
   have l2:=hB.size
   replace X1:=(hB.block _ l1).trans X1
   replace hb:=hb.trans (hB.mono (by omega))
   clear hB
   obtain⟨⟨p0,p1,p2⟩,p3,p4,p5⟩:=qam X1
   go_wp2
   clear p0 p1 p2 p3 p4 p5
   have X5:=qeq X1 (.bool true) (.slice A n c) (.int .i64 0)
   have b5:=qay hb (g:=w.heap.size) (Nat.le_refl _) (.bool true) (.slice A n c) (.int .i64 0)
   have I5:=qby hI (g:=w.heap.size) (.inl (by omega)) (.bool true) (.slice A n c) (.int .i64 0)
   have s5:=qbw (w:=w2) (g:=w.heap.size) (.bool true) (.slice A n c) (.int .i64 0)
   obtain⟨⟨q0,q1,q2⟩,q3,q4,q5⟩:=qam X5
   exact bodyPost_ret (v:=.agg #[.bool true,.slice A n c,.int .i64 0]) (by simp [results,Tryz.results88,go_sem,q0,q1,q2]) rfl ⟨A,n,c,rfl,hc,b5,I5.more (by omega) (by omega)⟩
 obtain rfl:s=false:=by rw [<-hs]; simpa using hz
 obtain rfl:z=(v:Int):=by omega
 clear hs hv h0
 obtain⟨⟨p0,p1,p2⟩,p3,p4,p5⟩:=qam X1
 go_enter Tryz.func88,Tryz.ntmps88
 go_wp2_with fail
 try clear hw
 clear p0 p1 p2 p3 p4 p5
 refine (qp9 w1 v hv64).mono ?_
 rintro e w2 ⟨A,n,c,rfl,hc,hB,hI⟩
 have l2:=hB.size
 replace X1:=(hB.block _ l1).trans X1
 replace hb:=hb.trans (hB.mono (by omega))
 clear hB
 obtain⟨⟨p0,p1,p2⟩,p3,p4,p5⟩:=qam X1
 go_wp2
 clear p0 p1 p2 p3 p4 p5
 have X5:=qeq X1 (.bool false) (.slice A n c) (.int .i64 0)
 have b5:=qay hb (g:=w.heap.size) (Nat.le_refl _) (.bool false) (.slice A n c) (.int .i64 0)
 have I5:=qby hI (g:=w.heap.size) (.inl (by omega)) (.bool false) (.slice A n c) (.int .i64 0)
 have s5:=qbw (w:=w2) (g:=w.heap.size) (.bool false) (.slice A n c) (.int .i64 0)
 obtain⟨⟨q0,q1,q2⟩,q3,q4,q5⟩:=qam X5
 exact bodyPost_ret (v:=.agg #[.bool false,.slice A n c,.int .i64 0]) (by simp [results,Tryz.results88,go_sem,q0,q1,q2]) rfl ⟨A,n,c,rfl,hc,b5,I5.more (by omega) (by omega)⟩
end Dy
end Go.Proofs.YtmbppgjhdcmckaaGreatDoor
namespace Go.Proofs.YtmbppgjhdcmckaaGreatDoor
open Go.RowKit
namespace Ma
open Dp Dy
theorem qoh{w w':World}{lo hi l h:Nat}{m:Mv}(hI:MRows w l h m)(hb:Below lo w w')(hf:qwu hi w w')(hs:h<=w.heap.size)(hd:h<=lo∨hi<=l):MRows w' l h m :=
 ⟨qcs hI.S hb hf hs hd,qcs hI.W hb hf hs hd,qcs hI.C hb hf hs hd,qcs hI.A hb hf hs hd⟩
theorem qwx{a u:Mv}(h:∀ x,x < 4->qet (a.get x) (u.get x)):u.may↔a.may:=by
 have k:∀ x,x < 4->((u.get x).may↔(a.get x).may):=fun x hx=>by
  obtain⟨h1,_,h3,h4,_⟩:=h x hx
  unfold Dv.may
  rw [h1,h3,h4]
 exact⟨fun m x hx=>(k x hx).1 (m x hx),fun m x hx=>(k x hx).2 (m x hx)⟩
theorem qmm{a u:Mv}(h:∀ x,x < 4->qet (a.get x) (u.get x)):qfp u a=true:=by
 unfold qfp
 have k:∀ x,x < 4->qdd (u.get x) (a.get x)=true:=fun x hx=>by
  unfold qdd
  rw [(h x hx).1,(h x hx).2.2.1,(h x hx).2.2.2.1]
  exact Pa.Dy.same_refl _
 have k0:=k 0 (by decide)
 have k1:=k 1 (by decide)
 have k2:=k 2 (by decide)
 have k3:=k 3 (by decide)
 simp only [Mv.get] at k0 k1 k2 k3
 rw [k0,k1,k2,k3]
 rfl
def qq9(w:World)(b o:Nat)(m:Mv):Prop:=w.cell? ⟨b,o,none⟩=some (.bool m.S.s)/\w.cell? ⟨b,o+1,none⟩=some (.slice m.S.A m.S.n m.S.c)/\w.cell? ⟨b,o+2,none⟩=some (.int .i64 m.S.e)/\w.cell? ⟨b,o+3,none⟩=some (.bool m.W.s)/\w.cell? ⟨b,o+4,none⟩=some (.slice m.W.A m.W.n m.W.c)/\w.cell? ⟨b,o+5,none⟩=some (.int .i64 m.W.e)/\w.cell? ⟨b,o+6,none⟩=some (.bool m.C.s)/\w.cell? ⟨b,o+7,none⟩=some (.slice m.C.A m.C.n m.C.c)/\w.cell? ⟨b,o+8,none⟩=some (.int .i64 m.C.e)/\w.cell? ⟨b,o+9,none⟩=some (.bool m.A.s)/\w.cell? ⟨b,o+10,none⟩=some (.slice m.A.A m.A.n m.A.c)/\w.cell? ⟨b,o+11,none⟩=some (.int .i64 m.A.e)
structure LMs(w:World)(lo hi:Nat)(A:Option Addr)(n:Nat)(ms:List Mv):Prop where
 len:ms.length=n
 big:n<=9223372036854775807
 row:0 < n->∃ b off,A=some ⟨b,off,none⟩/\lo<=b/\b < hi/\∀ j (h:j < ms.length),qq9 w b (off+j*12) ms[j]
 rows:∀ j (h:j < ms.length),MRows w lo hi ms[j]
theorem infoM:(Tryz.prog.info? 26).map (fun i=>(i.zero,i.size,i.bytes))=some (some (.agg #[.bool false,.slice none 0 0,.int .i64 0,.bool false,.slice none 0 0,.int .i64 0,.bool false,.slice none 0 0,.int .i64 0,.bool false,.slice none 0 0,.int .i64 0]),12,160):=by kernel_rfl
theorem qq9.blk{w w':World}{b o:Nat}{m:Mv}(h:qq9 w b o m)(hk:w'.heap[b]? = w.heap[b]?):qq9 w' b o m:=by
 obtain⟨h0,h1,h2,h3,h4,h5,h6,h7,h8,h9,h10,h11⟩:=h
 exact⟨by rw [World.cell?_of_block hk]; exact h0,by rw [World.cell?_of_block hk]; exact h1,by rw [World.cell?_of_block hk]; exact h2,by rw [World.cell?_of_block hk]; exact h3,by rw [World.cell?_of_block hk]; exact h4,by rw [World.cell?_of_block hk]; exact h5,by rw [World.cell?_of_block hk]; exact h6,by rw [World.cell?_of_block hk]; exact h7,by rw [World.cell?_of_block hk]; exact h8,by rw [World.cell?_of_block hk]; exact h9,by rw [World.cell?_of_block hk]; exact h10,by rw [World.cell?_of_block hk]; exact h11⟩
theorem LMs.below{w w':World}{lo hi B:Nat}{A:Option Addr}{n:Nat}{ms:List Mv}(h:LMs w lo hi A n ms)(hb:Below B w w')(hB:hi<=B):LMs w' lo hi A n ms :=
 ⟨h.len,h.big,fun h0=>by
  obtain⟨b,off,e,h1,h2,hc⟩:=h.row h0
  exact⟨b,off,e,h1,h2,fun j hj=>(hc j hj).blk (hb.block b (by omega))⟩,fun j hj=>(h.rows j hj).below hb hB⟩
end Ma
end Go.Proofs.YtmbppgjhdcmckaaGreatDoor