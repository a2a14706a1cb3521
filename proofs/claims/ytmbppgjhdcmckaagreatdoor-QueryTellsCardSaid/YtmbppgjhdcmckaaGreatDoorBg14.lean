/- Plain laws about masses' values, and contracts that say the numbers (printed by a program of mine). -/
/- The plain laws of MassWhole and MassGroup. No program in sight. -/
/- headcountlaw06.half and alive: walks (printed by a program of mine). -/
/- headcountref06.Great: a walk (printed by a program of mine). -/
/- headcountref06.Same, May: walks (printed by a program of mine). -/
/- headcountref06.Twin: walks (printed by a program of mine). -/
/- Small laws that shorten walks over masses (printed by a program of mine). -/
/- headcountref06.Split, Check: walks (printed by a program of mine). -/
import Derived.Test.YtmbppgjhdcmckaaGreatDoorBg13
import Derived.Test.YtmbppgjhdcmckaaGreatDoorBg09
import Derived.Test.YtmbppgjhdcmckaaGreatDoorBg12
import Derived.Lib.MinMax
import Derived.Test.YtmbppgjhdcmckaaGreatDoorBg01
namespace Go.Proofs.YtmbppgjhdcmckaaGreatDoor
open Go.RowKit
namespace Ma
open Dp Dy
/-- d is the form of the number r. -/
def Is (r : Dn) (d : Dv) : Prop := d.s = r.neg ∧ d.e = r.e ∧ d.xs = canon 4294967296 r.m
theorem ResV.is {W : World} {lo : Nat} {r : Dn} {d : Dv} (h : ResV W lo r d) : Is r d := ⟨h.1, h.2.1, h.2.2.1⟩
theorem ResV.row {W : World} {lo : Nat} {r : Dn} {d : Dv} (h : ResV W lo r d) : Ints W lo W.heap.size .u32 d.A d.n d.xs := h.2.2.2.2
theorem Is.may {r : Dn} {d : Dv} (h : Is r d) (hr : r.May) : d.may := by
 unfold Dv.may
 rw [h.1, h.2.1, h.2.2]
 exact dn_may hr
theorem Is.same {r : Dn} {d d' : Dv} (h : Is r d) (h' : Is r d') : sameV d d' = true := by
 unfold sameV
 rw [h.1, h.2.1, h.2.2, h'.1, h'.2.1, h'.2.2]
 exact Pa.Dy.same_refl _
theorem Is.of {d : Dv} (hd : Dig 4294967296 d.xs) (hm : d.may) : Is (dn d.s d.xs d.e) d := ⟨rfl, (dn_ok hd hm).2.2.symm, (dn_ok hd hm).2.1.symm⟩
theorem Is.twin {r : Dn} {d d' : Dv} (h : Is r d) (ht : TwinV d d') : Is r d' := ⟨ht.1.trans h.1, ht.2.2.1.trans h.2.1, ht.2.2.2.1.trans h.2.2⟩
theorem Is.zero : Is Dn.zero ⟨false, none, 0, 0, 0, []⟩ := ⟨rfl, rfl, rfl⟩
theorem Is.add {r r' : Dn} {d d' : Dv} (h : Is r d) (h' : Is r' d') (hr : r.May) (hr' : r'.May) : addX d.s d.xs d.e d'.s d'.xs d'.e = addD r r' := by
 rw [addX_ok (h.may hr) (h'.may hr'), h.1, h.2.1, h.2.2, h'.1, h'.2.1, h'.2.2, dn_of, dn_of]
theorem add_zero {a : Dn} (ha : a.May) : addD a Dn.zero = (a, 0) :=
 add_of ha (K := a.e) (Nat.le_refl _) (Nat.zero_le _) (Nat.le_refl _) (by rw [vl_zero]; omega)
theorem zero_add {a : Dn} (ha : a.May) : addD Dn.zero a = (a, 0) := by rw [add_comm]; exact add_zero ha
/-- m is the form of the numbers R. -/
def IsM (R : Nat → Dn) (m : Mv) : Prop := ∀ x, x < 4 → Is (R x) (m.get x)
def MayR (R : Nat → Dn) : Prop := ∀ x, x < 4 → (R x).May
def dnM (m : Mv) (x : Nat) : Dn := dn (m.get x).s (m.get x).xs (m.get x).e
def zR (_ : Nat) : Dn := Dn.zero
theorem zR_may : MayR zR := fun _ _ => zero_may
theorem IsM.zero : IsM zR ZM := four Is.zero Is.zero Is.zero Is.zero
theorem IsM.same {R : Nat → Dn} {a b : Mv} (h : IsM R a) (h' : IsM R b) : sameM a b = true := (sameM_iff a b).2 fun x hx => (h x hx).same (h' x hx)
theorem IsM.may {R : Nat → Dn} {m : Mv} (h : IsM R m) (hr : MayR R) : m.may := fun x hx => (h x hx).may (hr x hx)
theorem IsM.of {w : World} {lo hi : Nat} {m : Mv} (hR : MRows w lo hi m) (h : m.may) : IsM (dnM m) m := fun x hx => Is.of (dig_ints (hR.get x)) (h x hx)
theorem dnM_may {w : World} {lo hi : Nat} {m : Mv} (hR : MRows w lo hi m) (h : m.may) : MayR (dnM m) := fun x hx => (dn_ok (dig_ints (hR.get x)) (h x hx)).1
theorem IsM.add {R S : Nat → Dn} {a b : Mv} (h : IsM R a) (h' : IsM S b) (hr : MayR R) (hs : MayR S) {x : Nat} (hx : x < 4) : xAdd a b x = addD (R x) (S x) := (h x hx).add (h' x hx) (hr x hx) (hs x hx)
theorem IsM.twin {R : Nat → Dn} {a b : Mv} (h : IsM R a) (ht : ∀ x, x < 4 → TwinV (a.get x) (b.get x)) : IsM R b := fun x hx => (h x hx).twin (ht x hx)
open Classical in
/-- What a sum is, whatever the masses. -/
noncomputable def addM (a b : Mv) : (Nat → Dn) × Int := if a.may ∧ b.may then (if ∀ j, j < 4 → (xAdd a b j).2 = 0 then (fun j => (xAdd a b j).1, 0) else (zR, 10)) else (zR, 8)
open Classical in
noncomputable def subM (a b : Mv) : (Nat → Dn) × Int := if a.may ∧ b.may then (if ∀ j, j < 4 → (xSub a b j).2 = 0 then (fun j => (xSub a b j).1, 0) else (zR, 10)) else (zR, 8)
open Classical in
/-- What is kept and sent. -/
noncomputable def splitM (m : Mv) : ((Nat → Dn) × (Nat → Dn)) × Int :=
 if m.may then (if (halfX m.S.s m.S.xs m.S.e).2 = 0 ∧ (halfX m.W.s m.W.xs m.W.e).2 = 0 then
  ((fun x => if x = 0 then (halfX m.S.s m.S.xs m.S.e).1 else if x = 1 then (halfX m.W.s m.W.xs m.W.e).1 else dnM m x, fun x => if x = 0 then (halfX m.S.s m.S.xs m.S.e).1 else if x = 1 then (halfX m.W.s m.W.xs m.W.e).1 else Dn.zero), 0)
  else ((zR, zR), 10)) else ((zR, zR), 8)
end Ma
end Go.Proofs.YtmbppgjhdcmckaaGreatDoor
namespace Go.Proofs.YtmbppgjhdcmckaaGreatDoor
open Go.RowKit
namespace Ma
open Dp Dy
theorem splitM_may {w : World} {lo hi : Nat} {m : Mv} (hR : MRows w lo hi m) {kR sR : Nat → Dn} {code : Int} (h : splitM m = ((kR, sR), code)) : MayR kR ∧ MayR sR := by
 unfold splitM at h
 split at h
 · rename_i hm
   split at h
   · injection h with h1 h2
     injection h1 with h1 h3
     subst h1 h3
     exact ⟨four (halfX_may ..) (halfX_may ..) (dnM_may hR hm 2 (by decide)) (dnM_may hR hm 3 (by decide)), four (halfX_may ..) (halfX_may ..) zero_may zero_may⟩
   · injection h with h1 h2
     injection h1 with h1 h3
     subst h1 h3
     exact ⟨zR_may, zR_may⟩
 · injection h with h1 h2
   injection h1 with h1 h3
   subst h1 h3
   exact ⟨zR_may, zR_may⟩
end Ma
end Go.Proofs.YtmbppgjhdcmckaaGreatDoor
namespace Go.Proofs.YtmbppgjhdcmckaaGreatDoor
open Go.RowKit
namespace Ma
open Dp Dy
theorem MRows.on {w w' : World} {m : Mv} (h : MRows w 0 w.heap.size m) (hb : Below w.heap.size w w') : MRows w' 0 w'.heap.size m := (h.below hb (Nat.le_refl _)).more (Nat.le_refl _) hb.size
end Ma
end Go.Proofs.YtmbppgjhdcmckaaGreatDoor
namespace Go.Proofs.YtmbppgjhdcmckaaGreatDoor
open Go.RowKit
namespace Ma
open Dp Dy
def Dv.great (d : Dv) : Bool := Pa.Dy.great ⟨d.s, d.xs, d.e⟩
def greatM (m : Mv) : Bool := m.S.great || m.W.great || m.C.great || m.A.great
theorem great_not {m : Mv} (h : greatM m = false) : ∀ x, x < 4 → (m.get x).xs.length ≤ 42 ∧ (m.get x).e ≤ 1100 := by
 have hd : ∀ d : Dv, d.great = false → d.xs.length ≤ 42 ∧ d.e ≤ 1100 := fun d h => by
  simp [Dv.great, Pa.Dy.great] at h
  omega
 unfold greatM at h
 simp only [Bool.or_eq_false_iff] at h
 exact four (hd _ h.1.1.1) (hd _ h.1.1.2) (hd _ h.1.2) (hd _ h.2)
set_option maxHeartbeats 6400000 in
set_option maxRecDepth 100000 in
theorem RGreat_any (w : World) (m : Mv) {lo hi : Nat} (hRm : MRows w lo hi m) (k : Bool) (hk : greatM m = k) :
  Calls Tryz.prog 32 #[.agg #[.bool m.S.s, .slice m.S.A m.S.n m.S.c, .int .i64 m.S.e, .bool m.W.s, .slice m.W.A m.W.n m.W.c, .int .i64 m.W.e, .bool m.C.s, .slice m.C.A m.C.n m.C.c, .int .i64 m.C.e, .bool m.A.s, .slice m.A.A m.A.n m.A.c, .int .i64 m.A.e]] w fun e w' => e = .returned (.bool k) ∧ Below w.heap.size w w' := by
 have L0 := Lib.hid (hRm.get 0).len
 have L1 := Lib.hid (hRm.get 1).len
 have L2 := Lib.hid (hRm.get 2).len
 have L3 := Lib.hid (hRm.get 3).len
 unfold greatM at hk
 obtain ⟨g0, h0⟩ : ∃ g, m.S.great = g := ⟨_, rfl⟩
 obtain ⟨g1, h1⟩ : ∃ g, m.W.great = g := ⟨_, rfl⟩
 obtain ⟨g2, h2⟩ : ∃ g, m.C.great = g := ⟨_, rfl⟩
 obtain ⟨g3, h3⟩ : ∃ g, m.A.great = g := ⟨_, rfl⟩
 rw [h0, h1, h2, h3] at hk
 have HK := Lib.hid hk
 have H0 := Lib.hid h0
 have H1 := Lib.hid h1
 have H2 := Lib.hid h2
 have H3 := Lib.hid h3
 clear hk h0 h1 h2 h3
 generalize hw : w.alloc (.cells #[.bool m.S.s, .slice m.S.A m.S.n m.S.c, .int .i64 m.S.e, .bool m.W.s, .slice m.W.A m.W.n m.W.c, .int .i64 m.W.e, .bool m.C.s, .slice m.C.A m.C.n m.C.c, .int .i64 m.C.e, .bool m.A.s, .slice m.A.A m.A.n m.A.c, .int .i64 m.A.e] 26) = w1
 have hM1 : MBox w1 w.heap.size m := by rw [← hw]; exact heap_alloc_last _ _
 have hb : Below w.heap.size w w1 := by rw [← hw]; exact (Below.refl _ w).alloc (Nat.le_refl _) _
 have hlo : w.heap.size + 1 ≤ w1.heap.size := by rw [← hw]; simp
 obtain ⟨⟨k0, k1, k2, k3, k4, k5, k6, k7, k8, k9, k10, k11⟩, kf⟩ := MBox.cells hM1
 go_enter Tryz.func32, Tryz.ntmps32
 go_wp2_with fail
 try clear hw
 refine (Pa.rGreat_any w1 m.S.s m.S.A m.S.n m.S.c m.S.xs m.S.e L0.out g0 H0.out).mono ?_
 rintro e w2 ⟨rfl, hB⟩
 clear k0 k1 k2 k3 k4 k5 k6 k7 k8 k9 k10 k11 kf
 have l2 := hB.size
 replace hM1 : MBox w2 w.heap.size m := box_on hM1 hB (by omega)
 replace hb := hb.trans (hB.mono (by omega))
 clear hB
 cases g0
 rotate_left
 · go_wp2
   go_ret
   exact ⟨by rw [← HK.out]; simp, hb⟩
 · skip
   obtain ⟨⟨k0, k1, k2, k3, k4, k5, k6, k7, k8, k9, k10, k11⟩, kf⟩ := MBox.cells hM1
   go_wp2_with fail
   refine (Pa.rGreat_any w2 m.W.s m.W.A m.W.n m.W.c m.W.xs m.W.e L1.out g1 H1.out).mono ?_
   rintro e w3 ⟨rfl, hB⟩
   clear k0 k1 k2 k3 k4 k5 k6 k7 k8 k9 k10 k11 kf
   have l3 := hB.size
   replace hM1 : MBox w3 w.heap.size m := box_on hM1 hB (by omega)
   replace hb := hb.trans (hB.mono (by omega))
   clear hB
   cases g1
   rotate_left
   · go_wp2
     go_ret
     exact ⟨by rw [← HK.out]; simp, hb⟩
   · skip
     obtain ⟨⟨k0, k1, k2, k3, k4, k5, k6, k7, k8, k9, k10, k11⟩, kf⟩ := MBox.cells hM1
     go_wp2_with fail
     refine (Pa.rGreat_any w3 m.C.s m.C.A m.C.n m.C.c m.C.xs m.C.e L2.out g2 H2.out).mono ?_
     rintro e w4 ⟨rfl, hB⟩
     clear k0 k1 k2 k3 k4 k5 k6 k7 k8 k9 k10 k11 kf
     have l4 := hB.size
     replace hM1 : MBox w4 w.heap.size m := box_on hM1 hB (by omega)
     replace hb := hb.trans (hB.mono (by omega))
     clear hB
     cases g2
     rotate_left
     · go_wp2
       go_ret
       exact ⟨by rw [← HK.out]; simp, hb⟩
     · skip
       obtain ⟨⟨k0, k1, k2, k3, k4, k5, k6, k7, k8, k9, k10, k11⟩, kf⟩ := MBox.cells hM1
       go_wp2_with fail
       refine (Pa.rGreat_any w4 m.A.s m.A.A m.A.n m.A.c m.A.xs m.A.e L3.out g3 H3.out).mono ?_
       rintro e w5 ⟨rfl, hB⟩
       clear k0 k1 k2 k3 k4 k5 k6 k7 k8 k9 k10 k11 kf
       have l5 := hB.size
       replace hM1 : MBox w5 w.heap.size m := box_on hM1 hB (by omega)
       replace hb := hb.trans (hB.mono (by omega))
       clear hB
       go_wp2
       go_ret
       exact ⟨by rw [← HK.out]; simp, hb⟩
end Ma
end Go.Proofs.YtmbppgjhdcmckaaGreatDoor
namespace Go.Proofs.YtmbppgjhdcmckaaGreatDoor
open Go.RowKit
namespace Ma
open Dp Dy
open Classical in
noncomputable def mayB (d : Dv) : Bool := decide (d.may)
open Classical in
noncomputable def mayMB (m : Mv) : Bool := mayB m.S && mayB m.W && mayB m.C && mayB m.A
theorem mayMB_iff (m : Mv) : mayMB m = true ↔ m.may := by
 unfold mayMB mayB
 simp only [Bool.and_eq_true, decide_eq_true_eq]
 exact ⟨fun h => four h.1.1.1 h.1.1.2 h.1.2 h.2, fun h => ⟨⟨⟨h 0 (by decide), h 1 (by decide)⟩, h 2 (by decide)⟩, h 3 (by decide)⟩⟩
open Classical in
theorem rMay_all (w : World) (d : Dv) (hX : Ints w 0 w.heap.size .u32 d.A d.n d.xs) (k : Bool) (hk : mayB d = k) :
  Calls Tryz.prog 181 #[.agg #[.bool d.s, .slice d.A d.n d.c, .int .i64 d.e]] w fun e w' => e = .returned (.bool k) ∧ Below w.heap.size w w' := by
 unfold mayB at hk
 by_cases h : d.may
 · rw [decide_eq_true h] at hk
   subst hk
   exact rMay_ok w 0 w.heap.size d.s d.A d.n d.c d.xs d.e hX (Nat.le_refl _) h
 · rw [decide_eq_false h] at hk
   subst hk
   exact rMay_bad w 0 w.heap.size d.s d.A d.n d.c d.xs d.e hX (Nat.le_refl _) h
set_option maxHeartbeats 6400000 in
set_option maxRecDepth 100000 in
theorem RSame_any (w : World) (a b : Mv) (hRa : MRows w 0 w.heap.size a) (hRb : MRows w 0 w.heap.size b) (k : Bool) (hk : sameM a b = k) :
  Calls Tryz.prog 45 #[.agg #[.bool a.S.s, .slice a.S.A a.S.n a.S.c, .int .i64 a.S.e, .bool a.W.s, .slice a.W.A a.W.n a.W.c, .int .i64 a.W.e, .bool a.C.s, .slice a.C.A a.C.n a.C.c, .int .i64 a.C.e, .bool a.A.s, .slice a.A.A a.A.n a.A.c, .int .i64 a.A.e], .agg #[.bool b.S.s, .slice b.S.A b.S.n b.S.c, .int .i64 b.S.e, .bool b.W.s, .slice b.W.A b.W.n b.W.c, .int .i64 b.W.e, .bool b.C.s, .slice b.C.A b.C.n b.C.c, .int .i64 b.C.e, .bool b.A.s, .slice b.A.A b.A.n b.A.c, .int .i64 b.A.e]] w fun e w' => e = .returned (.bool k) ∧ Below w.heap.size w w' := by
 unfold sameM at hk
 obtain ⟨g0, h0⟩ : ∃ g, sameV a.S b.S = g := ⟨_, rfl⟩
 obtain ⟨g1, h1⟩ : ∃ g, sameV a.W b.W = g := ⟨_, rfl⟩
 obtain ⟨g2, h2⟩ : ∃ g, sameV a.C b.C = g := ⟨_, rfl⟩
 obtain ⟨g3, h3⟩ : ∃ g, sameV a.A b.A = g := ⟨_, rfl⟩
 rw [h0, h1, h2, h3] at hk
 have HK := Lib.hid hk
 have H0 := Lib.hid h0
 have H1 := Lib.hid h1
 have H2 := Lib.hid h2
 have H3 := Lib.hid h3
 clear hk h0 h1 h2 h3
 generalize hw : (w.alloc (.cells #[.bool a.S.s, .slice a.S.A a.S.n a.S.c, .int .i64 a.S.e, .bool a.W.s, .slice a.W.A a.W.n a.W.c, .int .i64 a.W.e, .bool a.C.s, .slice a.C.A a.C.n a.C.c, .int .i64 a.C.e, .bool a.A.s, .slice a.A.A a.A.n a.A.c, .int .i64 a.A.e] 26)).alloc (.cells #[.bool b.S.s, .slice b.S.A b.S.n b.S.c, .int .i64 b.S.e, .bool b.W.s, .slice b.W.A b.W.n b.W.c, .int .i64 b.W.e, .bool b.C.s, .slice b.C.A b.C.n b.C.c, .int .i64 b.C.e, .bool b.A.s, .slice b.A.A b.A.n b.A.c, .int .i64 b.A.e] 26) = w1
 obtain ⟨hA1, hB1, hb, hlo, hhi⟩ := boxes2 w _ _ hw
 replace hA1 : MBox w1 w.heap.size a := hA1
 replace hB1 : MBox w1 (w.heap.size + 1) b := hB1
 replace hRa := hRa.below hb (Nat.le_refl _)
 replace hRb := hRb.below hb (Nat.le_refl _)
 obtain ⟨⟨k0, k1, k2, k3, k4, k5, k6, k7, k8, k9, k10, k11⟩, kf⟩ := MBox.cells hA1
 obtain ⟨⟨z0, z1, z2, z3, z4, z5, z6, z7, z8, z9, z10, z11⟩, zf⟩ := MBox.cells hB1
 go_enter Tryz.func45, Tryz.ntmps45
 go_wp2_with fail
 try clear hw
 refine (Pa.rSame_any w1 a.S.s b.S.s a.S.A b.S.A a.S.n a.S.c b.S.n b.S.c a.S.xs b.S.xs a.S.e b.S.e (Ints.more hRa.S (Nat.le_refl _) (by omega)) (Ints.more hRb.S (Nat.le_refl _) (by omega)) g0 H0.out).mono ?_
 rintro e w2 ⟨rfl, hB⟩
 clear k0 k1 k2 k3 k4 k5 k6 k7 k8 k9 k10 k11 kf z0 z1 z2 z3 z4 z5 z6 z7 z8 z9 z10 z11 zf
 have l2 := hB.size
 replace hA1 : MBox w2 w.heap.size a := box_on hA1 hB (by omega)
 replace hB1 : MBox w2 (w.heap.size + 1) b := box_on hB1 hB (by omega)
 replace hRa := hRa.below hB (by omega)
 replace hRb := hRb.below hB (by omega)
 replace hb := hb.trans (hB.mono (by omega))
 clear hB
 cases g0
 · go_wp2
   go_ret
   exact ⟨by rw [← HK.out]; simp, hb⟩
 · skip
   obtain ⟨⟨k0, k1, k2, k3, k4, k5, k6, k7, k8, k9, k10, k11⟩, kf⟩ := MBox.cells hA1
   obtain ⟨⟨z0, z1, z2, z3, z4, z5, z6, z7, z8, z9, z10, z11⟩, zf⟩ := MBox.cells hB1
   go_wp2_with fail
   refine (Pa.rSame_any w2 a.W.s b.W.s a.W.A b.W.A a.W.n a.W.c b.W.n b.W.c a.W.xs b.W.xs a.W.e b.W.e (Ints.more hRa.W (Nat.le_refl _) (by omega)) (Ints.more hRb.W (Nat.le_refl _) (by omega)) g1 H1.out).mono ?_
   rintro e w3 ⟨rfl, hB⟩
   clear k0 k1 k2 k3 k4 k5 k6 k7 k8 k9 k10 k11 kf z0 z1 z2 z3 z4 z5 z6 z7 z8 z9 z10 z11 zf
   have l3 := hB.size
   replace hA1 : MBox w3 w.heap.size a := box_on hA1 hB (by omega)
   replace hB1 : MBox w3 (w.heap.size + 1) b := box_on hB1 hB (by omega)
   replace hRa := hRa.below hB (by omega)
   replace hRb := hRb.below hB (by omega)
   replace hb := hb.trans (hB.mono (by omega))
   clear hB
   cases g1
   · go_wp2
     go_ret
     exact ⟨by rw [← HK.out]; simp, hb⟩
   · skip
     obtain ⟨⟨k0, k1, k2, k3, k4, k5, k6, k7, k8, k9, k10, k11⟩, kf⟩ := MBox.cells hA1
     obtain ⟨⟨z0, z1, z2, z3, z4, z5, z6, z7, z8, z9, z10, z11⟩, zf⟩ := MBox.cells hB1
     go_wp2_with fail
     refine (Pa.rSame_any w3 a.C.s b.C.s a.C.A b.C.A a.C.n a.C.c b.C.n b.C.c a.C.xs b.C.xs a.C.e b.C.e (Ints.more hRa.C (Nat.le_refl _) (by omega)) (Ints.more hRb.C (Nat.le_refl _) (by omega)) g2 H2.out).mono ?_
     rintro e w4 ⟨rfl, hB⟩
     clear k0 k1 k2 k3 k4 k5 k6 k7 k8 k9 k10 k11 kf z0 z1 z2 z3 z4 z5 z6 z7 z8 z9 z10 z11 zf
     have l4 := hB.size
     replace hA1 : MBox w4 w.heap.size a := box_on hA1 hB (by omega)
     replace hB1 : MBox w4 (w.heap.size + 1) b := box_on hB1 hB (by omega)
     replace hRa := hRa.below hB (by omega)
     replace hRb := hRb.below hB (by omega)
     replace hb := hb.trans (hB.mono (by omega))
     clear hB
     cases g2
     · go_wp2
       go_ret
       exact ⟨by rw [← HK.out]; simp, hb⟩
     · skip
       obtain ⟨⟨k0, k1, k2, k3, k4, k5, k6, k7, k8, k9, k10, k11⟩, kf⟩ := MBox.cells hA1
       obtain ⟨⟨z0, z1, z2, z3, z4, z5, z6, z7, z8, z9, z10, z11⟩, zf⟩ := MBox.cells hB1
       go_wp2_with fail
       refine (Pa.rSame_any w4 a.A.s b.A.s a.A.A b.A.A a.A.n a.A.c b.A.n b.A.c a.A.xs b.A.xs a.A.e b.A.e (Ints.more hRa.A (Nat.le_refl _) (by omega)) (Ints.more hRb.A (Nat.le_refl _) (by omega)) g3 H3.out).mono ?_
       rintro e w5 ⟨rfl, hB⟩
       clear k0 k1 k2 k3 k4 k5 k6 k7 k8 k9 k10 k11 kf z0 z1 z2 z3 z4 z5 z6 z7 z8 z9 z10 z11 zf
       have l5 := hB.size
       replace hA1 : MBox w5 w.heap.size a := box_on hA1 hB (by omega)
       replace hB1 : MBox w5 (w.heap.size + 1) b := box_on hB1 hB (by omega)
       replace hRa := hRa.below hB (by omega)
       replace hRb := hRb.below hB (by omega)
       replace hb := hb.trans (hB.mono (by omega))
       clear hB
       go_wp2
       go_ret
       exact ⟨by rw [← HK.out]; simp, hb⟩
set_option maxHeartbeats 6400000 in
set_option maxRecDepth 100000 in
theorem RMay_any (w : World) (m : Mv) (hRm : MRows w 0 w.heap.size m) (k : Bool) (hk : mayMB m = k) :
  Calls Tryz.prog 140 #[.agg #[.bool m.S.s, .slice m.S.A m.S.n m.S.c, .int .i64 m.S.e, .bool m.W.s, .slice m.W.A m.W.n m.W.c, .int .i64 m.W.e, .bool m.C.s, .slice m.C.A m.C.n m.C.c, .int .i64 m.C.e, .bool m.A.s, .slice m.A.A m.A.n m.A.c, .int .i64 m.A.e]] w fun e w' => e = .returned (.bool k) ∧ Below w.heap.size w w' := by
 unfold mayMB at hk
 obtain ⟨g0, h0⟩ : ∃ g, mayB m.S = g := ⟨_, rfl⟩
 obtain ⟨g1, h1⟩ : ∃ g, mayB m.W = g := ⟨_, rfl⟩
 obtain ⟨g2, h2⟩ : ∃ g, mayB m.C = g := ⟨_, rfl⟩
 obtain ⟨g3, h3⟩ : ∃ g, mayB m.A = g := ⟨_, rfl⟩
 rw [h0, h1, h2, h3] at hk
 have HK := Lib.hid hk
 have H0 := Lib.hid h0
 have H1 := Lib.hid h1
 have H2 := Lib.hid h2
 have H3 := Lib.hid h3
 clear hk h0 h1 h2 h3
 generalize hw : w.alloc (.cells #[.bool m.S.s, .slice m.S.A m.S.n m.S.c, .int .i64 m.S.e, .bool m.W.s, .slice m.W.A m.W.n m.W.c, .int .i64 m.W.e, .bool m.C.s, .slice m.C.A m.C.n m.C.c, .int .i64 m.C.e, .bool m.A.s, .slice m.A.A m.A.n m.A.c, .int .i64 m.A.e] 26) = w1
 have hM1 : MBox w1 w.heap.size m := by rw [← hw]; exact heap_alloc_last _ _
 have hb : Below w.heap.size w w1 := by rw [← hw]; exact (Below.refl _ w).alloc (Nat.le_refl _) _
 have hlo : w.heap.size + 1 ≤ w1.heap.size := by rw [← hw]; simp
 replace hRm := hRm.below hb (Nat.le_refl _)
 obtain ⟨⟨k0, k1, k2, k3, k4, k5, k6, k7, k8, k9, k10, k11⟩, kf⟩ := MBox.cells hM1
 go_enter Tryz.func140, Tryz.ntmps140
 go_wp2_with fail
 try clear hw
 refine (rMay_all w1 m.S (Ints.more hRm.S (Nat.le_refl _) (by omega)) g0 H0.out).mono ?_
 rintro e w2 ⟨rfl, hB⟩
 clear k0 k1 k2 k3 k4 k5 k6 k7 k8 k9 k10 k11 kf
 have l2 := hB.size
 replace hM1 : MBox w2 w.heap.size m := box_on hM1 hB (by omega)
 replace hRm := hRm.below hB (by omega)
 replace hb := hb.trans (hB.mono (by omega))
 clear hB
 cases g0
 · go_wp2
   go_ret
   exact ⟨by rw [← HK.out]; simp, hb⟩
 · skip
   obtain ⟨⟨k0, k1, k2, k3, k4, k5, k6, k7, k8, k9, k10, k11⟩, kf⟩ := MBox.cells hM1
   go_wp2_with fail
   refine (rMay_all w2 m.W (Ints.more hRm.W (Nat.le_refl _) (by omega)) g1 H1.out).mono ?_
   rintro e w3 ⟨rfl, hB⟩
   clear k0 k1 k2 k3 k4 k5 k6 k7 k8 k9 k10 k11 kf
   have l3 := hB.size
   replace hM1 : MBox w3 w.heap.size m := box_on hM1 hB (by omega)
   replace hRm := hRm.below hB (by omega)
   replace hb := hb.trans (hB.mono (by omega))
   clear hB
   cases g1
   · go_wp2
     go_ret
     exact ⟨by rw [← HK.out]; simp, hb⟩
   · skip
     obtain ⟨⟨k0, k1, k2, k3, k4, k5, k6, k7, k8, k9, k10, k11⟩, kf⟩ := MBox.cells hM1
     go_wp2_with fail
     refine (rMay_all w3 m.C (Ints.more hRm.C (Nat.le_refl _) (by omega)) g2 H2.out).mono ?_
     rintro e w4 ⟨rfl, hB⟩
     clear k0 k1 k2 k3 k4 k5 k6 k7 k8 k9 k10 k11 kf
     have l4 := hB.size
     replace hM1 : MBox w4 w.heap.size m := box_on hM1 hB (by omega)
     replace hRm := hRm.below hB (by omega)
     replace hb := hb.trans (hB.mono (by omega))
     clear hB
     cases g2
     · go_wp2
       go_ret
       exact ⟨by rw [← HK.out]; simp, hb⟩
     · skip
       obtain ⟨⟨k0, k1, k2, k3, k4, k5, k6, k7, k8, k9, k10, k11⟩, kf⟩ := MBox.cells hM1
       go_wp2_with fail
       refine (rMay_all w4 m.A (Ints.more hRm.A (Nat.le_refl _) (by omega)) g3 H3.out).mono ?_
       rintro e w5 ⟨rfl, hB⟩
       clear k0 k1 k2 k3 k4 k5 k6 k7 k8 k9 k10 k11 kf
       have l5 := hB.size
       replace hM1 : MBox w5 w.heap.size m := box_on hM1 hB (by omega)
       replace hRm := hRm.below hB (by omega)
       replace hb := hb.trans (hB.mono (by omega))
       clear hB
       go_wp2
       go_ret
       exact ⟨by rw [← HK.out]; simp, hb⟩
end Ma
end Go.Proofs.YtmbppgjhdcmckaaGreatDoor
namespace Go.Proofs.YtmbppgjhdcmckaaGreatDoor
open Go.RowKit
namespace Ma
open Dp Dy
set_option maxHeartbeats 6400000 in
set_option maxRecDepth 100000 in
theorem RTwinM_any (w : World) (m : Mv) (hR : MRows w 0 w.heap.size m) (hn : ∀ x, x < 4 → (m.get x).n ≤ 1000000) :
  Calls Tryz.prog 34 #[.agg #[.bool m.S.s, .slice m.S.A m.S.n m.S.c, .int .i64 m.S.e, .bool m.W.s, .slice m.W.A m.W.n m.W.c, .int .i64 m.W.e, .bool m.C.s, .slice m.C.A m.C.n m.C.c, .int .i64 m.C.e, .bool m.A.s, .slice m.A.A m.A.n m.A.c, .int .i64 m.A.e]] w fun e w' => ∃ m' : Mv, e = .returned (.agg #[.bool m'.S.s, .slice m'.S.A m'.S.n m'.S.c, .int .i64 m'.S.e, .bool m'.W.s, .slice m'.W.A m'.W.n m'.W.c, .int .i64 m'.W.e, .bool m'.C.s, .slice m'.C.A m'.C.n m'.C.c, .int .i64 m'.C.e, .bool m'.A.s, .slice m'.A.A m'.A.n m'.A.c, .int .i64 m'.A.e]) ∧ (∀ x, x < 4 → TwinV (m.get x) (m'.get x)) ∧ Below w.heap.size w w' ∧ MRows w' w.heap.size w'.heap.size m' := by
 generalize hw1 : (w.alloc (.cells #[.bool m.S.s, .slice m.S.A m.S.n m.S.c, .int .i64 m.S.e, .bool m.W.s, .slice m.W.A m.W.n m.W.c, .int .i64 m.W.e, .bool m.C.s, .slice m.C.A m.C.n m.C.c, .int .i64 m.C.e, .bool m.A.s, .slice m.A.A m.A.n m.A.c, .int .i64 m.A.e] 26)).alloc (.cells #[.bool false, .slice none 0 0, .int .i64 0, .bool false, .slice none 0 0, .int .i64 0, .bool false, .slice none 0 0, .int .i64 0, .bool false, .slice none 0 0, .int .i64 0] 26) = w1
 obtain ⟨hM, hZ, hBL, lo1, hi1⟩ := boxes2 w _ _ hw1
 replace hM : MBox w1 w.heap.size m := hM
 replace hZ : MBox w1 (w.heap.size + 1) ZM := hZ
 replace hBL : Below w.heap.size w w1 := hBL
 have Rm : MRows w1 0 w1.heap.size m := hR.on hBL
 have n0 : m.S.n ≤ 1000000 := hn 0 (by decide)
 have n1 : m.W.n ≤ 1000000 := hn 1 (by decide)
 have n2 : m.C.n ≤ 1000000 := hn 2 (by decide)
 have n3 : m.A.n ≤ 1000000 := hn 3 (by decide)
 clear hn
 go_enter Tryz.func34, Tryz.ntmps34
 go_wp2_with fail
 try clear hw1
 refine region_E (Keeps w1) [13] (m := 14) (L := #[zF,zF,zF,zF,zF,zF,zF,zF,zF,zF,zF,zF,zF,zF]) (by kernel_rfl) (by rfl) (by rfl) ?_
 have kp_ : Keeps w1 w1.drew := fun _ _ => rfl
 have hB : Below w1.heap.size w1 w1.drew := (Below.refl _ _).drew
 replace Rm : MRows w1.drew 0 w1.drew.heap.size _ := MRows.on Rm hB
 replace hBL := hBL.trans (hB.mono (by omega))
 have lw_1 : w1.heap.size ≤ w1.drew.heap.size := hB.size
 clear hB
 generalize w1.drew = w_1 at *
 refine zE 0 #[zT,zF,zF,zF,zF,zF,zF,zF,zF,zF,zF,zF,zF,zF] ?_ rfl ?hy1 ?rest1
 case hy1 => intro w; go_simp; (try with_reducible rfl)
 try simp only [Act.put, zp]
 refine zE 3 #[zT,zF,zF,zT,zF,zF,zF,zF,zF,zF,zF,zF,zF,zF] ?_ rfl ?hy2 ?rest2
 case hy2 => intro w; go_simp; (try with_reducible rfl)
 try simp only [Act.put, zp]
 refine zE 6 #[zT,zF,zF,zT,zF,zF,zT,zF,zF,zF,zF,zF,zF,zF] ?_ rfl ?hy3 ?rest3
 case hy3 => intro w; go_simp; (try with_reducible rfl)
 try simp only [Act.put, zp]
 refine zE 9 #[zT,zF,zF,zT,zF,zF,zT,zF,zF,zT,zF,zF,zF,zF] ?_ rfl ?hy4 ?rest4
 case hy4 => intro w; go_simp; (try with_reducible rfl)
 try simp only [Act.put, zp]
 refine readE (i := 1) (L := #[zT,zT,zF,zT,zF,zF,zT,zF,zF,zT,zF,zF,zF,zF]) (v := .agg #[.bool m.S.s, .slice m.S.A m.S.n m.S.c, .int .i64 m.S.e]) rfl (by rfl) (by kernel_rfl) (by kernel_rfl) (by kernel_rfl) (fun _ _ _ h => h) (by assumption) (by rfl) ?yr_2 ?zr_2
 case yr_2 =>
  intro w' h1
  obtain ⟨⟨k0, k1, k2, k3, k4, k5, k6, k7, k8, k9, k10, k11⟩, kf⟩ := MBox.cells ((h1 _ (by omega)).trans hM)
  go_simp
 try simp only [Act.put, zp]
 refine readE (i := 4) (L := #[zT,zT,zF,zT,zT,zF,zT,zF,zF,zT,zF,zF,zF,zF]) (v := .agg #[.bool m.W.s, .slice m.W.A m.W.n m.W.c, .int .i64 m.W.e]) rfl (by rfl) (by kernel_rfl) (by kernel_rfl) (by kernel_rfl) (fun _ _ _ h => h) (by assumption) (by rfl) ?yr_3 ?zr_3
 case yr_3 =>
  intro w' h1
  obtain ⟨⟨k0, k1, k2, k3, k4, k5, k6, k7, k8, k9, k10, k11⟩, kf⟩ := MBox.cells ((h1 _ (by omega)).trans hM)
  go_simp
 try simp only [Act.put, zp]
 refine readE (i := 7) (L := #[zT,zT,zF,zT,zT,zF,zT,zT,zF,zT,zF,zF,zF,zF]) (v := .agg #[.bool m.C.s, .slice m.C.A m.C.n m.C.c, .int .i64 m.C.e]) rfl (by rfl) (by kernel_rfl) (by kernel_rfl) (by kernel_rfl) (fun _ _ _ h => h) (by assumption) (by rfl) ?yr_4 ?zr_4
 case yr_4 =>
  intro w' h1
  obtain ⟨⟨k0, k1, k2, k3, k4, k5, k6, k7, k8, k9, k10, k11⟩, kf⟩ := MBox.cells ((h1 _ (by omega)).trans hM)
  go_simp
 try simp only [Act.put, zp]
 refine readE (i := 10) (L := #[zT,zT,zF,zT,zT,zF,zT,zT,zF,zT,zT,zF,zF,zF]) (v := .agg #[.bool m.A.s, .slice m.A.A m.A.n m.A.c, .int .i64 m.A.e]) rfl (by rfl) (by kernel_rfl) (by kernel_rfl) (by kernel_rfl) (fun _ _ _ h => h) (by assumption) (by rfl) ?yr_5 ?zr_5
 case yr_5 =>
  intro w' h1
  obtain ⟨⟨k0, k1, k2, k3, k4, k5, k6, k7, k8, k9, k10, k11⟩, kf⟩ := MBox.cells ((h1 _ (by omega)).trans hM)
  go_simp
 try simp only [Act.put, zp]
 refine stepK (i := 2) (L := #[zT,zT,zT,zT,zT,zF,zT,zT,zF,zT,zT,zF,zF,zF]) rfl (by rfl) (by kernel_rfl) (by rfl) (fun K hK => ?_)
 go_simp
 go_at_call 66
 refine (Pa.rTwin_any w_1 m.S.s m.S.A m.S.n m.S.c m.S.xs m.S.e (MRows.get Rm 0) n0).mono ?_
 rintro e' w_6 ⟨A0, c0, rfl, hc0, hB, hlt0, hI⟩
 replace kp_ := Keeps.on kp_ (by omega) hB
 have lw_6 : w_1.heap.size ≤ w_6.heap.size := hB.size
 replace Rm := MRows.on Rm hB
 replace hBL := hBL.trans (hB.mono (by omega))
 have I0 : Ints _ (w.heap.size + 2) _ .u32 A0 m.S.n m.S.xs := Ints.more hI (by omega) (Nat.le_refl _)
 clear hI hlt0
 clear hB
 refine hK _ _ ⟨fun _ _ => kp_, ?_⟩
 clear hK K
 try simp only [Act.put, zp]
 refine stepK (i := 5) (L := #[zT,zT,zT,zT,zT,zT,zT,zT,zF,zT,zT,zF,zF,zF]) rfl (by rfl) (by kernel_rfl) (by rfl) (fun K hK => ?_)
 go_simp
 go_at_call 66
 refine (Pa.rTwin_any w_6 m.W.s m.W.A m.W.n m.W.c m.W.xs m.W.e (MRows.get Rm 1) n1).mono ?_
 rintro e' w_7 ⟨A1, c1, rfl, hc1, hB, hlt1, hI⟩
 replace kp_ := Keeps.on kp_ (by omega) hB
 have lw_7 : w_6.heap.size ≤ w_7.heap.size := hB.size
 replace Rm := MRows.on Rm hB
 replace I0 := (Ints.below I0 hB (Nat.le_refl _)).more (Nat.le_refl _) hB.size
 replace hBL := hBL.trans (hB.mono (by omega))
 have I1 : Ints _ (w.heap.size + 2) _ .u32 A1 m.W.n m.W.xs := Ints.more hI (by omega) (Nat.le_refl _)
 clear hI hlt1
 clear hB
 refine hK _ _ ⟨fun _ _ => kp_, ?_⟩
 clear hK K
 try simp only [Act.put, zp]
 refine stepK (i := 8) (L := #[zT,zT,zT,zT,zT,zT,zT,zT,zT,zT,zT,zF,zF,zF]) rfl (by rfl) (by kernel_rfl) (by rfl) (fun K hK => ?_)
 go_simp
 go_at_call 66
 refine (Pa.rTwin_any w_7 m.C.s m.C.A m.C.n m.C.c m.C.xs m.C.e (MRows.get Rm 2) n2).mono ?_
 rintro e' w_8 ⟨A2, c2, rfl, hc2, hB, hlt2, hI⟩
 replace kp_ := Keeps.on kp_ (by omega) hB
 have lw_8 : w_7.heap.size ≤ w_8.heap.size := hB.size
 replace Rm := MRows.on Rm hB
 replace I0 := (Ints.below I0 hB (Nat.le_refl _)).more (Nat.le_refl _) hB.size
 replace I1 := (Ints.below I1 hB (Nat.le_refl _)).more (Nat.le_refl _) hB.size
 replace hBL := hBL.trans (hB.mono (by omega))
 have I2 : Ints _ (w.heap.size + 2) _ .u32 A2 m.C.n m.C.xs := Ints.more hI (by omega) (Nat.le_refl _)
 clear hI hlt2
 clear hB
 refine hK _ _ ⟨fun _ _ => kp_, ?_⟩
 clear hK K
 try simp only [Act.put, zp]
 refine stepK (i := 11) (L := #[zT,zT,zT,zT,zT,zT,zT,zT,zT,zT,zT,zT,zF,zF]) rfl (by rfl) (by kernel_rfl) (by rfl) (fun K hK => ?_)
 go_simp
 go_at_call 66
 refine (Pa.rTwin_any w_8 m.A.s m.A.A m.A.n m.A.c m.A.xs m.A.e (MRows.get Rm 3) n3).mono ?_
 rintro e' w_9 ⟨A3, c3, rfl, hc3, hB, hlt3, hI⟩
 replace kp_ := Keeps.on kp_ (by omega) hB
 have lw_9 : w_8.heap.size ≤ w_9.heap.size := hB.size
 replace Rm := MRows.on Rm hB
 replace I0 := (Ints.below I0 hB (Nat.le_refl _)).more (Nat.le_refl _) hB.size
 replace I1 := (Ints.below I1 hB (Nat.le_refl _)).more (Nat.le_refl _) hB.size
 replace I2 := (Ints.below I2 hB (Nat.le_refl _)).more (Nat.le_refl _) hB.size
 replace hBL := hBL.trans (hB.mono (by omega))
 have I3 : Ints _ (w.heap.size + 2) _ .u32 A3 m.A.n m.A.xs := Ints.more hI (by omega) (Nat.le_refl _)
 clear hI hlt3
 clear hB
 refine hK _ _ ⟨fun _ _ => kp_, ?_⟩
 clear hK K
 try simp only [Act.put, zp]
 refine zE 12 #[zT,zT,zT,zT,zT,zT,zT,zT,zT,zT,zT,zT,zT,zF] ?_ rfl ?hy13 ?rest13
 case hy13 => intro w; go_simp; (try with_reducible rfl)
 try simp only [Act.put, zp]
 have hZ2 : MBox w_9 (w.heap.size + 1) ZM := (kp_ _ (by omega)).trans hZ
 obtain ⟨⟨z0, z1, z2, z3, z4, z5, z6, z7, z8, z9, z10, z11⟩, zf⟩ := MBox.cells hZ2
 refine stepK (i := 13) (L := #[zT,zT,zT,zT,zT,zT,zT,zT,zT,zT,zT,zT,zT,zT]) rfl (by rfl) (by kernel_rfl) (by rfl) (fun K hK => ?_)
 go_simp
 refine hK _ _ ⟨fun h => absurd h (by decide), ?_⟩
 clear hK K z0 z1 z2 z3 z4 z5 z6 z7 z8 z9 z10 z11 zf
 try simp only [Act.put, zp]
 obtain ⟨M, hMe⟩ : ∃ M : Mv, M = ⟨⟨m.S.s, A0, m.S.n, c0, m.S.e, m.S.xs⟩, ⟨m.W.s, A1, m.W.n, c1, m.W.e, m.W.xs⟩, ⟨m.C.s, A2, m.C.n, c2, m.C.e, m.C.xs⟩, ⟨m.A.s, A3, m.A.n, c3, m.A.e, m.A.xs⟩⟩ := ⟨_, rfl⟩
 have hX : MBox ((((((((((((w_9.setCell ⟨w.heap.size + 1, 0, none⟩ (.bool m.S.s)).setCell ⟨w.heap.size + 1, 1, none⟩ (.slice A0 m.S.n c0)).setCell ⟨w.heap.size + 1, 2, none⟩ (.int .i64 m.S.e)).setCell ⟨w.heap.size + 1, 3, none⟩ (.bool m.W.s)).setCell ⟨w.heap.size + 1, 4, none⟩ (.slice A1 m.W.n c1)).setCell ⟨w.heap.size + 1, 5, none⟩ (.int .i64 m.W.e)).setCell ⟨w.heap.size + 1, 6, none⟩ (.bool m.C.s)).setCell ⟨w.heap.size + 1, 7, none⟩ (.slice A2 m.C.n c2)).setCell ⟨w.heap.size + 1, 8, none⟩ (.int .i64 m.C.e)).setCell ⟨w.heap.size + 1, 9, none⟩ (.bool m.A.s)).setCell ⟨w.heap.size + 1, 10, none⟩ (.slice A3 m.A.n c3)).setCell ⟨w.heap.size + 1, 11, none⟩ (.int .i64 m.A.e)) (w.heap.size + 1) M := by rw [hMe]; exact MBox.all hZ2 ⟨⟨m.S.s, A0, m.S.n, c0, m.S.e, m.S.xs⟩, ⟨m.W.s, A1, m.W.n, c1, m.W.e, m.W.xs⟩, ⟨m.C.s, A2, m.C.n, c2, m.C.e, m.C.xs⟩, ⟨m.A.s, A3, m.A.n, c3, m.A.e, m.A.xs⟩⟩
 have hRX : MRows ((((((((((((w_9.setCell ⟨w.heap.size + 1, 0, none⟩ (.bool m.S.s)).setCell ⟨w.heap.size + 1, 1, none⟩ (.slice A0 m.S.n c0)).setCell ⟨w.heap.size + 1, 2, none⟩ (.int .i64 m.S.e)).setCell ⟨w.heap.size + 1, 3, none⟩ (.bool m.W.s)).setCell ⟨w.heap.size + 1, 4, none⟩ (.slice A1 m.W.n c1)).setCell ⟨w.heap.size + 1, 5, none⟩ (.int .i64 m.W.e)).setCell ⟨w.heap.size + 1, 6, none⟩ (.bool m.C.s)).setCell ⟨w.heap.size + 1, 7, none⟩ (.slice A2 m.C.n c2)).setCell ⟨w.heap.size + 1, 8, none⟩ (.int .i64 m.C.e)).setCell ⟨w.heap.size + 1, 9, none⟩ (.bool m.A.s)).setCell ⟨w.heap.size + 1, 10, none⟩ (.slice A3 m.A.n c3)).setCell ⟨w.heap.size + 1, 11, none⟩ (.int .i64 m.A.e)) w.heap.size w_9.heap.size M := by
  rw [hMe]
  have hfar : ∀ {A : Option Addr} {n : Nat} {xs : List Int}, Ints w_9 (w.heap.size + 2) w_9.heap.size .u32 A n xs → Ints ((((((((((((w_9.setCell ⟨w.heap.size + 1, 0, none⟩ (.bool m.S.s)).setCell ⟨w.heap.size + 1, 1, none⟩ (.slice A0 m.S.n c0)).setCell ⟨w.heap.size + 1, 2, none⟩ (.int .i64 m.S.e)).setCell ⟨w.heap.size + 1, 3, none⟩ (.bool m.W.s)).setCell ⟨w.heap.size + 1, 4, none⟩ (.slice A1 m.W.n c1)).setCell ⟨w.heap.size + 1, 5, none⟩ (.int .i64 m.W.e)).setCell ⟨w.heap.size + 1, 6, none⟩ (.bool m.C.s)).setCell ⟨w.heap.size + 1, 7, none⟩ (.slice A2 m.C.n c2)).setCell ⟨w.heap.size + 1, 8, none⟩ (.int .i64 m.C.e)).setCell ⟨w.heap.size + 1, 9, none⟩ (.bool m.A.s)).setCell ⟨w.heap.size + 1, 10, none⟩ (.slice A3 m.A.n c3)).setCell ⟨w.heap.size + 1, 11, none⟩ (.int .i64 m.A.e)) w.heap.size w_9.heap.size .u32 A n xs := fun h => (ints_rng h fun k h1 h2 => far_all (by omega) ⟨⟨m.S.s, A0, m.S.n, c0, m.S.e, m.S.xs⟩, ⟨m.W.s, A1, m.W.n, c1, m.W.e, m.W.xs⟩, ⟨m.C.s, A2, m.C.n, c2, m.C.e, m.C.xs⟩, ⟨m.A.s, A3, m.A.n, c3, m.A.e, m.A.xs⟩⟩).more (by omega) (Nat.le_refl _)
  exact ⟨hfar I0, hfar I1, hfar I2, hfar I3⟩
 have hY : Below w.heap.size w ((((((((((((w_9.setCell ⟨w.heap.size + 1, 0, none⟩ (.bool m.S.s)).setCell ⟨w.heap.size + 1, 1, none⟩ (.slice A0 m.S.n c0)).setCell ⟨w.heap.size + 1, 2, none⟩ (.int .i64 m.S.e)).setCell ⟨w.heap.size + 1, 3, none⟩ (.bool m.W.s)).setCell ⟨w.heap.size + 1, 4, none⟩ (.slice A1 m.W.n c1)).setCell ⟨w.heap.size + 1, 5, none⟩ (.int .i64 m.W.e)).setCell ⟨w.heap.size + 1, 6, none⟩ (.bool m.C.s)).setCell ⟨w.heap.size + 1, 7, none⟩ (.slice A2 m.C.n c2)).setCell ⟨w.heap.size + 1, 8, none⟩ (.int .i64 m.C.e)).setCell ⟨w.heap.size + 1, 9, none⟩ (.bool m.A.s)).setCell ⟨w.heap.size + 1, 10, none⟩ (.slice A3 m.A.n c3)).setCell ⟨w.heap.size + 1, 11, none⟩ (.int .i64 m.A.e)) := below_all hBL (by omega) ⟨⟨m.S.s, A0, m.S.n, c0, m.S.e, m.S.xs⟩, ⟨m.W.s, A1, m.W.n, c1, m.W.e, m.W.xs⟩, ⟨m.C.s, A2, m.C.n, c2, m.C.e, m.C.xs⟩, ⟨m.A.s, A3, m.A.n, c3, m.A.e, m.A.xs⟩⟩
 have hs : w_9.heap.size ≤ ((((((((((((w_9.setCell ⟨w.heap.size + 1, 0, none⟩ (.bool m.S.s)).setCell ⟨w.heap.size + 1, 1, none⟩ (.slice A0 m.S.n c0)).setCell ⟨w.heap.size + 1, 2, none⟩ (.int .i64 m.S.e)).setCell ⟨w.heap.size + 1, 3, none⟩ (.bool m.W.s)).setCell ⟨w.heap.size + 1, 4, none⟩ (.slice A1 m.W.n c1)).setCell ⟨w.heap.size + 1, 5, none⟩ (.int .i64 m.W.e)).setCell ⟨w.heap.size + 1, 6, none⟩ (.bool m.C.s)).setCell ⟨w.heap.size + 1, 7, none⟩ (.slice A2 m.C.n c2)).setCell ⟨w.heap.size + 1, 8, none⟩ (.int .i64 m.C.e)).setCell ⟨w.heap.size + 1, 9, none⟩ (.bool m.A.s)).setCell ⟨w.heap.size + 1, 10, none⟩ (.slice A3 m.A.n c3)).setCell ⟨w.heap.size + 1, 11, none⟩ (.int .i64 m.A.e)).heap.size := Nat.le_of_eq (size_all (w := w_9) (g := w.heap.size + 1) ⟨⟨m.S.s, A0, m.S.n, c0, m.S.e, m.S.xs⟩, ⟨m.W.s, A1, m.W.n, c1, m.W.e, m.W.xs⟩, ⟨m.C.s, A2, m.C.n, c2, m.C.e, m.C.xs⟩, ⟨m.A.s, A3, m.A.n, c3, m.A.e, m.A.xs⟩⟩).symm
 generalize ((((((((((((w_9.setCell ⟨w.heap.size + 1, 0, none⟩ (.bool m.S.s)).setCell ⟨w.heap.size + 1, 1, none⟩ (.slice A0 m.S.n c0)).setCell ⟨w.heap.size + 1, 2, none⟩ (.int .i64 m.S.e)).setCell ⟨w.heap.size + 1, 3, none⟩ (.bool m.W.s)).setCell ⟨w.heap.size + 1, 4, none⟩ (.slice A1 m.W.n c1)).setCell ⟨w.heap.size + 1, 5, none⟩ (.int .i64 m.W.e)).setCell ⟨w.heap.size + 1, 6, none⟩ (.bool m.C.s)).setCell ⟨w.heap.size + 1, 7, none⟩ (.slice A2 m.C.n c2)).setCell ⟨w.heap.size + 1, 8, none⟩ (.int .i64 m.C.e)).setCell ⟨w.heap.size + 1, 9, none⟩ (.bool m.A.s)).setCell ⟨w.heap.size + 1, 10, none⟩ (.slice A3 m.A.n c3)).setCell ⟨w.heap.size + 1, 11, none⟩ (.int .i64 m.A.e)) = U at *
 have hTw : ∀ x, x < 4 → TwinV (m.get x) (M.get x) := by
  rw [hMe]
  exact four ⟨rfl, rfl, rfl, rfl, hc0⟩ ⟨rfl, rfl, rfl, rfl, hc1⟩ ⟨rfl, rfl, rfl, rfl, hc2⟩ ⟨rfl, rfl, rfl, rfl, hc3⟩
 refine doneE (by kernel_rfl) ?_ _
 go_wp2
 obtain ⟨⟨k0, k1, k2, k3, k4, k5, k6, k7, k8, k9, k10, k11⟩, kf⟩ := MBox.cells hX
 exact bodyPost_ret (v := .agg #[.bool M.S.s, .slice M.S.A M.S.n M.S.c, .int .i64 M.S.e, .bool M.W.s, .slice M.W.A M.W.n M.W.c, .int .i64 M.W.e, .bool M.C.s, .slice M.C.A M.C.n M.C.c, .int .i64 M.C.e, .bool M.A.s, .slice M.A.A M.A.n M.A.c, .int .i64 M.A.e]) (by simp [results, Tryz.results34, go_sem, k0, k1, k2, k3, k4, k5, k6, k7, k8, k9, k10, k11]) rfl ⟨M, rfl, hTw, hY, hRX.more (Nat.le_refl _) hs⟩
end Ma
end Go.Proofs.YtmbppgjhdcmckaaGreatDoor
namespace Go.Proofs.YtmbppgjhdcmckaaGreatDoor
open Go.RowKit
namespace Ma
open Dp Dy
theorem alloc_m (w : World) (m : Mv) : ∃ U, w.alloc (.cells #[.bool m.S.s, .slice m.S.A m.S.n m.S.c, .int .i64 m.S.e, .bool m.W.s, .slice m.W.A m.W.n m.W.c, .int .i64 m.W.e, .bool m.C.s, .slice m.C.A m.C.n m.C.c, .int .i64 m.C.e, .bool m.A.s, .slice m.A.A m.A.n m.A.c, .int .i64 m.A.e] 26) = U ∧ MBox U w.heap.size m ∧ Below w.heap.size w U ∧ w.heap.size < U.heap.size :=
 ⟨_, rfl, heap_alloc_last _ _, (Below.refl _ w).alloc (Nat.le_refl _) _, by simp⟩
theorem alloc_z (w : World) : ∃ U, w.alloc (.cells #[.bool false, .slice none 0 0, .int .i64 0, .bool false, .slice none 0 0, .int .i64 0, .bool false, .slice none 0 0, .int .i64 0, .bool false, .slice none 0 0, .int .i64 0] 26) = U ∧ MBox U w.heap.size ZM ∧ Below w.heap.size w U ∧ w.heap.size < U.heap.size :=
 ⟨_, rfl, heap_alloc_last _ _, (Below.refl _ w).alloc (Nat.le_refl _) _, by simp⟩
theorem alloc_mm (w : World) (m n : Mv) : ∃ U, (w.alloc (.cells #[.bool m.S.s, .slice m.S.A m.S.n m.S.c, .int .i64 m.S.e, .bool m.W.s, .slice m.W.A m.W.n m.W.c, .int .i64 m.W.e, .bool m.C.s, .slice m.C.A m.C.n m.C.c, .int .i64 m.C.e, .bool m.A.s, .slice m.A.A m.A.n m.A.c, .int .i64 m.A.e] 26)).alloc (.cells #[.bool n.S.s, .slice n.S.A n.S.n n.S.c, .int .i64 n.S.e, .bool n.W.s, .slice n.W.A n.W.n n.W.c, .int .i64 n.W.e, .bool n.C.s, .slice n.C.A n.C.n n.C.c, .int .i64 n.C.e, .bool n.A.s, .slice n.A.A n.A.n n.A.c, .int .i64 n.A.e] 26) = U ∧ MBox U w.heap.size m ∧ MBox U (w.heap.size + 1) n ∧ Below w.heap.size w U ∧ w.heap.size + 2 ≤ U.heap.size := by
 obtain ⟨h1, h2, h3, h4, _⟩ := boxes2 w _ _ rfl
 exact ⟨_, rfl, h1, h2, h3, h4⟩
theorem all_to {w : World} {g : Nat} {m0 : Mv} (h : MBox w g m0) (m : Mv) : ∃ U, ((((((((((((w.setCell ⟨g, 0, none⟩ (.bool m.S.s)).setCell ⟨g, 1, none⟩ (.slice m.S.A m.S.n m.S.c)).setCell ⟨g, 2, none⟩ (.int .i64 m.S.e)).setCell ⟨g, 3, none⟩ (.bool m.W.s)).setCell ⟨g, 4, none⟩ (.slice m.W.A m.W.n m.W.c)).setCell ⟨g, 5, none⟩ (.int .i64 m.W.e)).setCell ⟨g, 6, none⟩ (.bool m.C.s)).setCell ⟨g, 7, none⟩ (.slice m.C.A m.C.n m.C.c)).setCell ⟨g, 8, none⟩ (.int .i64 m.C.e)).setCell ⟨g, 9, none⟩ (.bool m.A.s)).setCell ⟨g, 10, none⟩ (.slice m.A.A m.A.n m.A.c)).setCell ⟨g, 11, none⟩ (.int .i64 m.A.e)) = U ∧ MBox U g m ∧ (∀ w0 B, Below B w0 w → B ≤ g → Below B w0 U) ∧ (∀ j, j ≠ g → U.heap[j]? = w.heap[j]?) ∧ U.heap.size ≤ w.heap.size ∧ w.heap.size ≤ U.heap.size :=
 ⟨_, rfl, h.all m, fun _ _ hb hg => below_all hb hg m, fun _ hj => far_all hj m, Nat.le_of_eq (size_all m), Nat.le_of_eq (size_all m).symm⟩
end Ma
end Go.Proofs.YtmbppgjhdcmckaaGreatDoor
namespace Go.Proofs.YtmbppgjhdcmckaaGreatDoor
open Go.RowKit
namespace Ma
open Dp Dy
/-- Each row lies in one of two ranges. -/
def TwoR (w : World) (lo hi lo' hi' : Nat) (m : Mv) : Prop := ∀ x, x < 4 → Ints w lo hi .u32 (m.get x).A (m.get x).n (m.get x).xs ∨ Ints w lo' hi' .u32 (m.get x).A (m.get x).n (m.get x).xs
theorem TwoR.below {w w' : World} {lo hi lo' hi' B : Nat} {m : Mv} (h : TwoR w lo hi lo' hi' m) (hb : Below B w w') (h1 : hi ≤ B) (h2 : hi' ≤ B) : TwoR w' lo hi lo' hi' m := fun x hx => (h x hx).imp (fun k => k.below hb h1) (fun k => k.below hb h2)
theorem TwoR.rows {w : World} {lo hi lo' hi' : Nat} {m : Mv} (h : TwoR w lo hi lo' hi' m) (h1 : hi ≤ w.heap.size) (h2 : hi' ≤ w.heap.size) : MRows w 0 w.heap.size m :=
 have k : ∀ x, x < 4 → Ints w 0 w.heap.size .u32 (m.get x).A (m.get x).n (m.get x).xs := fun x hx => (h x hx).elim (fun k => k.more (Nat.zero_le _) h1) (fun k => k.more (Nat.zero_le _) h2)
 ⟨k 0 (by decide), k 1 (by decide), k 2 (by decide), k 3 (by decide)⟩
end Ma
end Go.Proofs.YtmbppgjhdcmckaaGreatDoor