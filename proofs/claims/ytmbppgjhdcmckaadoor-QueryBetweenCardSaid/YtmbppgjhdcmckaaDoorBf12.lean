/- mass.Seed: a walk (printed by a program of mine). -/
/- mass.Split: a walk (printed by a program of mine). -/
/- Plain laws about masses' values, and contracts that say the numbers (printed by a program of mine). -/
/- The plain laws of MassWhole and MassGroup. No program in sight. -/
/- headcountlaw06.half and alive: walks (printed by a program of mine). -/
/- headcountref06.Great: a walk (printed by a program of mine). -/
/- Small laws that shorten walks over masses (printed by a program of mine). -/
/- headcountref06.Split, Check: walks (printed by a program of mine). -/
import Derived.Test.YtmbppgjhdcmckaaDoorBf11
import Derived.Test.YtmbppgjhdcmckaaDoorBf03
import Derived.Test.YtmbppgjhdcmckaaDoorBf09
import Derived.Test.YtmbppgjhdcmckaaDoorBf08
import Derived.Lib.MinMax
import Derived.Test.YtmbppgjhdcmckaaDoorBf01
namespace Go.Proofs.YtmbppgjhdcmckaaDoor
open Go.RowKit
namespace Ma
open Dp Dy
theorem ints_rng {w w' : World} {lo hi n : Nat} {k : IntKind} {A : Option Addr} {xs : List Int} (h : Ints w lo hi k A n xs) (hk : ∀ b, lo ≤ b → b < hi → w'.heap[b]? = w.heap[b]?) : Ints w' lo hi k A n xs :=
 ⟨h.len, h.wf, h.big, fun h0 => by
  obtain ⟨b, off, e, h1, h2, hc⟩ := h.row h0
  have h3 := hk b h1 h2
  exact ⟨b, off, e, h1, h2, fun j hj => ⟨by rw [World.cell?_of_block h3]; exact (hc j hj).1, by rw [World.frozen?_of_block h3]; exact (hc j hj).2⟩⟩⟩
/-- What a node begins with. -/
def seedD (x : Int) (first : Bool) (j : Nat) : Dn := match j with
 | 0 => ⟨decide (x < 0), x.natAbs, 0⟩
 | 1 => ⟨false, 1, 0⟩
 | 2 => if first then ⟨false, 1, 0⟩ else Dn.zero
 | _ => ⟨decide (x < 0), x.natAbs, 0⟩
end Ma
end Go.Proofs.YtmbppgjhdcmckaaDoor
namespace Go.Proofs.YtmbppgjhdcmckaaDoor
open Go.RowKit
namespace Ma
open Dp Dy
theorem rows_rng {w w' : World} {lo hi : Nat} {m : Mv} (h : MRows w lo hi m) (hk : ∀ b, lo ≤ b → b < hi → w'.heap[b]? = w.heap[b]?) : MRows w' lo hi m := ⟨ints_rng h.S hk, ints_rng h.W hk, ints_rng h.C hk, ints_rng h.A hk⟩
end Ma
end Go.Proofs.YtmbppgjhdcmckaaDoor
namespace Go.Proofs.YtmbppgjhdcmckaaDoor
open Go.RowKit
namespace Ma
open Dp Dy
/-- d is the form of the number r. -/
def Is (r : Dn) (d : Dv) : Prop := d.s = r.neg ∧ d.e = r.e ∧ d.xs = canon 4294967296 r.m
theorem ResV.is {W : World} {lo : Nat} {r : Dn} {d : Dv} (h : ResV W lo r d) : Is r d := ⟨h.1, h.2.1, h.2.2.1⟩
theorem ResV.row {W : World} {lo : Nat} {r : Dn} {d : Dv} (h : ResV W lo r d) : Ints W lo W.heap.size .u32 d.A d.n d.xs := h.2.2.2.2
theorem Is.may {r : Dn} {d : Dv} (h : Is r d) (hr : r.May) : d.may := by
 unfold Dv.may
 rw [h.1, h.2.1, h.2.2]
 exact dn_may hr
theorem Is.same {r : Dn} {d d' : Dv} (h : Is r d) (h' : Is r d') : sameV d d' = true := by
 unfold sameV
 rw [h.1, h.2.1, h.2.2, h'.1, h'.2.1, h'.2.2]
 exact Pa.Dy.same_refl _
theorem Is.of {d : Dv} (hd : Dig 4294967296 d.xs) (hm : d.may) : Is (dn d.s d.xs d.e) d := ⟨rfl, (dn_ok hd hm).2.2.symm, (dn_ok hd hm).2.1.symm⟩
theorem Is.twin {r : Dn} {d d' : Dv} (h : Is r d) (ht : TwinV d d') : Is r d' := ⟨ht.1.trans h.1, ht.2.2.1.trans h.2.1, ht.2.2.2.1.trans h.2.2⟩
theorem Is.zero : Is Dn.zero ⟨false, none, 0, 0, 0, []⟩ := ⟨rfl, rfl, rfl⟩
theorem Is.add {r r' : Dn} {d d' : Dv} (h : Is r d) (h' : Is r' d') (hr : r.May) (hr' : r'.May) : addX d.s d.xs d.e d'.s d'.xs d'.e = addD r r' := by
 rw [addX_ok (h.may hr) (h'.may hr'), h.1, h.2.1, h.2.2, h'.1, h'.2.1, h'.2.2, dn_of, dn_of]
theorem add_zero {a : Dn} (ha : a.May) : addD a Dn.zero = (a, 0) :=
 add_of ha (K := a.e) (Nat.le_refl _) (Nat.zero_le _) (Nat.le_refl _) (by rw [vl_zero]; omega)
theorem zero_add {a : Dn} (ha : a.May) : addD Dn.zero a = (a, 0) := by rw [add_comm]; exact add_zero ha
/-- m is the form of the numbers R. -/
def IsM (R : Nat → Dn) (m : Mv) : Prop := ∀ x, x < 4 → Is (R x) (m.get x)
def MayR (R : Nat → Dn) : Prop := ∀ x, x < 4 → (R x).May
def dnM (m : Mv) (x : Nat) : Dn := dn (m.get x).s (m.get x).xs (m.get x).e
def zR (_ : Nat) : Dn := Dn.zero
theorem zR_may : MayR zR := fun _ _ => zero_may
theorem IsM.zero : IsM zR ZM := four Is.zero Is.zero Is.zero Is.zero
theorem IsM.same {R : Nat → Dn} {a b : Mv} (h : IsM R a) (h' : IsM R b) : sameM a b = true := (sameM_iff a b).2 fun x hx => (h x hx).same (h' x hx)
theorem IsM.may {R : Nat → Dn} {m : Mv} (h : IsM R m) (hr : MayR R) : m.may := fun x hx => (h x hx).may (hr x hx)
theorem IsM.of {w : World} {lo hi : Nat} {m : Mv} (hR : MRows w lo hi m) (h : m.may) : IsM (dnM m) m := fun x hx => Is.of (dig_ints (hR.get x)) (h x hx)
theorem dnM_may {w : World} {lo hi : Nat} {m : Mv} (hR : MRows w lo hi m) (h : m.may) : MayR (dnM m) := fun x hx => (dn_ok (dig_ints (hR.get x)) (h x hx)).1
theorem IsM.add {R S : Nat → Dn} {a b : Mv} (h : IsM R a) (h' : IsM S b) (hr : MayR R) (hs : MayR S) {x : Nat} (hx : x < 4) : xAdd a b x = addD (R x) (S x) := (h x hx).add (h' x hx) (hr x hx) (hs x hx)
theorem IsM.twin {R : Nat → Dn} {a b : Mv} (h : IsM R a) (ht : ∀ x, x < 4 → TwinV (a.get x) (b.get x)) : IsM R b := fun x hx => (h x hx).twin (ht x hx)
open Classical in
/-- What a sum is, whatever the masses. -/
noncomputable def addM (a b : Mv) : (Nat → Dn) × Int := if a.may ∧ b.may then (if ∀ j, j < 4 → (xAdd a b j).2 = 0 then (fun j => (xAdd a b j).1, 0) else (zR, 10)) else (zR, 8)
open Classical in
noncomputable def subM (a b : Mv) : (Nat → Dn) × Int := if a.may ∧ b.may then (if ∀ j, j < 4 → (xSub a b j).2 = 0 then (fun j => (xSub a b j).1, 0) else (zR, 10)) else (zR, 8)
open Classical in
/-- What is kept and sent. -/
noncomputable def splitM (m : Mv) : ((Nat → Dn) × (Nat → Dn)) × Int :=
 if m.may then (if (halfX m.S.s m.S.xs m.S.e).2 = 0 ∧ (halfX m.W.s m.W.xs m.W.e).2 = 0 then
  ((fun x => if x = 0 then (halfX m.S.s m.S.xs m.S.e).1 else if x = 1 then (halfX m.W.s m.W.xs m.W.e).1 else dnM m x, fun x => if x = 0 then (halfX m.S.s m.S.xs m.S.e).1 else if x = 1 then (halfX m.W.s m.W.xs m.W.e).1 else Dn.zero), 0)
  else ((zR, zR), 10)) else ((zR, zR), 8)
end Ma
end Go.Proofs.YtmbppgjhdcmckaaDoor
namespace Go.Proofs.YtmbppgjhdcmckaaDoor
open Go.RowKit
namespace Ma
open Dp Dy
theorem splitM_may {w : World} {lo hi : Nat} {m : Mv} (hR : MRows w lo hi m) {kR sR : Nat → Dn} {code : Int} (h : splitM m = ((kR, sR), code)) : MayR kR ∧ MayR sR := by
 unfold splitM at h
 split at h
 · rename_i hm
   split at h
   · injection h with h1 h2
     injection h1 with h1 h3
     subst h1 h3
     exact ⟨four (halfX_may ..) (halfX_may ..) (dnM_may hR hm 2 (by decide)) (dnM_may hR hm 3 (by decide)), four (halfX_may ..) (halfX_may ..) zero_may zero_may⟩
   · injection h with h1 h2
     injection h1 with h1 h3
     subst h1 h3
     exact ⟨zR_may, zR_may⟩
 · injection h with h1 h2
   injection h1 with h1 h3
   subst h1 h3
   exact ⟨zR_may, zR_may⟩
end Ma
end Go.Proofs.YtmbppgjhdcmckaaDoor
namespace Go.Proofs.YtmbppgjhdcmckaaDoor
open Go.RowKit
namespace Ma
open Dp Dy
theorem MRows.on {w w' : World} {m : Mv} (h : MRows w 0 w.heap.size m) (hb : Below w.heap.size w w') : MRows w' 0 w'.heap.size m := (h.below hb (Nat.le_refl _)).more (Nat.le_refl _) hb.size
end Ma
end Go.Proofs.YtmbppgjhdcmckaaDoor
namespace Go.Proofs.YtmbppgjhdcmckaaDoor
open Go.RowKit
namespace Ma
open Dp Dy
def Dv.great (d : Dv) : Bool := Pa.Dy.great ⟨d.s, d.xs, d.e⟩
def greatM (m : Mv) : Bool := m.S.great || m.W.great || m.C.great || m.A.great
theorem great_not {m : Mv} (h : greatM m = false) : ∀ x, x < 4 → (m.get x).xs.length ≤ 42 ∧ (m.get x).e ≤ 1100 := by
 have hd : ∀ d : Dv, d.great = false → d.xs.length ≤ 42 ∧ d.e ≤ 1100 := fun d h => by
  simp [Dv.great, Pa.Dy.great] at h
  omega
 unfold greatM at h
 simp only [Bool.or_eq_false_iff] at h
 exact four (hd _ h.1.1.1) (hd _ h.1.1.2) (hd _ h.1.2) (hd _ h.2)
set_option maxHeartbeats 6400000 in
set_option maxRecDepth 100000 in
theorem RGreat_any (w : World) (m : Mv) {lo hi : Nat} (hRm : MRows w lo hi m) (k : Bool) (hk : greatM m = k) :
  Calls Tryd.prog 20 #[.agg #[.bool m.S.s, .slice m.S.A m.S.n m.S.c, .int .i64 m.S.e, .bool m.W.s, .slice m.W.A m.W.n m.W.c, .int .i64 m.W.e, .bool m.C.s, .slice m.C.A m.C.n m.C.c, .int .i64 m.C.e, .bool m.A.s, .slice m.A.A m.A.n m.A.c, .int .i64 m.A.e]] w fun e w' => e = .returned (.bool k) ∧ Below w.heap.size w w' := by
 have L0 := Lib.hid (hRm.get 0).len
 have L1 := Lib.hid (hRm.get 1).len
 have L2 := Lib.hid (hRm.get 2).len
 have L3 := Lib.hid (hRm.get 3).len
 unfold greatM at hk
 obtain ⟨g0, h0⟩ : ∃ g, m.S.great = g := ⟨_, rfl⟩
 obtain ⟨g1, h1⟩ : ∃ g, m.W.great = g := ⟨_, rfl⟩
 obtain ⟨g2, h2⟩ : ∃ g, m.C.great = g := ⟨_, rfl⟩
 obtain ⟨g3, h3⟩ : ∃ g, m.A.great = g := ⟨_, rfl⟩
 rw [h0, h1, h2, h3] at hk
 have HK := Lib.hid hk
 have H0 := Lib.hid h0
 have H1 := Lib.hid h1
 have H2 := Lib.hid h2
 have H3 := Lib.hid h3
 clear hk h0 h1 h2 h3
 generalize hw : w.alloc (.cells #[.bool m.S.s, .slice m.S.A m.S.n m.S.c, .int .i64 m.S.e, .bool m.W.s, .slice m.W.A m.W.n m.W.c, .int .i64 m.W.e, .bool m.C.s, .slice m.C.A m.C.n m.C.c, .int .i64 m.C.e, .bool m.A.s, .slice m.A.A m.A.n m.A.c, .int .i64 m.A.e] 26) = w1
 have hM1 : MBox w1 w.heap.size m := by rw [← hw]; exact heap_alloc_last _ _
 have hb : Below w.heap.size w w1 := by rw [← hw]; exact (Below.refl _ w).alloc (Nat.le_refl _) _
 have hlo : w.heap.size + 1 ≤ w1.heap.size := by rw [← hw]; simp
 obtain ⟨⟨k0, k1, k2, k3, k4, k5, k6, k7, k8, k9, k10, k11⟩, kf⟩ := MBox.cells hM1
 go_enter Tryd.func20, Tryd.ntmps20
 go_wp2_with fail
 try clear hw
 refine (Pa.rGreat_any w1 m.S.s m.S.A m.S.n m.S.c m.S.xs m.S.e L0.out g0 H0.out).mono ?_
 rintro e w2 ⟨rfl, hB⟩
 clear k0 k1 k2 k3 k4 k5 k6 k7 k8 k9 k10 k11 kf
 have l2 := hB.size
 replace hM1 : MBox w2 w.heap.size m := box_on hM1 hB (by omega)
 replace hb := hb.trans (hB.mono (by omega))
 clear hB
 cases g0
 rotate_left
 · go_wp2
   go_ret
   exact ⟨by rw [← HK.out]; simp, hb⟩
 · skip
   obtain ⟨⟨k0, k1, k2, k3, k4, k5, k6, k7, k8, k9, k10, k11⟩, kf⟩ := MBox.cells hM1
   go_wp2_with fail
   refine (Pa.rGreat_any w2 m.W.s m.W.A m.W.n m.W.c m.W.xs m.W.e L1.out g1 H1.out).mono ?_
   rintro e w3 ⟨rfl, hB⟩
   clear k0 k1 k2 k3 k4 k5 k6 k7 k8 k9 k10 k11 kf
   have l3 := hB.size
   replace hM1 : MBox w3 w.heap.size m := box_on hM1 hB (by omega)
   replace hb := hb.trans (hB.mono (by omega))
   clear hB
   cases g1
   rotate_left
   · go_wp2
     go_ret
     exact ⟨by rw [← HK.out]; simp, hb⟩
   · skip
     obtain ⟨⟨k0, k1, k2, k3, k4, k5, k6, k7, k8, k9, k10, k11⟩, kf⟩ := MBox.cells hM1
     go_wp2_with fail
     refine (Pa.rGreat_any w3 m.C.s m.C.A m.C.n m.C.c m.C.xs m.C.e L2.out g2 H2.out).mono ?_
     rintro e w4 ⟨rfl, hB⟩
     clear k0 k1 k2 k3 k4 k5 k6 k7 k8 k9 k10 k11 kf
     have l4 := hB.size
     replace hM1 : MBox w4 w.heap.size m := box_on hM1 hB (by omega)
     replace hb := hb.trans (hB.mono (by omega))
     clear hB
     cases g2
     rotate_left
     · go_wp2
       go_ret
       exact ⟨by rw [← HK.out]; simp, hb⟩
     · skip
       obtain ⟨⟨k0, k1, k2, k3, k4, k5, k6, k7, k8, k9, k10, k11⟩, kf⟩ := MBox.cells hM1
       go_wp2_with fail
       refine (Pa.rGreat_any w4 m.A.s m.A.A m.A.n m.A.c m.A.xs m.A.e L3.out g3 H3.out).mono ?_
       rintro e w5 ⟨rfl, hB⟩
       clear k0 k1 k2 k3 k4 k5 k6 k7 k8 k9 k10 k11 kf
       have l5 := hB.size
       replace hM1 : MBox w5 w.heap.size m := box_on hM1 hB (by omega)
       replace hb := hb.trans (hB.mono (by omega))
       clear hB
       go_wp2
       go_ret
       exact ⟨by rw [← HK.out]; simp, hb⟩
end Ma
end Go.Proofs.YtmbppgjhdcmckaaDoor
namespace Go.Proofs.YtmbppgjhdcmckaaDoor
open Go.RowKit
namespace Ma
open Dp Dy
theorem alloc_m (w : World) (m : Mv) : ∃ U, w.alloc (.cells #[.bool m.S.s, .slice m.S.A m.S.n m.S.c, .int .i64 m.S.e, .bool m.W.s, .slice m.W.A m.W.n m.W.c, .int .i64 m.W.e, .bool m.C.s, .slice m.C.A m.C.n m.C.c, .int .i64 m.C.e, .bool m.A.s, .slice m.A.A m.A.n m.A.c, .int .i64 m.A.e] 26) = U ∧ MBox U w.heap.size m ∧ Below w.heap.size w U ∧ w.heap.size < U.heap.size :=
 ⟨_, rfl, heap_alloc_last _ _, (Below.refl _ w).alloc (Nat.le_refl _) _, by simp⟩
theorem alloc_z (w : World) : ∃ U, w.alloc (.cells #[.bool false, .slice none 0 0, .int .i64 0, .bool false, .slice none 0 0, .int .i64 0, .bool false, .slice none 0 0, .int .i64 0, .bool false, .slice none 0 0, .int .i64 0] 26) = U ∧ MBox U w.heap.size ZM ∧ Below w.heap.size w U ∧ w.heap.size < U.heap.size :=
 ⟨_, rfl, heap_alloc_last _ _, (Below.refl _ w).alloc (Nat.le_refl _) _, by simp⟩
theorem alloc_mm (w : World) (m n : Mv) : ∃ U, (w.alloc (.cells #[.bool m.S.s, .slice m.S.A m.S.n m.S.c, .int .i64 m.S.e, .bool m.W.s, .slice m.W.A m.W.n m.W.c, .int .i64 m.W.e, .bool m.C.s, .slice m.C.A m.C.n m.C.c, .int .i64 m.C.e, .bool m.A.s, .slice m.A.A m.A.n m.A.c, .int .i64 m.A.e] 26)).alloc (.cells #[.bool n.S.s, .slice n.S.A n.S.n n.S.c, .int .i64 n.S.e, .bool n.W.s, .slice n.W.A n.W.n n.W.c, .int .i64 n.W.e, .bool n.C.s, .slice n.C.A n.C.n n.C.c, .int .i64 n.C.e, .bool n.A.s, .slice n.A.A n.A.n n.A.c, .int .i64 n.A.e] 26) = U ∧ MBox U w.heap.size m ∧ MBox U (w.heap.size + 1) n ∧ Below w.heap.size w U ∧ w.heap.size + 2 ≤ U.heap.size := by
 obtain ⟨h1, h2, h3, h4, _⟩ := boxes2 w _ _ rfl
 exact ⟨_, rfl, h1, h2, h3, h4⟩
theorem all_to {w : World} {g : Nat} {m0 : Mv} (h : MBox w g m0) (m : Mv) : ∃ U, ((((((((((((w.setCell ⟨g, 0, none⟩ (.bool m.S.s)).setCell ⟨g, 1, none⟩ (.slice m.S.A m.S.n m.S.c)).setCell ⟨g, 2, none⟩ (.int .i64 m.S.e)).setCell ⟨g, 3, none⟩ (.bool m.W.s)).setCell ⟨g, 4, none⟩ (.slice m.W.A m.W.n m.W.c)).setCell ⟨g, 5, none⟩ (.int .i64 m.W.e)).setCell ⟨g, 6, none⟩ (.bool m.C.s)).setCell ⟨g, 7, none⟩ (.slice m.C.A m.C.n m.C.c)).setCell ⟨g, 8, none⟩ (.int .i64 m.C.e)).setCell ⟨g, 9, none⟩ (.bool m.A.s)).setCell ⟨g, 10, none⟩ (.slice m.A.A m.A.n m.A.c)).setCell ⟨g, 11, none⟩ (.int .i64 m.A.e)) = U ∧ MBox U g m ∧ (∀ w0 B, Below B w0 w → B ≤ g → Below B w0 U) ∧ (∀ j, j ≠ g → U.heap[j]? = w.heap[j]?) ∧ U.heap.size ≤ w.heap.size ∧ w.heap.size ≤ U.heap.size :=
 ⟨_, rfl, h.all m, fun _ _ hb hg => below_all hb hg m, fun _ hj => far_all hj m, Nat.le_of_eq (size_all m), Nat.le_of_eq (size_all m).symm⟩
end Ma
end Go.Proofs.YtmbppgjhdcmckaaDoor
namespace Go.Proofs.YtmbppgjhdcmckaaDoor
open Go.RowKit
namespace Ma
open Dp Dy
/-- Each row lies in one of two ranges. -/
def TwoR (w : World) (lo hi lo' hi' : Nat) (m : Mv) : Prop := ∀ x, x < 4 → Ints w lo hi .u32 (m.get x).A (m.get x).n (m.get x).xs ∨ Ints w lo' hi' .u32 (m.get x).A (m.get x).n (m.get x).xs
theorem TwoR.below {w w' : World} {lo hi lo' hi' B : Nat} {m : Mv} (h : TwoR w lo hi lo' hi' m) (hb : Below B w w') (h1 : hi ≤ B) (h2 : hi' ≤ B) : TwoR w' lo hi lo' hi' m := fun x hx => (h x hx).imp (fun k => k.below hb h1) (fun k => k.below hb h2)
theorem TwoR.rows {w : World} {lo hi lo' hi' : Nat} {m : Mv} (h : TwoR w lo hi lo' hi' m) (h1 : hi ≤ w.heap.size) (h2 : hi' ≤ w.heap.size) : MRows w 0 w.heap.size m :=
 have k : ∀ x, x < 4 → Ints w 0 w.heap.size .u32 (m.get x).A (m.get x).n (m.get x).xs := fun x hx => (h x hx).elim (fun k => k.more (Nat.zero_le _) h1) (fun k => k.more (Nat.zero_le _) h2)
 ⟨k 0 (by decide), k 1 (by decide), k 2 (by decide), k 3 (by decide)⟩
end Ma
end Go.Proofs.YtmbppgjhdcmckaaDoor