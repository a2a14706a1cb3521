/- Plain laws about masses' values, and contracts that say the numbers (printed by a program of mine). -/
/- The plain laws of MassWhole and MassGroup. No program in sight. -/
/- headcountlaw06.half and alive: walks (printed by a program of mine). -/
/- headcountref06.Great: a walk (printed by a program of mine). -/
/- Small laws that shorten walks over masses (printed by a program of mine). -/
/- headcountref06.Add: walks (printed by a program of mine). -/
/- headcountref06.Split, Check: walks (printed by a program of mine). -/
/- headcountlaw06.spoil: a walk (printed by a program of mine). -/
import Derived.Test.YtbbnbgllgomolaaDoorBs12
import Derived.Test.YtbbnbgllgomolaaDoorBs11
import Derived.Test.YtbbnbgllgomolaaDoorBs08
import Derived.Test.YtbbnbgllgomolaaDoorBs07
import Derived.Test.YtbbnbgllgomolaaDoorBs09
import Derived.Test.YtbbnbgllgomolaaDoorBs10
import Derived.Lib.MinMax
import Derived.Test.YtbbnbgllgomolaaDoorBs01
namespace Go.Proofs.YtbbnbgllgomolaaDoor
open Go.RowKit
namespace Ma
open Dp Dy
/-- d is the form of the number r. -/
def Is (r : Dn) (d : Dv) : Prop := d.s = r.neg ∧ d.e = r.e ∧ d.xs = canon 4294967296 r.m
theorem ResV.is {W : World} {lo : Nat} {r : Dn} {d : Dv} (h : ResV W lo r d) : Is r d := ⟨h.1, h.2.1, h.2.2.1⟩
theorem ResV.row {W : World} {lo : Nat} {r : Dn} {d : Dv} (h : ResV W lo r d) : Ints W lo W.heap.size .u32 d.A d.n d.xs := h.2.2.2.2
theorem Is.may {r : Dn} {d : Dv} (h : Is r d) (hr : r.May) : d.may := by
 unfold Dv.may
 rw [h.1, h.2.1, h.2.2]
 exact dn_may hr
theorem Is.same {r : Dn} {d d' : Dv} (h : Is r d) (h' : Is r d') : sameV d d' = true := by
 unfold sameV
 rw [h.1, h.2.1, h.2.2, h'.1, h'.2.1, h'.2.2]
 exact Pa.Dy.same_refl _
theorem Is.of {d : Dv} (hd : Dig 4294967296 d.xs) (hm : d.may) : Is (dn d.s d.xs d.e) d := ⟨rfl, (dn_ok hd hm).2.2.symm, (dn_ok hd hm).2.1.symm⟩
theorem Is.twin {r : Dn} {d d' : Dv} (h : Is r d) (ht : TwinV d d') : Is r d' := ⟨ht.1.trans h.1, ht.2.2.1.trans h.2.1, ht.2.2.2.1.trans h.2.2⟩
theorem Is.zero : Is Dn.zero ⟨false, none, 0, 0, 0, []⟩ := ⟨rfl, rfl, rfl⟩
theorem Is.add {r r' : Dn} {d d' : Dv} (h : Is r d) (h' : Is r' d') (hr : r.May) (hr' : r'.May) : addX d.s d.xs d.e d'.s d'.xs d'.e = addD r r' := by
 rw [addX_ok (h.may hr) (h'.may hr'), h.1, h.2.1, h.2.2, h'.1, h'.2.1, h'.2.2, dn_of, dn_of]
theorem Is.half {r : Dn} {d : Dv} (h : Is r d) (hr : r.May) : halfX d.s d.xs d.e = halfD r := by
 rw [halfX_ok (h.may hr), h.1, h.2.1, h.2.2, dn_of]
theorem add_zero {a : Dn} (ha : a.May) : addD a Dn.zero = (a, 0) :=
 add_of ha (K := a.e) (Nat.le_refl _) (Nat.zero_le _) (Nat.le_refl _) (by rw [vl_zero]; omega)
theorem zero_add {a : Dn} (ha : a.May) : addD Dn.zero a = (a, 0) := by rw [add_comm]; exact add_zero ha
/-- m is the form of the numbers R. -/
def IsM (R : Nat → Dn) (m : Mv) : Prop := ∀ x, x < 4 → Is (R x) (m.get x)
def MayR (R : Nat → Dn) : Prop := ∀ x, x < 4 → (R x).May
def dnM (m : Mv) (x : Nat) : Dn := dn (m.get x).s (m.get x).xs (m.get x).e
def zR (_ : Nat) : Dn := Dn.zero
theorem zR_may : MayR zR := fun _ _ => zero_may
theorem IsM.zero : IsM zR ZM := four Is.zero Is.zero Is.zero Is.zero
theorem IsM.same {R : Nat → Dn} {a b : Mv} (h : IsM R a) (h' : IsM R b) : sameM a b = true := (sameM_iff a b).2 fun x hx => (h x hx).same (h' x hx)
theorem IsM.may {R : Nat → Dn} {m : Mv} (h : IsM R m) (hr : MayR R) : m.may := fun x hx => (h x hx).may (hr x hx)
theorem IsM.of {w : World} {lo hi : Nat} {m : Mv} (hR : MRows w lo hi m) (h : m.may) : IsM (dnM m) m := fun x hx => Is.of (dig_ints (hR.get x)) (h x hx)
theorem dnM_may {w : World} {lo hi : Nat} {m : Mv} (hR : MRows w lo hi m) (h : m.may) : MayR (dnM m) := fun x hx => (dn_ok (dig_ints (hR.get x)) (h x hx)).1
theorem IsM.add {R S : Nat → Dn} {a b : Mv} (h : IsM R a) (h' : IsM S b) (hr : MayR R) (hs : MayR S) {x : Nat} (hx : x < 4) : xAdd a b x = addD (R x) (S x) := (h x hx).add (h' x hx) (hr x hx) (hs x hx)
theorem IsM.twin {R : Nat → Dn} {a b : Mv} (h : IsM R a) (ht : ∀ x, x < 4 → TwinV (a.get x) (b.get x)) : IsM R b := fun x hx => (h x hx).twin (ht x hx)
theorem rows_res {W : World} {lo : Nat} {R : Nat → Dn} {m : Mv} (h : ∀ j, j < 4 → ResV W lo (R j) (m.get j)) : MRows W lo W.heap.size m := ⟨(h 0 (by decide)).row, (h 1 (by decide)).row, (h 2 (by decide)).row, (h 3 (by decide)).row⟩
open Classical in
/-- What a sum is, whatever the masses. -/
noncomputable def addM (a b : Mv) : (Nat → Dn) × Int := if a.may ∧ b.may then (if ∀ j, j < 4 → (xAdd a b j).2 = 0 then (fun j => (xAdd a b j).1, 0) else (zR, 10)) else (zR, 8)
theorem ZM_rows (w : World) (lo hi : Nat) : MRows w lo hi ZM := ⟨Ints.nil_ .., Ints.nil_ .., Ints.nil_ .., Ints.nil_ ..⟩
theorem addM_may (a b : Mv) : MayR (addM a b).1 := fun x _ => by
 unfold addM
 split
 · split
   · exact addX_may ..
   · exact zero_may
 · exact zero_may
theorem MAdd_num (w : World) (a b : Mv) (hA : MRows w 0 w.heap.size a) (hB : MRows w 0 w.heap.size b) (hT : Tab w) (R : Nat → Dn) (code : Int) (hR : addM a b = (R, code)) :
  Calls Tryd.prog 58 #[.agg #[.bool a.S.s, .slice a.S.A a.S.n a.S.c, .int .i64 a.S.e, .bool a.W.s, .slice a.W.A a.W.n a.W.c, .int .i64 a.W.e, .bool a.C.s, .slice a.C.A a.C.n a.C.c, .int .i64 a.C.e, .bool a.A.s, .slice a.A.A a.A.n a.A.c, .int .i64 a.A.e], .agg #[.bool b.S.s, .slice b.S.A b.S.n b.S.c, .int .i64 b.S.e, .bool b.W.s, .slice b.W.A b.W.n b.W.c, .int .i64 b.W.e, .bool b.C.s, .slice b.C.A b.C.n b.C.c, .int .i64 b.C.e, .bool b.A.s, .slice b.A.A b.A.n b.A.c, .int .i64 b.A.e]] w fun e w' => ∃ m' : Mv, e = .returned (.tuple #[.agg #[.bool m'.S.s, .slice m'.S.A m'.S.n m'.S.c, .int .i64 m'.S.e, .bool m'.W.s, .slice m'.W.A m'.W.n m'.W.c, .int .i64 m'.W.e, .bool m'.C.s, .slice m'.C.A m'.C.n m'.C.c, .int .i64 m'.C.e, .bool m'.A.s, .slice m'.A.A m'.A.n m'.A.c, .int .i64 m'.A.e], .int .i64 code]) ∧ Below w.heap.size w w' ∧ IsM R m' ∧ MRows w' w.heap.size w'.heap.size m' := by
 refine (MAdd_any w a b hA hB hT).mono ?_
 rintro e w' ⟨m', code', rfl, hBl, h⟩
 unfold addM at hR
 rcases h with ⟨rfl, hm, h⟩ | ⟨rfl, hm, ⟨j, hj, hn⟩, rfl⟩ | ⟨rfl, hn, rfl⟩
 · rw [if_pos hm, if_pos fun j hj => (h j hj).1] at hR
   injection hR with h1 h2
   subst h1 h2
   exact ⟨m', rfl, hBl, fun x hx => (h x hx).2.is, rows_res fun j hj => (h j hj).2⟩
 · rw [if_pos hm, if_neg fun k => hn (k j hj)] at hR
   injection hR with h1 h2
   subst h1 h2
   exact ⟨ZM, rfl, hBl, IsM.zero, ZM_rows ..⟩
 · rw [if_neg hn] at hR
   injection hR with h1 h2
   subst h1 h2
   exact ⟨ZM, rfl, hBl, IsM.zero, ZM_rows ..⟩
open Classical in
/-- What is kept and sent. -/
noncomputable def splitM (m : Mv) : ((Nat → Dn) × (Nat → Dn)) × Int :=
 if m.may then (if (halfX m.S.s m.S.xs m.S.e).2 = 0 ∧ (halfX m.W.s m.W.xs m.W.e).2 = 0 then
  ((fun x => if x = 0 then (halfX m.S.s m.S.xs m.S.e).1 else if x = 1 then (halfX m.W.s m.W.xs m.W.e).1 else dnM m x, fun x => if x = 0 then (halfX m.S.s m.S.xs m.S.e).1 else if x = 1 then (halfX m.W.s m.W.xs m.W.e).1 else Dn.zero), 0)
  else ((zR, zR), 10)) else ((zR, zR), 8)
theorem MSplit_num (w : World) (m : Mv) (hR : MRows w 0 w.heap.size m) (hT : Tab w) (kR sR : Nat → Dn) (code : Int) (hs : splitM m = ((kR, sR), code)) :
  Calls Tryd.prog 36 #[.agg #[.bool m.S.s, .slice m.S.A m.S.n m.S.c, .int .i64 m.S.e, .bool m.W.s, .slice m.W.A m.W.n m.W.c, .int .i64 m.W.e, .bool m.C.s, .slice m.C.A m.C.n m.C.c, .int .i64 m.C.e, .bool m.A.s, .slice m.A.A m.A.n m.A.c, .int .i64 m.A.e]] w fun e w' => ∃ k s : Mv, e = .returned (.tuple #[.agg #[.bool k.S.s, .slice k.S.A k.S.n k.S.c, .int .i64 k.S.e, .bool k.W.s, .slice k.W.A k.W.n k.W.c, .int .i64 k.W.e, .bool k.C.s, .slice k.C.A k.C.n k.C.c, .int .i64 k.C.e, .bool k.A.s, .slice k.A.A k.A.n k.A.c, .int .i64 k.A.e], .agg #[.bool s.S.s, .slice s.S.A s.S.n s.S.c, .int .i64 s.S.e, .bool s.W.s, .slice s.W.A s.W.n s.W.c, .int .i64 s.W.e, .bool s.C.s, .slice s.C.A s.C.n s.C.c, .int .i64 s.C.e, .bool s.A.s, .slice s.A.A s.A.n s.A.c, .int .i64 s.A.e], .int .i64 code]) ∧ Below w.heap.size w w' ∧
   (s.C = ZM.C ∧ s.A = ZM.A) ∧ IsM sR s ∧ IsM kR k ∧ ∃ B, w.heap.size ≤ B ∧ B ≤ w'.heap.size ∧ MRows w' w.heap.size B s ∧ MRows w' B w'.heap.size k := by
 unfold splitM at hs
 by_cases hm : m.may
 · rw [if_pos hm] at hs
   obtain ⟨r1, q1, e1⟩ : ∃ r q, halfX m.S.s m.S.xs m.S.e = (r, q) := ⟨_, _, rfl⟩
   obtain ⟨r2, q2, e2⟩ : ∃ r q, halfX m.W.s m.W.xs m.W.e = (r, q) := ⟨_, _, rfl⟩
   refine (MSplit_ok w m hR hm hT r1 r2 q1 q2 e1 e2).mono ?_
   rw [e1, e2] at hs
   rintro e w' ⟨k, s, code', rfl, hB, ⟨rfl, rfl, rfl, ⟨s1, s2, s3, s4⟩, ⟨k1, k2, k3, k4⟩, hb⟩ | ⟨rfl, hn, rfl, rfl⟩⟩
   · rw [if_pos ⟨rfl, rfl⟩] at hs
     injection hs with h1 h2
     injection h1 with h1 h3
     subst h1 h2 h3
     have hI := IsM.of hR hm
     refine ⟨k, s, rfl, hB, ⟨s3, s4⟩, four s1.is s2.is ?_ ?_, four k1.is k2.is ((hI 2 (by decide)).twin k3) ((hI 3 (by decide)).twin k4), hb⟩
     · show Is Dn.zero s.C
       rw [s3]
       exact Is.zero
     · show Is Dn.zero s.A
       rw [s4]
       exact Is.zero
   · rw [if_neg (by rintro ⟨h1, h2⟩; rcases hn with h | h; exact h h1; exact h h2)] at hs
     injection hs with h1 h2
     injection h1 with h1 h3
     subst h1 h2 h3
     exact ⟨ZM, ZM, rfl, hB, ⟨rfl, rfl⟩, IsM.zero, IsM.zero, w.heap.size, Nat.le_refl _, hB.size, ZM_rows .., ZM_rows ..⟩
 · rw [if_neg hm] at hs
   injection hs with h1 h2
   injection h1 with h1 h3
   subst h1 h2 h3
   refine (MSplit_bad w m hR hm).mono ?_
   rintro e w' ⟨k, s, code', rfl, hB, rfl, rfl, rfl⟩
   exact ⟨ZM, ZM, rfl, hB, ⟨rfl, rfl⟩, IsM.zero, IsM.zero, w.heap.size, Nat.le_refl _, hB.size, ZM_rows .., ZM_rows ..⟩
end Ma
end Go.Proofs.YtbbnbgllgomolaaDoor
namespace Go.Proofs.YtbbnbgllgomolaaDoor
open Go.RowKit
namespace Ma
open Dp Dy
theorem IsM.of_eq {R S : Nat → Dn} {m : Mv} (h : IsM R m) (he : ∀ x, x < 4 → S x = R x) : IsM S m := fun x hx => by rw [he x hx]; exact h x hx
theorem splitM_may {w : World} {lo hi : Nat} {m : Mv} (hR : MRows w lo hi m) {kR sR : Nat → Dn} {code : Int} (h : splitM m = ((kR, sR), code)) : MayR kR ∧ MayR sR := by
 unfold splitM at h
 split at h
 · rename_i hm
   split at h
   · injection h with h1 h2
     injection h1 with h1 h3
     subst h1 h3
     exact ⟨four (halfX_may ..) (halfX_may ..) (dnM_may hR hm 2 (by decide)) (dnM_may hR hm 3 (by decide)), four (halfX_may ..) (halfX_may ..) zero_may zero_may⟩
   · injection h with h1 h2
     injection h1 with h1 h3
     subst h1 h3
     exact ⟨zR_may, zR_may⟩
 · injection h with h1 h2
   injection h1 with h1 h3
   subst h1 h3
   exact ⟨zR_may, zR_may⟩
end Ma
end Go.Proofs.YtbbnbgllgomolaaDoor
namespace Go.Proofs.YtbbnbgllgomolaaDoor
open Go.RowKit
namespace Ma
open Dp Dy
theorem MRows.on {w w' : World} {m : Mv} (h : MRows w 0 w.heap.size m) (hb : Below w.heap.size w w') : MRows w' 0 w'.heap.size m := (h.below hb (Nat.le_refl _)).more (Nat.le_refl _) hb.size
end Ma
end Go.Proofs.YtbbnbgllgomolaaDoor
namespace Go.Proofs.YtbbnbgllgomolaaDoor
open Go.RowKit
namespace Ma
open Dp Dy
def Dv.great (d : Dv) : Bool := Pa.Dy.great ⟨d.s, d.xs, d.e⟩
def greatM (m : Mv) : Bool := m.S.great || m.W.great || m.C.great || m.A.great
theorem great_not {m : Mv} (h : greatM m = false) : ∀ x, x < 4 → (m.get x).xs.length ≤ 42 ∧ (m.get x).e ≤ 1100 := by
 have hd : ∀ d : Dv, d.great = false → d.xs.length ≤ 42 ∧ d.e ≤ 1100 := fun d h => by
  simp [Dv.great, Pa.Dy.great] at h
  omega
 unfold greatM at h
 simp only [Bool.or_eq_false_iff] at h
 exact four (hd _ h.1.1.1) (hd _ h.1.1.2) (hd _ h.1.2) (hd _ h.2)
set_option maxHeartbeats 6400000 in
set_option maxRecDepth 100000 in
theorem RGreat_any (w : World) (m : Mv) {lo hi : Nat} (hRm : MRows w lo hi m) (k : Bool) (hk : greatM m = k) :
  Calls Tryd.prog 9 #[.agg #[.bool m.S.s, .slice m.S.A m.S.n m.S.c, .int .i64 m.S.e, .bool m.W.s, .slice m.W.A m.W.n m.W.c, .int .i64 m.W.e, .bool m.C.s, .slice m.C.A m.C.n m.C.c, .int .i64 m.C.e, .bool m.A.s, .slice m.A.A m.A.n m.A.c, .int .i64 m.A.e]] w fun e w' => e = .returned (.bool k) ∧ Below w.heap.size w w' := by
 have L0 := Lib.hid (hRm.get 0).len
 have L1 := Lib.hid (hRm.get 1).len
 have L2 := Lib.hid (hRm.get 2).len
 have L3 := Lib.hid (hRm.get 3).len
 unfold greatM at hk
 obtain ⟨g0, h0⟩ : ∃ g, m.S.great = g := ⟨_, rfl⟩
 obtain ⟨g1, h1⟩ : ∃ g, m.W.great = g := ⟨_, rfl⟩
 obtain ⟨g2, h2⟩ : ∃ g, m.C.great = g := ⟨_, rfl⟩
 obtain ⟨g3, h3⟩ : ∃ g, m.A.great = g := ⟨_, rfl⟩
 rw [h0, h1, h2, h3] at hk
 have HK := Lib.hid hk
 have H0 := Lib.hid h0
 have H1 := Lib.hid h1
 have H2 := Lib.hid h2
 have H3 := Lib.hid h3
 clear hk h0 h1 h2 h3
 generalize hw : w.alloc (.cells #[.bool m.S.s, .slice m.S.A m.S.n m.S.c, .int .i64 m.S.e, .bool m.W.s, .slice m.W.A m.W.n m.W.c, .int .i64 m.W.e, .bool m.C.s, .slice m.C.A m.C.n m.C.c, .int .i64 m.C.e, .bool m.A.s, .slice m.A.A m.A.n m.A.c, .int .i64 m.A.e] 26) = w1
 have hM1 : MBox w1 w.heap.size m := by rw [← hw]; exact heap_alloc_last _ _
 have hb : Below w.heap.size w w1 := by rw [← hw]; exact (Below.refl _ w).alloc (Nat.le_refl _) _
 have hlo : w.heap.size + 1 ≤ w1.heap.size := by rw [← hw]; simp
 obtain ⟨⟨k0, k1, k2, k3, k4, k5, k6, k7, k8, k9, k10, k11⟩, kf⟩ := MBox.cells hM1
 go_enter Tryd.func9, Tryd.ntmps9
 go_wp2_with fail
 try clear hw
 refine (Pa.rGreat_any w1 m.S.s m.S.A m.S.n m.S.c m.S.xs m.S.e L0.out g0 H0.out).mono ?_
 rintro e w2 ⟨rfl, hB⟩
 clear k0 k1 k2 k3 k4 k5 k6 k7 k8 k9 k10 k11 kf
 have l2 := hB.size
 replace hM1 : MBox w2 w.heap.size m := box_on hM1 hB (by omega)
 replace hb := hb.trans (hB.mono (by omega))
 clear hB
 cases g0
 rotate_left
 · go_wp2
   go_ret
   exact ⟨by rw [← HK.out]; simp, hb⟩
 · skip
   obtain ⟨⟨k0, k1, k2, k3, k4, k5, k6, k7, k8, k9, k10, k11⟩, kf⟩ := MBox.cells hM1
   go_wp2_with fail
   refine (Pa.rGreat_any w2 m.W.s m.W.A m.W.n m.W.c m.W.xs m.W.e L1.out g1 H1.out).mono ?_
   rintro e w3 ⟨rfl, hB⟩
   clear k0 k1 k2 k3 k4 k5 k6 k7 k8 k9 k10 k11 kf
   have l3 := hB.size
   replace hM1 : MBox w3 w.heap.size m := box_on hM1 hB (by omega)
   replace hb := hb.trans (hB.mono (by omega))
   clear hB
   cases g1
   rotate_left
   · go_wp2
     go_ret
     exact ⟨by rw [← HK.out]; simp, hb⟩
   · skip
     obtain ⟨⟨k0, k1, k2, k3, k4, k5, k6, k7, k8, k9, k10, k11⟩, kf⟩ := MBox.cells hM1
     go_wp2_with fail
     refine (Pa.rGreat_any w3 m.C.s m.C.A m.C.n m.C.c m.C.xs m.C.e L2.out g2 H2.out).mono ?_
     rintro e w4 ⟨rfl, hB⟩
     clear k0 k1 k2 k3 k4 k5 k6 k7 k8 k9 k10 k11 kf
     have l4 := hB.size
     replace hM1 : MBox w4 w.heap.size m := box_on hM1 hB (by omega)
     replace hb := hb.trans (hB.mono (by omega))
     clear hB
     cases g2
     rotate_left
     · go_wp2
       go_ret
       exact ⟨by rw [← HK.out]; simp, hb⟩
     · skip
       obtain ⟨⟨k0, k1, k2, k3, k4, k5, k6, k7, k8, k9, k10, k11⟩, kf⟩ := MBox.cells hM1
       go_wp2_with fail
       refine (Pa.rGreat_any w4 m.A.s m.A.A m.A.n m.A.c m.A.xs m.A.e L3.out g3 H3.out).mono ?_
       rintro e w5 ⟨rfl, hB⟩
       clear k0 k1 k2 k3 k4 k5 k6 k7 k8 k9 k10 k11 kf
       have l5 := hB.size
       replace hM1 : MBox w5 w.heap.size m := box_on hM1 hB (by omega)
       replace hb := hb.trans (hB.mono (by omega))
       clear hB
       go_wp2
       go_ret
       exact ⟨by rw [← HK.out]; simp, hb⟩
end Ma
end Go.Proofs.YtbbnbgllgomolaaDoor
namespace Go.Proofs.YtbbnbgllgomolaaDoor
open Go.RowKit
namespace Ma
open Dp Dy
theorem alloc_m (w : World) (m : Mv) : ∃ U, w.alloc (.cells #[.bool m.S.s, .slice m.S.A m.S.n m.S.c, .int .i64 m.S.e, .bool m.W.s, .slice m.W.A m.W.n m.W.c, .int .i64 m.W.e, .bool m.C.s, .slice m.C.A m.C.n m.C.c, .int .i64 m.C.e, .bool m.A.s, .slice m.A.A m.A.n m.A.c, .int .i64 m.A.e] 26) = U ∧ MBox U w.heap.size m ∧ Below w.heap.size w U ∧ w.heap.size < U.heap.size :=
 ⟨_, rfl, heap_alloc_last _ _, (Below.refl _ w).alloc (Nat.le_refl _) _, by simp⟩
theorem alloc_z (w : World) : ∃ U, w.alloc (.cells #[.bool false, .slice none 0 0, .int .i64 0, .bool false, .slice none 0 0, .int .i64 0, .bool false, .slice none 0 0, .int .i64 0, .bool false, .slice none 0 0, .int .i64 0] 26) = U ∧ MBox U w.heap.size ZM ∧ Below w.heap.size w U ∧ w.heap.size < U.heap.size :=
 ⟨_, rfl, heap_alloc_last _ _, (Below.refl _ w).alloc (Nat.le_refl _) _, by simp⟩
theorem alloc_mm (w : World) (m n : Mv) : ∃ U, (w.alloc (.cells #[.bool m.S.s, .slice m.S.A m.S.n m.S.c, .int .i64 m.S.e, .bool m.W.s, .slice m.W.A m.W.n m.W.c, .int .i64 m.W.e, .bool m.C.s, .slice m.C.A m.C.n m.C.c, .int .i64 m.C.e, .bool m.A.s, .slice m.A.A m.A.n m.A.c, .int .i64 m.A.e] 26)).alloc (.cells #[.bool n.S.s, .slice n.S.A n.S.n n.S.c, .int .i64 n.S.e, .bool n.W.s, .slice n.W.A n.W.n n.W.c, .int .i64 n.W.e, .bool n.C.s, .slice n.C.A n.C.n n.C.c, .int .i64 n.C.e, .bool n.A.s, .slice n.A.A n.A.n n.A.c, .int .i64 n.A.e] 26) = U ∧ MBox U w.heap.size m ∧ MBox U (w.heap.size + 1) n ∧ Below w.heap.size w U ∧ w.heap.size + 2 ≤ U.heap.size := by
 obtain ⟨h1, h2, h3, h4, _⟩ := boxes2 w _ _ rfl
 exact ⟨_, rfl, h1, h2, h3, h4⟩
theorem all_to {w : World} {g : Nat} {m0 : Mv} (h : MBox w g m0) (m : Mv) : ∃ U, ((((((((((((w.setCell ⟨g, 0, none⟩ (.bool m.S.s)).setCell ⟨g, 1, none⟩ (.slice m.S.A m.S.n m.S.c)).setCell ⟨g, 2, none⟩ (.int .i64 m.S.e)).setCell ⟨g, 3, none⟩ (.bool m.W.s)).setCell ⟨g, 4, none⟩ (.slice m.W.A m.W.n m.W.c)).setCell ⟨g, 5, none⟩ (.int .i64 m.W.e)).setCell ⟨g, 6, none⟩ (.bool m.C.s)).setCell ⟨g, 7, none⟩ (.slice m.C.A m.C.n m.C.c)).setCell ⟨g, 8, none⟩ (.int .i64 m.C.e)).setCell ⟨g, 9, none⟩ (.bool m.A.s)).setCell ⟨g, 10, none⟩ (.slice m.A.A m.A.n m.A.c)).setCell ⟨g, 11, none⟩ (.int .i64 m.A.e)) = U ∧ MBox U g m ∧ (∀ w0 B, Below B w0 w → B ≤ g → Below B w0 U) ∧ (∀ j, j ≠ g → U.heap[j]? = w.heap[j]?) ∧ U.heap.size ≤ w.heap.size ∧ w.heap.size ≤ U.heap.size :=
 ⟨_, rfl, h.all m, fun _ _ hb hg => below_all hb hg m, fun _ hj => far_all hj m, Nat.le_of_eq (size_all m), Nat.le_of_eq (size_all m).symm⟩
theorem zero_to {w : World} {g : Nat} {m0 : Mv} (h : MBox w g m0) : ∃ U M, ((((((((((((w.setCell ⟨g, 0, none⟩ (.bool false)).setCell ⟨g, 1, none⟩ (.slice none 0 0)).setCell ⟨g, 2, none⟩ (.int .i64 0)).setCell ⟨g, 3, none⟩ (.bool false)).setCell ⟨g, 4, none⟩ (.slice none 0 0)).setCell ⟨g, 5, none⟩ (.int .i64 0)).setCell ⟨g, 6, none⟩ (.bool false)).setCell ⟨g, 7, none⟩ (.slice none 0 0)).setCell ⟨g, 8, none⟩ (.int .i64 0)).setCell ⟨g, 9, none⟩ (.bool false)).setCell ⟨g, 10, none⟩ (.slice none 0 0)).setCell ⟨g, 11, none⟩ (.int .i64 0)) = U ∧ M = ZM ∧ MBox U g M ∧ (∀ w0 B, Below B w0 w → B ≤ g → Below B w0 U) ∧ (∀ j, j ≠ g → U.heap[j]? = w.heap[j]?) ∧ U.heap.size ≤ w.heap.size ∧ w.heap.size ≤ U.heap.size :=
 ⟨_, ZM, rfl, rfl, h.all ZM, fun _ _ hb hg => below_all hb hg ZM, fun _ hj => far_all hj ZM, Nat.le_of_eq (size_all ZM), Nat.le_of_eq (size_all ZM).symm⟩
end Ma
end Go.Proofs.YtbbnbgllgomolaaDoor
namespace Go.Proofs.YtbbnbgllgomolaaDoor
open Go.RowKit
namespace Ma
open Dp Dy
theorem addX_two {s1 s2 : Bool} {xs1 xs2 : List Int} {e1 e2 : Int} {r : Dn} {q : Int} (h1 : MayD s1 xs1 e1) (h2 : MayD s2 xs2 e2) (h : addX s1 xs1 e1 s2 xs2 e2 = (r, q)) : q = 0 ∨ q = 10 := by
 rw [addX_ok h1 h2] at h
 rcases add_cases (dn s1 xs1 e1) (dn s2 xs2 e2) with k | k
 · rw [h] at k
   exact .inl k
 · rw [h] at k
   injection k with _ k
   exact .inr k
end Ma
end Go.Proofs.YtbbnbgllgomolaaDoor
namespace Go.Proofs.YtbbnbgllgomolaaDoor
open Go.RowKit
namespace Ma
open Dp Dy
/-- Each row lies in one of two ranges. -/
def TwoR (w : World) (lo hi lo' hi' : Nat) (m : Mv) : Prop := ∀ x, x < 4 → Ints w lo hi .u32 (m.get x).A (m.get x).n (m.get x).xs ∨ Ints w lo' hi' .u32 (m.get x).A (m.get x).n (m.get x).xs
theorem TwoR.below {w w' : World} {lo hi lo' hi' B : Nat} {m : Mv} (h : TwoR w lo hi lo' hi' m) (hb : Below B w w') (h1 : hi ≤ B) (h2 : hi' ≤ B) : TwoR w' lo hi lo' hi' m := fun x hx => (h x hx).imp (fun k => k.below hb h1) (fun k => k.below hb h2)
theorem TwoR.rows {w : World} {lo hi lo' hi' : Nat} {m : Mv} (h : TwoR w lo hi lo' hi' m) (h1 : hi ≤ w.heap.size) (h2 : hi' ≤ w.heap.size) : MRows w 0 w.heap.size m :=
 have k : ∀ x, x < 4 → Ints w 0 w.heap.size .u32 (m.get x).A (m.get x).n (m.get x).xs := fun x hx => (h x hx).elim (fun k => k.more (Nat.zero_le _) h1) (fun k => k.more (Nat.zero_le _) h2)
 ⟨k 0 (by decide), k 1 (by decide), k 2 (by decide), k 3 (by decide)⟩
end Ma
end Go.Proofs.YtbbnbgllgomolaaDoor
namespace Go.Proofs.YtbbnbgllgomolaaDoor
open Go.RowKit
namespace Ma
open Dp Dy
def WrM (w : World) (lo hi : Nat) (m : Mv) : Prop := ∀ x, x < 4 → 0 < (m.get x).n → ∃ b off, (m.get x).A = some ⟨b, off, none⟩ ∧ lo ≤ b ∧ b < hi ∧ WrD w b off (m.get x).n
theorem WrM.of {w w' : World} {lo hi : Nat} {m : Mv} (h : MRows w lo hi m) (hk : ∀ b, b < hi → w'.heap[b]? = w.heap[b]?) : WrM w' lo hi m := fun x hx h0 => by
 obtain ⟨b, off, e, h1, h2, hc⟩ := (h.get x).row h0
 refine ⟨b, off, e, h1, h2, fun j hj => ?_⟩
 have h3 := hk b h2
 obtain ⟨h4, h5⟩ := hc j hj
 exact ⟨⟨_, by rw [World.cell?_of_block h3]; exact h4⟩, by rw [World.frozen?_of_block h3]; exact h5⟩
def LBox (w : World) (g : Nat) (m : Mv) : Prop := w.heap[g]? = some (.cells #[.slice m.S.A m.S.n m.S.c, .slice m.W.A m.W.n m.W.c, .slice m.C.A m.C.n m.C.c, .slice m.A.A m.A.n m.A.c] 22 (0, 0))
theorem LBox.at_ {w : World} {g : Nat} {m : Mv} (h : LBox w g m) {i : Nat} (hi : i < 4) : w.cell? ⟨g, i, none⟩ = some (.slice (m.get i).A (m.get i).n (m.get i).c) := by
 unfold LBox at h
 have hi' : i = 0 ∨ i = 1 ∨ i = 2 ∨ i = 3 := by omega
 rcases hi' with rfl | rfl | rfl | rfl
 · exact cell_of_row w g 0 _ _ _ h
 · exact cell_of_row w g 1 _ _ _ h
 · exact cell_of_row w g 2 _ _ _ h
 · exact cell_of_row w g 3 _ _ _ h
end Ma
end Go.Proofs.YtbbnbgllgomolaaDoor