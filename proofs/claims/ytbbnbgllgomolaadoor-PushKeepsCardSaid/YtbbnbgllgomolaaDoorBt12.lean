/- Plain laws about masses' values, and contracts that say the numbers (printed by a program of mine). -/
/- The plain laws of MassWhole and MassGroup. No program in sight. -/
/- headcountlaw06.half and alive: walks (printed by a program of mine). -/
/- headcountref06.Great: a walk (printed by a program of mine). -/
/- Small laws that shorten walks over masses (printed by a program of mine). -/
/- headcountref06.Add: walks (printed by a program of mine). -/
/- Laws for MassTells: walks (printed by a program of mine). -/
/- mass.Sum: a walk (printed by a program of mine). -/
import Derived.Test.YtbbnbgllgomolaaDoorBt11
import Derived.Test.YtbbnbgllgomolaaDoorBt10
import Derived.Test.YtbbnbgllgomolaaDoorBt08
import Derived.Test.YtbbnbgllgomolaaDoorBt07
import Derived.Test.YtbbnbgllgomolaaDoorBt09
import Derived.Lib.MinMax
import Derived.Test.YtbbnbgllgomolaaDoorBt01
import Derived.Test.YtbbnbgllgomolaaDoorBt03
namespace Go.Proofs.YtbbnbgllgomolaaDoor
open Go.RowKit
namespace Ma
open Dp Dy
/-- d is the form of the number r. -/
def Is (r : Dn) (d : Dv) : Prop := d.s = r.neg ∧ d.e = r.e ∧ d.xs = canon 4294967296 r.m
theorem ResV.is {W : World} {lo : Nat} {r : Dn} {d : Dv} (h : ResV W lo r d) : Is r d := ⟨h.1, h.2.1, h.2.2.1⟩
theorem ResV.row {W : World} {lo : Nat} {r : Dn} {d : Dv} (h : ResV W lo r d) : Ints W lo W.heap.size .u32 d.A d.n d.xs := h.2.2.2.2
theorem Is.may {r : Dn} {d : Dv} (h : Is r d) (hr : r.May) : d.may := by
 unfold Dv.may
 rw [h.1, h.2.1, h.2.2]
 exact dn_may hr
theorem Is.same {r : Dn} {d d' : Dv} (h : Is r d) (h' : Is r d') : sameV d d' = true := by
 unfold sameV
 rw [h.1, h.2.1, h.2.2, h'.1, h'.2.1, h'.2.2]
 exact Pa.Dy.same_refl _
theorem Is.of {d : Dv} (hd : Dig 4294967296 d.xs) (hm : d.may) : Is (dn d.s d.xs d.e) d := ⟨rfl, (dn_ok hd hm).2.2.symm, (dn_ok hd hm).2.1.symm⟩
theorem Is.twin {r : Dn} {d d' : Dv} (h : Is r d) (ht : TwinV d d') : Is r d' := ⟨ht.1.trans h.1, ht.2.2.1.trans h.2.1, ht.2.2.2.1.trans h.2.2⟩
theorem Is.zero : Is Dn.zero ⟨false, none, 0, 0, 0, []⟩ := ⟨rfl, rfl, rfl⟩
theorem Is.add {r r' : Dn} {d d' : Dv} (h : Is r d) (h' : Is r' d') (hr : r.May) (hr' : r'.May) : addX d.s d.xs d.e d'.s d'.xs d'.e = addD r r' := by
 rw [addX_ok (h.may hr) (h'.may hr'), h.1, h.2.1, h.2.2, h'.1, h'.2.1, h'.2.2, dn_of, dn_of]
theorem Is.half {r : Dn} {d : Dv} (h : Is r d) (hr : r.May) : halfX d.s d.xs d.e = halfD r := by
 rw [halfX_ok (h.may hr), h.1, h.2.1, h.2.2, dn_of]
/-- m is the form of the numbers R. -/
def IsM (R : Nat → Dn) (m : Mv) : Prop := ∀ x, x < 4 → Is (R x) (m.get x)
def MayR (R : Nat → Dn) : Prop := ∀ x, x < 4 → (R x).May
def dnM (m : Mv) (x : Nat) : Dn := dn (m.get x).s (m.get x).xs (m.get x).e
def zR (_ : Nat) : Dn := Dn.zero
theorem zR_may : MayR zR := fun _ _ => zero_may
theorem IsM.zero : IsM zR ZM := four Is.zero Is.zero Is.zero Is.zero
theorem IsM.same {R : Nat → Dn} {a b : Mv} (h : IsM R a) (h' : IsM R b) : sameM a b = true := (sameM_iff a b).2 fun x hx => (h x hx).same (h' x hx)
theorem IsM.may {R : Nat → Dn} {m : Mv} (h : IsM R m) (hr : MayR R) : m.may := fun x hx => (h x hx).may (hr x hx)
theorem IsM.of {w : World} {lo hi : Nat} {m : Mv} (hR : MRows w lo hi m) (h : m.may) : IsM (dnM m) m := fun x hx => Is.of (dig_ints (hR.get x)) (h x hx)
theorem dnM_may {w : World} {lo hi : Nat} {m : Mv} (hR : MRows w lo hi m) (h : m.may) : MayR (dnM m) := fun x hx => (dn_ok (dig_ints (hR.get x)) (h x hx)).1
theorem IsM.add {R S : Nat → Dn} {a b : Mv} (h : IsM R a) (h' : IsM S b) (hr : MayR R) (hs : MayR S) {x : Nat} (hx : x < 4) : xAdd a b x = addD (R x) (S x) := (h x hx).add (h' x hx) (hr x hx) (hs x hx)
theorem IsM.twin {R : Nat → Dn} {a b : Mv} (h : IsM R a) (ht : ∀ x, x < 4 → TwinV (a.get x) (b.get x)) : IsM R b := fun x hx => (h x hx).twin (ht x hx)
theorem rows_res {W : World} {lo : Nat} {R : Nat → Dn} {m : Mv} (h : ∀ j, j < 4 → ResV W lo (R j) (m.get j)) : MRows W lo W.heap.size m := ⟨(h 0 (by decide)).row, (h 1 (by decide)).row, (h 2 (by decide)).row, (h 3 (by decide)).row⟩
open Classical in
/-- What a sum is, whatever the masses. -/
noncomputable def addM (a b : Mv) : (Nat → Dn) × Int := if a.may ∧ b.may then (if ∀ j, j < 4 → (xAdd a b j).2 = 0 then (fun j => (xAdd a b j).1, 0) else (zR, 10)) else (zR, 8)
theorem ZM_rows (w : World) (lo hi : Nat) : MRows w lo hi ZM := ⟨Ints.nil_ .., Ints.nil_ .., Ints.nil_ .., Ints.nil_ ..⟩
theorem addM_may (a b : Mv) : MayR (addM a b).1 := fun x _ => by
 unfold addM
 split
 · split
   · exact addX_may ..
   · exact zero_may
 · exact zero_may
theorem MAdd_num (w : World) (a b : Mv) (hA : MRows w 0 w.heap.size a) (hB : MRows w 0 w.heap.size b) (hT : Tab w) (R : Nat → Dn) (code : Int) (hR : addM a b = (R, code)) :
  Calls Tryd.prog 58 #[.agg #[.bool a.S.s, .slice a.S.A a.S.n a.S.c, .int .i64 a.S.e, .bool a.W.s, .slice a.W.A a.W.n a.W.c, .int .i64 a.W.e, .bool a.C.s, .slice a.C.A a.C.n a.C.c, .int .i64 a.C.e, .bool a.A.s, .slice a.A.A a.A.n a.A.c, .int .i64 a.A.e], .agg #[.bool b.S.s, .slice b.S.A b.S.n b.S.c, .int .i64 b.S.e, .bool b.W.s, .slice b.W.A b.W.n b.W.c, .int .i64 b.W.e, .bool b.C.s, .slice b.C.A b.C.n b.C.c, .int .i64 b.C.e, .bool b.A.s, .slice b.A.A b.A.n b.A.c, .int .i64 b.A.e]] w fun e w' => ∃ m' : Mv, e = .returned (.tuple #[.agg #[.bool m'.S.s, .slice m'.S.A m'.S.n m'.S.c, .int .i64 m'.S.e, .bool m'.W.s, .slice m'.W.A m'.W.n m'.W.c, .int .i64 m'.W.e, .bool m'.C.s, .slice m'.C.A m'.C.n m'.C.c, .int .i64 m'.C.e, .bool m'.A.s, .slice m'.A.A m'.A.n m'.A.c, .int .i64 m'.A.e], .int .i64 code]) ∧ Below w.heap.size w w' ∧ IsM R m' ∧ MRows w' w.heap.size w'.heap.size m' := by
 refine (MAdd_any w a b hA hB hT).mono ?_
 rintro e w' ⟨m', code', rfl, hBl, h⟩
 unfold addM at hR
 rcases h with ⟨rfl, hm, h⟩ | ⟨rfl, hm, ⟨j, hj, hn⟩, rfl⟩ | ⟨rfl, hn, rfl⟩
 · rw [if_pos hm, if_pos fun j hj => (h j hj).1] at hR
   injection hR with h1 h2
   subst h1 h2
   exact ⟨m', rfl, hBl, fun x hx => (h x hx).2.is, rows_res fun j hj => (h j hj).2⟩
 · rw [if_pos hm, if_neg fun k => hn (k j hj)] at hR
   injection hR with h1 h2
   subst h1 h2
   exact ⟨ZM, rfl, hBl, IsM.zero, ZM_rows ..⟩
 · rw [if_neg hn] at hR
   injection hR with h1 h2
   subst h1 h2
   exact ⟨ZM, rfl, hBl, IsM.zero, ZM_rows ..⟩
open Classical in
/-- What is kept and sent. -/
noncomputable def splitM (m : Mv) : ((Nat → Dn) × (Nat → Dn)) × Int :=
 if m.may then (if (halfX m.S.s m.S.xs m.S.e).2 = 0 ∧ (halfX m.W.s m.W.xs m.W.e).2 = 0 then
  ((fun x => if x = 0 then (halfX m.S.s m.S.xs m.S.e).1 else if x = 1 then (halfX m.W.s m.W.xs m.W.e).1 else dnM m x, fun x => if x = 0 then (halfX m.S.s m.S.xs m.S.e).1 else if x = 1 then (halfX m.W.s m.W.xs m.W.e).1 else Dn.zero), 0)
  else ((zR, zR), 10)) else ((zR, zR), 8)
theorem MSplit_num (w : World) (m : Mv) (hR : MRows w 0 w.heap.size m) (hT : Tab w) (kR sR : Nat → Dn) (code : Int) (hs : splitM m = ((kR, sR), code)) :
  Calls Tryd.prog 36 #[.agg #[.bool m.S.s, .slice m.S.A m.S.n m.S.c, .int .i64 m.S.e, .bool m.W.s, .slice m.W.A m.W.n m.W.c, .int .i64 m.W.e, .bool m.C.s, .slice m.C.A m.C.n m.C.c, .int .i64 m.C.e, .bool m.A.s, .slice m.A.A m.A.n m.A.c, .int .i64 m.A.e]] w fun e w' => ∃ k s : Mv, e = .returned (.tuple #[.agg #[.bool k.S.s, .slice k.S.A k.S.n k.S.c, .int .i64 k.S.e, .bool k.W.s, .slice k.W.A k.W.n k.W.c, .int .i64 k.W.e, .bool k.C.s, .slice k.C.A k.C.n k.C.c, .int .i64 k.C.e, .bool k.A.s, .slice k.A.A k.A.n k.A.c, .int .i64 k.A.e], .agg #[.bool s.S.s, .slice s.S.A s.S.n s.S.c, .int .i64 s.S.e, .bool s.W.s, .slice s.W.A s.W.n s.W.c, .int .i64 s.W.e, .bool s.C.s, .slice s.C.A s.C.n s.C.c, .int .i64 s.C.e, .bool s.A.s, .slice s.A.A s.A.n s.A.c, .int .i64 s.A.e], .int .i64 code]) ∧ Below w.heap.size w w' ∧
   (s.C = ZM.C ∧ s.A = ZM.A) ∧ IsM sR s ∧ IsM kR k ∧ ∃ B, w.heap.size ≤ B ∧ B ≤ w'.heap.size ∧ MRows w' w.heap.size B s ∧ MRows w' B w'.heap.size k := by
 unfold splitM at hs
 by_cases hm : m.may
 · rw [if_pos hm] at hs
   obtain ⟨r1, q1, e1⟩ : ∃ r q, halfX m.S.s m.S.xs m.S.e = (r, q) := ⟨_, _, rfl⟩
   obtain ⟨r2, q2, e2⟩ : ∃ r q, halfX m.W.s m.W.xs m.W.e = (r, q) := ⟨_, _, rfl⟩
   refine (MSplit_ok w m hR hm hT r1 r2 q1 q2 e1 e2).mono ?_
   rw [e1, e2] at hs
   rintro e w' ⟨k, s, code', rfl, hB, ⟨rfl, rfl, rfl, ⟨s1, s2, s3, s4⟩, ⟨k1, k2, k3, k4⟩, hb⟩ | ⟨rfl, hn, rfl, rfl⟩⟩
   · rw [if_pos ⟨rfl, rfl⟩] at hs
     injection hs with h1 h2
     injection h1 with h1 h3
     subst h1 h2 h3
     have hI := IsM.of hR hm
     refine ⟨k, s, rfl, hB, ⟨s3, s4⟩, four s1.is s2.is ?_ ?_, four k1.is k2.is ((hI 2 (by decide)).twin k3) ((hI 3 (by decide)).twin k4), hb⟩
     · show Is Dn.zero s.C
       rw [s3]
       exact Is.zero
     · show Is Dn.zero s.A
       rw [s4]
       exact Is.zero
   · rw [if_neg (by rintro ⟨h1, h2⟩; rcases hn with h | h; exact h h1; exact h h2)] at hs
     injection hs with h1 h2
     injection h1 with h1 h3
     subst h1 h2 h3
     exact ⟨ZM, ZM, rfl, hB, ⟨rfl, rfl⟩, IsM.zero, IsM.zero, w.heap.size, Nat.le_refl _, hB.size, ZM_rows .., ZM_rows ..⟩
 · rw [if_neg hm] at hs
   injection hs with h1 h2
   injection h1 with h1 h3
   subst h1 h2 h3
   refine (MSplit_bad w m hR hm).mono ?_
   rintro e w' ⟨k, s, code', rfl, hB, rfl, rfl, rfl⟩
   exact ⟨ZM, ZM, rfl, hB, ⟨rfl, rfl⟩, IsM.zero, IsM.zero, w.heap.size, Nat.le_refl _, hB.size, ZM_rows .., ZM_rows ..⟩
end Ma
end Go.Proofs.YtbbnbgllgomolaaDoor
namespace Go.Proofs.YtbbnbgllgomolaaDoor
open Go.RowKit
namespace Ma
open Dp Dy
theorem IsM.of_eq {R S : Nat → Dn} {m : Mv} (h : IsM R m) (he : ∀ x, x < 4 → S x = R x) : IsM S m := fun x hx => by rw [he x hx]; exact h x hx
theorem splitM_may {w : World} {lo hi : Nat} {m : Mv} (hR : MRows w lo hi m) {kR sR : Nat → Dn} {code : Int} (h : splitM m = ((kR, sR), code)) : MayR kR ∧ MayR sR := by
 unfold splitM at h
 split at h
 · rename_i hm
   split at h
   · injection h with h1 h2
     injection h1 with h1 h3
     subst h1 h3
     exact ⟨four (halfX_may ..) (halfX_may ..) (dnM_may hR hm 2 (by decide)) (dnM_may hR hm 3 (by decide)), four (halfX_may ..) (halfX_may ..) zero_may zero_may⟩
   · injection h with h1 h2
     injection h1 with h1 h3
     subst h1 h3
     exact ⟨zR_may, zR_may⟩
 · injection h with h1 h2
   injection h1 with h1 h3
   subst h1 h3
   exact ⟨zR_may, zR_may⟩
end Ma
end Go.Proofs.YtbbnbgllgomolaaDoor
namespace Go.Proofs.YtbbnbgllgomolaaDoor
open Go.RowKit
namespace Ma
open Dp Dy
theorem MRows.on {w w' : World} {m : Mv} (h : MRows w 0 w.heap.size m) (hb : Below w.heap.size w w') : MRows w' 0 w'.heap.size m := (h.below hb (Nat.le_refl _)).more (Nat.le_refl _) hb.size
end Ma
end Go.Proofs.YtbbnbgllgomolaaDoor
namespace Go.Proofs.YtbbnbgllgomolaaDoor
open Go.RowKit
namespace Ma
open Dp Dy
def Dv.great (d : Dv) : Bool := Pa.Dy.great ⟨d.s, d.xs, d.e⟩
def greatM (m : Mv) : Bool := m.S.great || m.W.great || m.C.great || m.A.great
set_option maxHeartbeats 6400000 in
set_option maxRecDepth 100000 in
theorem RGreat_any (w : World) (m : Mv) {lo hi : Nat} (hRm : MRows w lo hi m) (k : Bool) (hk : greatM m = k) :
  Calls Tryd.prog 9 #[.agg #[.bool m.S.s, .slice m.S.A m.S.n m.S.c, .int .i64 m.S.e, .bool m.W.s, .slice m.W.A m.W.n m.W.c, .int .i64 m.W.e, .bool m.C.s, .slice m.C.A m.C.n m.C.c, .int .i64 m.C.e, .bool m.A.s, .slice m.A.A m.A.n m.A.c, .int .i64 m.A.e]] w fun e w' => e = .returned (.bool k) ∧ Below w.heap.size w w' := by
 have L0 := Lib.hid (hRm.get 0).len
 have L1 := Lib.hid (hRm.get 1).len
 have L2 := Lib.hid (hRm.get 2).len
 have L3 := Lib.hid (hRm.get 3).len
 unfold greatM at hk
 obtain ⟨g0, h0⟩ : ∃ g, m.S.great = g := ⟨_, rfl⟩
 obtain ⟨g1, h1⟩ : ∃ g, m.W.great = g := ⟨_, rfl⟩
 obtain ⟨g2, h2⟩ : ∃ g, m.C.great = g := ⟨_, rfl⟩
 obtain ⟨g3, h3⟩ : ∃ g, m.A.great = g := ⟨_, rfl⟩
 rw [h0, h1, h2, h3] at hk
 have HK := Lib.hid hk
 have H0 := Lib.hid h0
 have H1 := Lib.hid h1
 have H2 := Lib.hid h2
 have H3 := Lib.hid h3
 clear hk h0 h1 h2 h3
 generalize hw : w.alloc (.cells #[.bool m.S.s, .slice m.S.A m.S.n m.S.c, .int .i64 m.S.e, .bool m.W.s, .slice m.W.A m.W.n m.W.c, .int .i64 m.W.e, .bool m.C.s, .slice m.C.A m.C.n m.C.c, .int .i64 m.C.e, .bool m.A.s, .slice m.A.A m.A.n m.A.c, .int .i64 m.A.e] 26) = w1
 have hM1 : MBox w1 w.heap.size m := by rw [← hw]; exact heap_alloc_last _ _
 have hb : Below w.heap.size w w1 := by rw [← hw]; exact (Below.refl _ w).alloc (Nat.le_refl _) _
 have hlo : w.heap.size + 1 ≤ w1.heap.size := by rw [← hw]; simp
 obtain ⟨⟨k0, k1, k2, k3, k4, k5, k6, k7, k8, k9, k10, k11⟩, kf⟩ := MBox.cells hM1
 go_enter Tryd.func9, Tryd.ntmps9
 go_wp2_with fail
 try clear hw
 refine (Pa.rGreat_any w1 m.S.s m.S.A m.S.n m.S.c m.S.xs m.S.e L0.out g0 H0.out).mono ?_
 rintro e w2 ⟨rfl, hB⟩
 clear k0 k1 k2 k3 k4 k5 k6 k7 k8 k9 k10 k11 kf
 have l2 := hB.size
 replace hM1 : MBox w2 w.heap.size m := box_on hM1 hB (by omega)
 replace hb := hb.trans (hB.mono (by omega))
 clear hB
 cases g0
 rotate_left
 · go_wp2
   go_ret
   exact ⟨by rw [← HK.out]; simp, hb⟩
 · obtain ⟨⟨k0, k1, k2, k3, k4, k5, k6, k7, k8, k9, k10, k11⟩, kf⟩ := MBox.cells hM1
   go_wp2_with fail
   refine (Pa.rGreat_any w2 m.W.s m.W.A m.W.n m.W.c m.W.xs m.W.e L1.out g1 H1.out).mono ?_
   rintro e w3 ⟨rfl, hB⟩
   clear k0 k1 k2 k3 k4 k5 k6 k7 k8 k9 k10 k11 kf
   have l3 := hB.size
   replace hM1 : MBox w3 w.heap.size m := box_on hM1 hB (by omega)
   replace hb := hb.trans (hB.mono (by omega))
   clear hB
   cases g1
   rotate_left
   · go_wp2
     go_ret
     exact ⟨by rw [← HK.out]; simp, hb⟩
   · obtain ⟨⟨k0, k1, k2, k3, k4, k5, k6, k7, k8, k9, k10, k11⟩, kf⟩ := MBox.cells hM1
     go_wp2_with fail
     refine (Pa.rGreat_any w3 m.C.s m.C.A m.C.n m.C.c m.C.xs m.C.e L2.out g2 H2.out).mono ?_
     rintro e w4 ⟨rfl, hB⟩
     clear k0 k1 k2 k3 k4 k5 k6 k7 k8 k9 k10 k11 kf
     have l4 := hB.size
     replace hM1 : MBox w4 w.heap.size m := box_on hM1 hB (by omega)
     replace hb := hb.trans (hB.mono (by omega))
     clear hB
     cases g2
     rotate_left
     · go_wp2
       go_ret
       exact ⟨by rw [← HK.out]; simp, hb⟩
     · obtain ⟨⟨k0, k1, k2, k3, k4, k5, k6, k7, k8, k9, k10, k11⟩, kf⟩ := MBox.cells hM1
       go_wp2_with fail
       refine (Pa.rGreat_any w4 m.A.s m.A.A m.A.n m.A.c m.A.xs m.A.e L3.out g3 H3.out).mono ?_
       rintro e w5 ⟨rfl, hB⟩
       clear k0 k1 k2 k3 k4 k5 k6 k7 k8 k9 k10 k11 kf
       have l5 := hB.size
       replace hM1 : MBox w5 w.heap.size m := box_on hM1 hB (by omega)
       replace hb := hb.trans (hB.mono (by omega))
       clear hB
       go_wp2
       go_ret
       exact ⟨by rw [← HK.out]; simp, hb⟩
end Ma
end Go.Proofs.YtbbnbgllgomolaaDoor
namespace Go.Proofs.YtbbnbgllgomolaaDoor
open Go.RowKit
namespace Ma
open Dp Dy
theorem alloc_m (w : World) (m : Mv) : ∃ U, w.alloc (.cells #[.bool m.S.s, .slice m.S.A m.S.n m.S.c, .int .i64 m.S.e, .bool m.W.s, .slice m.W.A m.W.n m.W.c, .int .i64 m.W.e, .bool m.C.s, .slice m.C.A m.C.n m.C.c, .int .i64 m.C.e, .bool m.A.s, .slice m.A.A m.A.n m.A.c, .int .i64 m.A.e] 26) = U ∧ MBox U w.heap.size m ∧ Below w.heap.size w U ∧ w.heap.size < U.heap.size :=
 ⟨_, rfl, heap_alloc_last _ _, (Below.refl _ w).alloc (Nat.le_refl _) _, by simp⟩
theorem alloc_z (w : World) : ∃ U, w.alloc (.cells #[.bool false, .slice none 0 0, .int .i64 0, .bool false, .slice none 0 0, .int .i64 0, .bool false, .slice none 0 0, .int .i64 0, .bool false, .slice none 0 0, .int .i64 0] 26) = U ∧ MBox U w.heap.size ZM ∧ Below w.heap.size w U ∧ w.heap.size < U.heap.size :=
 ⟨_, rfl, heap_alloc_last _ _, (Below.refl _ w).alloc (Nat.le_refl _) _, by simp⟩
theorem alloc_mm (w : World) (m n : Mv) : ∃ U, (w.alloc (.cells #[.bool m.S.s, .slice m.S.A m.S.n m.S.c, .int .i64 m.S.e, .bool m.W.s, .slice m.W.A m.W.n m.W.c, .int .i64 m.W.e, .bool m.C.s, .slice m.C.A m.C.n m.C.c, .int .i64 m.C.e, .bool m.A.s, .slice m.A.A m.A.n m.A.c, .int .i64 m.A.e] 26)).alloc (.cells #[.bool n.S.s, .slice n.S.A n.S.n n.S.c, .int .i64 n.S.e, .bool n.W.s, .slice n.W.A n.W.n n.W.c, .int .i64 n.W.e, .bool n.C.s, .slice n.C.A n.C.n n.C.c, .int .i64 n.C.e, .bool n.A.s, .slice n.A.A n.A.n n.A.c, .int .i64 n.A.e] 26) = U ∧ MBox U w.heap.size m ∧ MBox U (w.heap.size + 1) n ∧ Below w.heap.size w U ∧ w.heap.size + 2 ≤ U.heap.size := by
 obtain ⟨h1, h2, h3, h4, _⟩ := boxes2 w _ _ rfl
 exact ⟨_, rfl, h1, h2, h3, h4⟩
theorem all_to {w : World} {g : Nat} {m0 : Mv} (h : MBox w g m0) (m : Mv) : ∃ U, ((((((((((((w.setCell ⟨g, 0, none⟩ (.bool m.S.s)).setCell ⟨g, 1, none⟩ (.slice m.S.A m.S.n m.S.c)).setCell ⟨g, 2, none⟩ (.int .i64 m.S.e)).setCell ⟨g, 3, none⟩ (.bool m.W.s)).setCell ⟨g, 4, none⟩ (.slice m.W.A m.W.n m.W.c)).setCell ⟨g, 5, none⟩ (.int .i64 m.W.e)).setCell ⟨g, 6, none⟩ (.bool m.C.s)).setCell ⟨g, 7, none⟩ (.slice m.C.A m.C.n m.C.c)).setCell ⟨g, 8, none⟩ (.int .i64 m.C.e)).setCell ⟨g, 9, none⟩ (.bool m.A.s)).setCell ⟨g, 10, none⟩ (.slice m.A.A m.A.n m.A.c)).setCell ⟨g, 11, none⟩ (.int .i64 m.A.e)) = U ∧ MBox U g m ∧ (∀ w0 B, Below B w0 w → B ≤ g → Below B w0 U) ∧ (∀ j, j ≠ g → U.heap[j]? = w.heap[j]?) ∧ U.heap.size ≤ w.heap.size ∧ w.heap.size ≤ U.heap.size :=
 ⟨_, rfl, h.all m, fun _ _ hb hg => below_all hb hg m, fun _ hj => far_all hj m, Nat.le_of_eq (size_all m), Nat.le_of_eq (size_all m).symm⟩
theorem zero_to {w : World} {g : Nat} {m0 : Mv} (h : MBox w g m0) : ∃ U M, ((((((((((((w.setCell ⟨g, 0, none⟩ (.bool false)).setCell ⟨g, 1, none⟩ (.slice none 0 0)).setCell ⟨g, 2, none⟩ (.int .i64 0)).setCell ⟨g, 3, none⟩ (.bool false)).setCell ⟨g, 4, none⟩ (.slice none 0 0)).setCell ⟨g, 5, none⟩ (.int .i64 0)).setCell ⟨g, 6, none⟩ (.bool false)).setCell ⟨g, 7, none⟩ (.slice none 0 0)).setCell ⟨g, 8, none⟩ (.int .i64 0)).setCell ⟨g, 9, none⟩ (.bool false)).setCell ⟨g, 10, none⟩ (.slice none 0 0)).setCell ⟨g, 11, none⟩ (.int .i64 0)) = U ∧ M = ZM ∧ MBox U g M ∧ (∀ w0 B, Below B w0 w → B ≤ g → Below B w0 U) ∧ (∀ j, j ≠ g → U.heap[j]? = w.heap[j]?) ∧ U.heap.size ≤ w.heap.size ∧ w.heap.size ≤ U.heap.size :=
 ⟨_, ZM, rfl, rfl, h.all ZM, fun _ _ hb hg => below_all hb hg ZM, fun _ hj => far_all hj ZM, Nat.le_of_eq (size_all ZM), Nat.le_of_eq (size_all ZM).symm⟩
end Ma
end Go.Proofs.YtbbnbgllgomolaaDoor
namespace Go.Proofs.YtbbnbgllgomolaaDoor
open Go.RowKit
namespace Ma
open Dp Dy
theorem addX_two {s1 s2 : Bool} {xs1 xs2 : List Int} {e1 e2 : Int} {r : Dn} {q : Int} (h1 : MayD s1 xs1 e1) (h2 : MayD s2 xs2 e2) (h : addX s1 xs1 e1 s2 xs2 e2 = (r, q)) : q = 0 ∨ q = 10 := by
 rw [addX_ok h1 h2] at h
 rcases add_cases (dn s1 xs1 e1) (dn s2 xs2 e2) with k | k
 · rw [h] at k
   exact .inl k
 · rw [h] at k
   injection k with _ k
   exact .inr k
end Ma
end Go.Proofs.YtbbnbgllgomolaaDoor
namespace Go.Proofs.YtbbnbgllgomolaaDoor
open Go.RowKit
namespace Ma
open Dp Dy
/-- The rows lie in neither of two blocks. -/
def RowsOff (_w : World) (g g' : Nat) (m : Mv) : Prop := ∀ x, x < 4 → 0 < (m.get x).n → ∀ b off, (m.get x).A = some ⟨b, off, none⟩ → b ≠ g ∧ b ≠ g'
theorem rows_or {w : World} {lo hi g g' : Nat} {m : Mv} (h : MRows w lo hi m) (h1 : g < lo ∨ hi ≤ g) (h2 : g' < lo ∨ hi ≤ g') : RowsOff w g g' m := fun x _ h0 b off e => by
 obtain ⟨b', off', e', k1, k2, _⟩ := (h.get x).row h0
 rw [e] at e'
 injection e' with e'
 injection e' with e1 _ _
 subst e1
 exact ⟨by omega, by omega⟩
theorem ints_off {w w' : World} {lo hi g g' j : Nat} {d : Dv} (h : Ints w lo hi .u32 d.A d.n d.xs) (ho : 0 < d.n → ∀ b off, d.A = some ⟨b, off, none⟩ → b ≠ g ∧ b ≠ g') (hf : ∀ k, k ≠ j → w'.heap[k]? = w.heap[k]?) (hj : j = g ∨ j = g') : Ints w' lo hi .u32 d.A d.n d.xs :=
 ⟨h.len, h.wf, h.big, fun h0 => by
  obtain ⟨b, off, e, h1, h2, hc⟩ := h.row h0
  obtain ⟨n1, n2⟩ := ho h0 b off e
  have h3 := hf b (by rcases hj with rfl | rfl; exact n1; exact n2)
  exact ⟨b, off, e, h1, h2, fun i hi => ⟨by rw [World.cell?_of_block h3]; exact (hc i hi).1, by rw [World.frozen?_of_block h3]; exact (hc i hi).2⟩⟩⟩
theorem RowsOff.far {w w' : World} {g g' lo hi j : Nat} {m : Mv} (ho : RowsOff w g g' m) (h : MRows w lo hi m) (hf : ∀ k, k ≠ j → w'.heap[k]? = w.heap[k]?) (hj : j = g ∨ j = g') : MRows w' lo hi m :=
 ⟨ints_off h.S (ho 0 (by decide)) hf hj, ints_off h.W (ho 1 (by decide)) hf hj, ints_off h.C (ho 2 (by decide)) hf hj, ints_off h.A (ho 3 (by decide)) hf hj⟩
theorem isM_n {w : World} {lo hi : Nat} {R : Nat → Dn} {m : Mv} (hR : MRows w lo hi m) (h : IsM R m) (hr : MayR R) : ∀ x, x < 4 → (m.get x).n ≤ 1000000 := fun x hx => by
 have h1 := (hR.get x).len
 have h2 : (m.get x).xs.length ≤ 40 := ((h x hx).may (hr x hx)).1.1
 omega
end Ma
end Go.Proofs.YtbbnbgllgomolaaDoor
namespace Go.Proofs.YtbbnbgllgomolaaDoor
open Go.RowKit
namespace Ma
open Dp Dy
/-- A mass's twelve cells amid a row. -/
def MCells (w : World) (b o : Nat) (m : Mv) : Prop := w.cell? ⟨b, o, none⟩ = some (.bool m.S.s) ∧ w.cell? ⟨b, o + 1, none⟩ = some (.slice m.S.A m.S.n m.S.c) ∧ w.cell? ⟨b, o + 2, none⟩ = some (.int .i64 m.S.e) ∧ w.cell? ⟨b, o + 3, none⟩ = some (.bool m.W.s) ∧ w.cell? ⟨b, o + 4, none⟩ = some (.slice m.W.A m.W.n m.W.c) ∧ w.cell? ⟨b, o + 5, none⟩ = some (.int .i64 m.W.e) ∧ w.cell? ⟨b, o + 6, none⟩ = some (.bool m.C.s) ∧ w.cell? ⟨b, o + 7, none⟩ = some (.slice m.C.A m.C.n m.C.c) ∧ w.cell? ⟨b, o + 8, none⟩ = some (.int .i64 m.C.e) ∧ w.cell? ⟨b, o + 9, none⟩ = some (.bool m.A.s) ∧ w.cell? ⟨b, o + 10, none⟩ = some (.slice m.A.A m.A.n m.A.c) ∧ w.cell? ⟨b, o + 11, none⟩ = some (.int .i64 m.A.e)
/-- Masses in a row. -/
structure LMs (w : World) (lo hi : Nat) (A : Option Addr) (n : Nat) (ms : List Mv) : Prop where
 len : ms.length = n
 big : n ≤ 9223372036854775807
 row : 0 < n → ∃ b off, A = some ⟨b, off, none⟩ ∧ lo ≤ b ∧ b < hi ∧ ∀ j (h : j < ms.length), MCells w b (off + j * 12) ms[j]
 rows : ∀ j (h : j < ms.length), MRows w lo hi ms[j]
theorem infoM : (Tryd.prog.info? 26).map (fun i => (i.zero, i.size, i.bytes)) = some (some (.agg #[.bool false, .slice none 0 0, .int .i64 0, .bool false, .slice none 0 0, .int .i64 0, .bool false, .slice none 0 0, .int .i64 0, .bool false, .slice none 0 0, .int .i64 0]), 12, 160) := by kernel_rfl
theorem MCells.blk {w w' : World} {b o : Nat} {m : Mv} (h : MCells w b o m) (hk : w'.heap[b]? = w.heap[b]?) : MCells w' b o m := by
 obtain ⟨h0, h1, h2, h3, h4, h5, h6, h7, h8, h9, h10, h11⟩ := h
 exact ⟨by rw [World.cell?_of_block hk]; exact h0, by rw [World.cell?_of_block hk]; exact h1, by rw [World.cell?_of_block hk]; exact h2, by rw [World.cell?_of_block hk]; exact h3, by rw [World.cell?_of_block hk]; exact h4, by rw [World.cell?_of_block hk]; exact h5, by rw [World.cell?_of_block hk]; exact h6, by rw [World.cell?_of_block hk]; exact h7, by rw [World.cell?_of_block hk]; exact h8, by rw [World.cell?_of_block hk]; exact h9, by rw [World.cell?_of_block hk]; exact h10, by rw [World.cell?_of_block hk]; exact h11⟩
theorem LMs.below {w w' : World} {lo hi B : Nat} {A : Option Addr} {n : Nat} {ms : List Mv} (h : LMs w lo hi A n ms) (hb : Below B w w') (hB : hi ≤ B) : LMs w' lo hi A n ms :=
 ⟨h.len, h.big, fun h0 => by
  obtain ⟨b, off, e, h1, h2, hc⟩ := h.row h0
  exact ⟨b, off, e, h1, h2, fun j hj => (hc j hj).blk (hb.block b (by omega))⟩, fun j hj => (h.rows j hj).below hb hB⟩
open Classical in
noncomputable def foldM : (Nat → Dn) → List Mv → Option (Nat → Dn)
 | R, [] => some R
 | R, m :: l => if ∀ x, x < 4 → (addD (R x) (dnM m x)).2 = 0 then foldM (fun x => (addD (R x) (dnM m x)).1) l else none
open Classical in
/-- What the sum of all is. -/
noncomputable def sumM (ms : List Mv) : (Nat → Dn) × Int :=
 if 4096 < ms.length then (zR, 4) else if ∃ m ∈ ms, ¬ m.may then (zR, 8) else match foldM zR ms with
  | some R => (R, 0)
  | none => (zR, 10)
theorem add_step {w : World} {lo hi : Nat} {S d : Mv} {R R2 : Nat → Dn} {code : Int} (hd : MRows w lo hi d) (hm : d.may) (hS : IsM R S) (hR : MayR R) (h : addM S d = (R2, code)) :
  (code = 0 ∧ (∀ x, x < 4 → (addD (R x) (dnM d x)).2 = 0) ∧ ∀ x, x < 4 → R2 x = (addD (R x) (dnM d x)).1) ∨ (code = 10 ∧ (¬ ∀ x, x < 4 → (addD (R x) (dnM d x)).2 = 0) ∧ R2 = zR) := by
 have key : ∀ x, x < 4 → xAdd S d x = addD (R x) (dnM d x) := fun x hx => hS.add (IsM.of hd hm) hR (dnM_may hd hm) hx
 unfold addM at h
 rw [if_pos ⟨hS.may hR, hm⟩] at h
 by_cases hc : ∀ j, j < 4 → (xAdd S d j).2 = 0
 · rw [if_pos hc] at h
   injection h with h1 h2
   subst h1
   exact .inl ⟨h2.symm, fun x hx => by rw [← key x hx]; exact hc x hx, fun x hx => by rw [← key x hx]⟩
 · rw [if_neg hc] at h
   injection h with h1 h2
   exact .inr ⟨h2.symm, fun k => hc fun j hj => by rw [key j hj]; exact k j hj, h1.symm⟩
open Classical in
theorem foldM_cons (R : Nat → Dn) (m : Mv) (l : List Mv) : foldM R (m :: l) = if ∀ x, x < 4 → (addD (R x) (dnM m x)).2 = 0 then foldM (fun x => (addD (R x) (dnM m x)).1) l else none := rfl
set_option maxHeartbeats 12800000 in
set_option maxRecDepth 100000 in
/-- mass.Sum. -/
theorem MSum_any (w : World) (A : Option Addr) (n c : Nat) (ms : List Mv) (hL : LMs w 0 w.heap.size A n ms) (hn : n ≤ 4096) (hT : Tab w) (R : Nat → Dn) (code : Int) (h : sumM ms = (R, code)) :
  Calls Tryd.prog 31 #[.slice A n c] w fun e w' => ∃ m' : Mv, e = .returned (.tuple #[.agg #[.bool m'.S.s, .slice m'.S.A m'.S.n m'.S.c, .int .i64 m'.S.e, .bool m'.W.s, .slice m'.W.A m'.W.n m'.W.c, .int .i64 m'.W.e, .bool m'.C.s, .slice m'.C.A m'.C.n m'.C.c, .int .i64 m'.C.e, .bool m'.A.s, .slice m'.A.A m'.A.n m'.A.c, .int .i64 m'.A.e], .int .i64 code]) ∧ Below w.heap.size w w' ∧ IsM R m' ∧ MRows w' w.heap.size w'.heap.size m' := by
 have HL := Lib.hid hL.len
 unfold sumM at h
 rw [if_neg (by rw [HL.out]; omega)] at h
 have H := Lib.hid h
 clear h
 obtain ⟨i0, hi0, hz0, hz1, hz2⟩ := info_parts infoM
 generalize hw : w.alloc (.cells #[.bool false, .slice none 0 0, .int .i64 0, .bool false, .slice none 0 0, .int .i64 0, .bool false, .slice none 0 0, .int .i64 0, .bool false, .slice none 0 0, .int .i64 0] 26) = w1
 have hZ1 : MBox w1 w.heap.size ZM := by rw [← hw]; exact heap_alloc_last _ _
 have hb : Below w.heap.size w w1 := by rw [← hw]; exact (Below.refl _ w).alloc (Nat.le_refl _) _
 have l1 : w.heap.size < w1.heap.size := by rw [← hw]; simp
 go_enter Tryd.func31, Tryd.ntmps31
 go_wp2
 try clear hw
 go_loopw [3, 5, 6, 15] (fun ev _ _ iv wr => ∃ i : Nat, iv = .int .i64 i ∧ ev = .int .i64 0 ∧ i ≤ n ∧ MBox wr w.heap.size ZM ∧ Below w.heap.size w wr ∧ w.heap.size < wr.heap.size ∧ Hid (∀ j (h : j < ms.length), j < i → ms[j].may)) (fun _ _ _ iv _ => n - (intOf iv).toNat)
 case atStart => exact ⟨0, rfl, rfl, Nat.zero_le _, hZ1, hb, l1, Lib.hid fun j h hj => absurd hj (Nat.not_lt_zero _)⟩
 case round =>
  clear hZ1 hb l1
  obtain ⟨i, rfl, rfl, hi1, hZ1, hb, l1, hall⟩ := hrel
  have hLr := hL.below hb (Nat.le_refl _)
  by_cases hlt : i < n
  · have hi2 : i < ms.length := by rw [HL.out]; exact hlt
    obtain ⟨b, off, hA, h1, h2, hc⟩ := hLr.row (by omega)
    have hci := hc i hi2
    have hri := hLr.rows i hi2
    obtain ⟨d, hd⟩ : ∃ d, ms[i] = d := ⟨_, rfl⟩
    rw [hd] at hci hri
    have HD := Lib.hid hd
    subst hA
    clear hd hc hLr
    obtain ⟨k0, k1, k2, k3, k4, k5, k6, k7, k8, k9, k10, k11⟩ := hci
    have hwr : IntKind.i64.wrap ((i : Int) + 1) = ((i + 1 : Nat) : Int) := by rw [IntKind.wrap_i64]; omega
    have hBL := (Below.refl wr.heap.size wr).alloc (Nat.le_refl _) (.cells #[.bool d.S.s, .slice d.S.A d.S.n d.S.c, .int .i64 d.S.e, .bool d.W.s, .slice d.W.A d.W.n d.W.c, .int .i64 d.W.e, .bool d.C.s, .slice d.C.A d.C.n d.C.c, .int .i64 d.C.e, .bool d.A.s, .slice d.A.A d.A.n d.A.c, .int .i64 d.A.e] 26)
    have hM2 : MBox (wr.alloc (.cells #[.bool d.S.s, .slice d.S.A d.S.n d.S.c, .int .i64 d.S.e, .bool d.W.s, .slice d.W.A d.W.n d.W.c, .int .i64 d.W.e, .bool d.C.s, .slice d.C.A d.C.n d.C.c, .int .i64 d.C.e, .bool d.A.s, .slice d.A.A d.A.n d.A.c, .int .i64 d.A.e] 26)) wr.heap.size d := heap_alloc_last _ _
    have hZ2 : MBox (wr.alloc (.cells #[.bool d.S.s, .slice d.S.A d.S.n d.S.c, .int .i64 d.S.e, .bool d.W.s, .slice d.W.A d.W.n d.W.c, .int .i64 d.W.e, .bool d.C.s, .slice d.C.A d.C.n d.C.c, .int .i64 d.C.e, .bool d.A.s, .slice d.A.A d.A.n d.A.c, .int .i64 d.A.e] 26)) w.heap.size ZM := box_on hZ1 hBL l1
    have hr2 : MRows (wr.alloc (.cells #[.bool d.S.s, .slice d.S.A d.S.n d.S.c, .int .i64 d.S.e, .bool d.W.s, .slice d.W.A d.W.n d.W.c, .int .i64 d.W.e, .bool d.C.s, .slice d.C.A d.C.n d.C.c, .int .i64 d.C.e, .bool d.A.s, .slice d.A.A d.A.n d.A.c, .int .i64 d.A.e] 26)) 0 (wr.alloc (.cells #[.bool d.S.s, .slice d.S.A d.S.n d.S.c, .int .i64 d.S.e, .bool d.W.s, .slice d.W.A d.W.n d.W.c, .int .i64 d.W.e, .bool d.C.s, .slice d.C.A d.C.n d.C.c, .int .i64 d.C.e, .bool d.A.s, .slice d.A.A d.A.n d.A.c, .int .i64 d.A.e] 26)).heap.size d := (hri.below hBL (by omega)).more (Nat.le_refl _) (by have := hBL.size; omega)
    have hb2 : Below w.heap.size w (wr.alloc (.cells #[.bool d.S.s, .slice d.S.A d.S.n d.S.c, .int .i64 d.S.e, .bool d.W.s, .slice d.W.A d.W.n d.W.c, .int .i64 d.W.e, .bool d.C.s, .slice d.C.A d.C.n d.C.c, .int .i64 d.C.e, .bool d.A.s, .slice d.A.A d.A.n d.A.c, .int .i64 d.A.e] 26)) := hb.trans (hBL.mono (by omega))
    have l2 : wr.heap.size < (wr.alloc (.cells #[.bool d.S.s, .slice d.S.A d.S.n d.S.c, .int .i64 d.S.e, .bool d.W.s, .slice d.W.A d.W.n d.W.c, .int .i64 d.W.e, .bool d.C.s, .slice d.C.A d.C.n d.C.c, .int .i64 d.C.e, .bool d.A.s, .slice d.A.A d.A.n d.A.c, .int .i64 d.A.e] 26)).heap.size := by simp
    generalize hw2 : wr.alloc (.cells #[.bool d.S.s, .slice d.S.A d.S.n d.S.c, .int .i64 d.S.e, .bool d.W.s, .slice d.W.A d.W.n d.W.c, .int .i64 d.W.e, .bool d.C.s, .slice d.C.A d.C.n d.C.c, .int .i64 d.C.e, .bool d.A.s, .slice d.A.A d.A.n d.A.c, .int .i64 d.A.e] 26) = w2 at *
    obtain ⟨⟨y0, y1, y2, y3, y4, y5, y6, y7, y8, y9, y10, y11⟩, yf⟩ := MBox.cells hM2
    obtain ⟨q, hq⟩ : ∃ q, chkM d = q := ⟨_, rfl⟩
    go_wp2_with fail
    refine (MCheck_any w2 d hr2 q hq).mono ?_
    rintro e w3 ⟨rfl, hB⟩
    clear k0 k1 k2 k3 k4 k5 k6 k7 k8 k9 k10 k11 y0 y1 y2 y3 y4 y5 y6 y7 y8 y9 y10 y11 yf hw2
    have l3 := hB.size
    have hZ3 : MBox w3 w.heap.size ZM := box_on hZ2 hB (by omega)
    have hb3 := hb2.trans (hB.mono (by omega))
    clear hB hBL
    by_cases hm : d.may
    · have hq0 : q = 0 := hq.symm.trans (chk_may hm)
      subst hq0
      go_wp2
      go_roundw
      case rel => exact ⟨i + 1, by first | rfl | (congr 1; omega) | go_num, rfl, by omega, hZ3, hb3, by omega, Lib.hid fun j hj hji => by
       by_cases e : j = i
       · subst e
         rw [HD.out]
         exact hm
       · exact hall.out j hj (by omega)⟩
      case measure => first | (simp [intOf]; done) | (simp [intOf]; omega)
    · have hq0 : q = 8 := hq.symm.trans (chk_not hm)
      subst hq0
      have hcode : (R, code) = (zR, 8) := by
       have := H.out
       rw [if_pos ⟨ms[i], List.getElem_mem hi2, by rw [HD.out]; exact hm⟩] at this
       exact this.symm
      injection hcode with hR hcd
      subst hR hcd
      obtain ⟨⟨z0, z1, z2, z3, z4, z5, z6, z7, z8, z9, z10, z11⟩, zf⟩ := MBox.cells hZ3
      go_wp2
      have hX : MBox ((((((((((((w3.setCell ⟨w.heap.size, 0, none⟩ (.bool false)).setCell ⟨w.heap.size, 1, none⟩ (.slice none 0 0)).setCell ⟨w.heap.size, 2, none⟩ (.int .i64 0)).setCell ⟨w.heap.size, 3, none⟩ (.bool false)).setCell ⟨w.heap.size, 4, none⟩ (.slice none 0 0)).setCell ⟨w.heap.size, 5, none⟩ (.int .i64 0)).setCell ⟨w.heap.size, 6, none⟩ (.bool false)).setCell ⟨w.heap.size, 7, none⟩ (.slice none 0 0)).setCell ⟨w.heap.size, 8, none⟩ (.int .i64 0)).setCell ⟨w.heap.size, 9, none⟩ (.bool false)).setCell ⟨w.heap.size, 10, none⟩ (.slice none 0 0)).setCell ⟨w.heap.size, 11, none⟩ (.int .i64 0)) (w.heap.size) ZM := MBox.all hZ3 ZM
      have hY : Below w.heap.size w ((((((((((((w3.setCell ⟨w.heap.size, 0, none⟩ (.bool false)).setCell ⟨w.heap.size, 1, none⟩ (.slice none 0 0)).setCell ⟨w.heap.size, 2, none⟩ (.int .i64 0)).setCell ⟨w.heap.size, 3, none⟩ (.bool false)).setCell ⟨w.heap.size, 4, none⟩ (.slice none 0 0)).setCell ⟨w.heap.size, 5, none⟩ (.int .i64 0)).setCell ⟨w.heap.size, 6, none⟩ (.bool false)).setCell ⟨w.heap.size, 7, none⟩ (.slice none 0 0)).setCell ⟨w.heap.size, 8, none⟩ (.int .i64 0)).setCell ⟨w.heap.size, 9, none⟩ (.bool false)).setCell ⟨w.heap.size, 10, none⟩ (.slice none 0 0)).setCell ⟨w.heap.size, 11, none⟩ (.int .i64 0)) := below_all hb3 (Nat.le_refl _) ZM
      clear z0 z1 z2 z3 z4 z5 z6 z7 z8 z9 z10 z11 zf
      generalize ((((((((((((w3.setCell ⟨w.heap.size, 0, none⟩ (.bool false)).setCell ⟨w.heap.size, 1, none⟩ (.slice none 0 0)).setCell ⟨w.heap.size, 2, none⟩ (.int .i64 0)).setCell ⟨w.heap.size, 3, none⟩ (.bool false)).setCell ⟨w.heap.size, 4, none⟩ (.slice none 0 0)).setCell ⟨w.heap.size, 5, none⟩ (.int .i64 0)).setCell ⟨w.heap.size, 6, none⟩ (.bool false)).setCell ⟨w.heap.size, 7, none⟩ (.slice none 0 0)).setCell ⟨w.heap.size, 8, none⟩ (.int .i64 0)).setCell ⟨w.heap.size, 9, none⟩ (.bool false)).setCell ⟨w.heap.size, 10, none⟩ (.slice none 0 0)).setCell ⟨w.heap.size, 11, none⟩ (.int .i64 0)) = U at *
      obtain ⟨M, hMe⟩ : ∃ M : Mv, M = ZM := ⟨_, rfl⟩
      rw [← hMe] at hX
      obtain ⟨⟨k0, k1, k2, k3, k4, k5, k6, k7, k8, k9, k10, k11⟩, kf⟩ := MBox.cells hX
      refine bodyPost_ret (v := .tuple #[.agg #[.bool M.S.s, .slice M.S.A M.S.n M.S.c, .int .i64 M.S.e, .bool M.W.s, .slice M.W.A M.W.n M.W.c, .int .i64 M.W.e, .bool M.C.s, .slice M.C.A M.C.n M.C.c, .int .i64 M.C.e, .bool M.A.s, .slice M.A.A M.A.n M.A.c, .int .i64 M.A.e], .int .i64 8]) (by simp [results, Tryd.results31, go_sem, k0, k1, k2, k3, k4, k5, k6, k7, k8, k9, k10, k11]) rfl ⟨M, rfl, hY, ?_, ?_⟩
      · rw [hMe]
        exact IsM.zero
      · rw [hMe]
        exact ZM_rows ..
  · have hin : n ≤ i := by omega
    have hmay : Hid (∀ j (h : j < ms.length), ms[j].may) := Lib.hid fun j h => hall.out j h (by have := HL.out; omega)
    have H2 : Hid ((match foldM zR ms with | some R => (R, (0 : Int)) | none => (zR, 10)) = (R, code)) := Lib.hid (by
     have := H.out
     rw [if_neg (by
      rintro ⟨m, hm, hn⟩
      obtain ⟨j, hj, e⟩ := List.getElem_of_mem hm
      exact hn (e ▸ hmay.out j hj))] at this
     exact this)
    clear hall hLr
    go_wp2
    obtain ⟨wo, rfl⟩ : ∃ wo : World, wo = wr := ⟨_, rfl⟩
    go_loopw [3, 8, 28] (fun ev _ iv ww => ∃ (i : Nat) (S : Mv) (R' : Nat → Dn), iv = .int .i64 i ∧ ev = .int .i64 0 ∧ i ≤ n ∧ MBox ww w.heap.size S ∧ Below w.heap.size w ww ∧ w.heap.size < ww.heap.size ∧ MRows ww (w.heap.size + 1) ww.heap.size S ∧ Hid (IsM R' S ∧ MayR R' ∧ foldM R' (ms.drop i) = foldM zR ms)) (fun _ _ iv _ => n - (intOf iv).toNat)
    case atStart => exact ⟨0, ZM, zR, rfl, rfl, Nat.zero_le _, hZ1, hb, l1, ZM_rows .., Lib.hid ⟨IsM.zero, zR_may, rfl⟩⟩
    case round =>
     clear hZ1 hb l1
     obtain ⟨i, S, R', rfl, rfl, hi1, hS1, hb, l1, hRS, hI⟩ := hrel
     have hLr := hL.below hb (Nat.le_refl _)
     by_cases hlt : i < n
     · have hi2 : i < ms.length := by rw [HL.out]; exact hlt
       obtain ⟨b, off, hA, h1, h2, hc⟩ := hLr.row (by omega)
       have hci := hc i hi2
       have hri := hLr.rows i hi2
       have hmd := hmay.out i hi2
       obtain ⟨d, hd⟩ : ∃ d, ms[i] = d := ⟨_, rfl⟩
       rw [hd] at hci hri hmd
       have HD := Lib.hid hd
       have HM := Lib.hid hmd
       subst hA
       clear hd hc hLr hmd
       obtain ⟨k0, k1, k2, k3, k4, k5, k6, k7, k8, k9, k10, k11⟩ := hci
       have hwr : IntKind.i64.wrap ((i : Int) + 1) = ((i + 1 : Nat) : Int) := by rw [IntKind.wrap_i64]; omega
       have hBL := (Below.refl wr.heap.size wr).alloc (Nat.le_refl _) (.cells #[.bool d.S.s, .slice d.S.A d.S.n d.S.c, .int .i64 d.S.e, .bool d.W.s, .slice d.W.A d.W.n d.W.c, .int .i64 d.W.e, .bool d.C.s, .slice d.C.A d.C.n d.C.c, .int .i64 d.C.e, .bool d.A.s, .slice d.A.A d.A.n d.A.c, .int .i64 d.A.e] 26)
       have hM2 : MBox (wr.alloc (.cells #[.bool d.S.s, .slice d.S.A d.S.n d.S.c, .int .i64 d.S.e, .bool d.W.s, .slice d.W.A d.W.n d.W.c, .int .i64 d.W.e, .bool d.C.s, .slice d.C.A d.C.n d.C.c, .int .i64 d.C.e, .bool d.A.s, .slice d.A.A d.A.n d.A.c, .int .i64 d.A.e] 26)) wr.heap.size d := heap_alloc_last _ _
       have hS2 : MBox (wr.alloc (.cells #[.bool d.S.s, .slice d.S.A d.S.n d.S.c, .int .i64 d.S.e, .bool d.W.s, .slice d.W.A d.W.n d.W.c, .int .i64 d.W.e, .bool d.C.s, .slice d.C.A d.C.n d.C.c, .int .i64 d.C.e, .bool d.A.s, .slice d.A.A d.A.n d.A.c, .int .i64 d.A.e] 26)) w.heap.size S := box_on hS1 hBL l1
       have hr2 : MRows (wr.alloc (.cells #[.bool d.S.s, .slice d.S.A d.S.n d.S.c, .int .i64 d.S.e, .bool d.W.s, .slice d.W.A d.W.n d.W.c, .int .i64 d.W.e, .bool d.C.s, .slice d.C.A d.C.n d.C.c, .int .i64 d.C.e, .bool d.A.s, .slice d.A.A d.A.n d.A.c, .int .i64 d.A.e] 26)) 0 (wr.alloc (.cells #[.bool d.S.s, .slice d.S.A d.S.n d.S.c, .int .i64 d.S.e, .bool d.W.s, .slice d.W.A d.W.n d.W.c, .int .i64 d.W.e, .bool d.C.s, .slice d.C.A d.C.n d.C.c, .int .i64 d.C.e, .bool d.A.s, .slice d.A.A d.A.n d.A.c, .int .i64 d.A.e] 26)).heap.size d := (hri.below hBL (by omega)).more (Nat.le_refl _) (by have := hBL.size; omega)
       have hrS2 : MRows (wr.alloc (.cells #[.bool d.S.s, .slice d.S.A d.S.n d.S.c, .int .i64 d.S.e, .bool d.W.s, .slice d.W.A d.W.n d.W.c, .int .i64 d.W.e, .bool d.C.s, .slice d.C.A d.C.n d.C.c, .int .i64 d.C.e, .bool d.A.s, .slice d.A.A d.A.n d.A.c, .int .i64 d.A.e] 26)) 0 (wr.alloc (.cells #[.bool d.S.s, .slice d.S.A d.S.n d.S.c, .int .i64 d.S.e, .bool d.W.s, .slice d.W.A d.W.n d.W.c, .int .i64 d.W.e, .bool d.C.s, .slice d.C.A d.C.n d.C.c, .int .i64 d.C.e, .bool d.A.s, .slice d.A.A d.A.n d.A.c, .int .i64 d.A.e] 26)).heap.size S := (hRS.below hBL (Nat.le_refl _)).more (Nat.zero_le _) hBL.size
       have hb2 : Below w.heap.size w (wr.alloc (.cells #[.bool d.S.s, .slice d.S.A d.S.n d.S.c, .int .i64 d.S.e, .bool d.W.s, .slice d.W.A d.W.n d.W.c, .int .i64 d.W.e, .bool d.C.s, .slice d.C.A d.C.n d.C.c, .int .i64 d.C.e, .bool d.A.s, .slice d.A.A d.A.n d.A.c, .int .i64 d.A.e] 26)) := hb.trans (hBL.mono (by omega))
       have l2 : wr.heap.size < (wr.alloc (.cells #[.bool d.S.s, .slice d.S.A d.S.n d.S.c, .int .i64 d.S.e, .bool d.W.s, .slice d.W.A d.W.n d.W.c, .int .i64 d.W.e, .bool d.C.s, .slice d.C.A d.C.n d.C.c, .int .i64 d.C.e, .bool d.A.s, .slice d.A.A d.A.n d.A.c, .int .i64 d.A.e] 26)).heap.size := by simp
       generalize hw2 : wr.alloc (.cells #[.bool d.S.s, .slice d.S.A d.S.n d.S.c, .int .i64 d.S.e, .bool d.W.s, .slice d.W.A d.W.n d.W.c, .int .i64 d.W.e, .bool d.C.s, .slice d.C.A d.C.n d.C.c, .int .i64 d.C.e, .bool d.A.s, .slice d.A.A d.A.n d.A.c, .int .i64 d.A.e] 26) = w2 at *
       have t2 := hT.below hb2 hT.lt
       obtain ⟨⟨y0, y1, y2, y3, y4, y5, y6, y7, y8, y9, y10, y11⟩, yf⟩ := MBox.cells hM2
       obtain ⟨⟨z0, z1, z2, z3, z4, z5, z6, z7, z8, z9, z10, z11⟩, zf⟩ := MBox.cells hS2
       obtain ⟨R2, q, hq⟩ : ∃ R2 q, addM S d = (R2, q) := ⟨_, _, rfl⟩
       have hstep := Lib.hid (add_step hri HM.out hI.out.1 hI.out.2.1 hq)
       have hmR2 : MayR R2 := by have := addM_may S d; rw [hq] at this; exact this
       have HMR2 := Lib.hid hmR2
       have HQ := Lib.hid hq
       clear hq hmR2
       go_wp2_with fail
       refine (MAdd_num w2 S d hrS2 hr2 t2 R2 q HQ.out).mono ?_
       rintro e w3 ⟨S', rfl, hB, hIS, hRS'⟩
       have HIS := Lib.hid hIS
       clear k0 k1 k2 k3 k4 k5 k6 k7 k8 k9 k10 k11 y0 y1 y2 y3 y4 y5 y6 y7 y8 y9 y10 y11 yf z0 z1 z2 z3 z4 z5 z6 z7 z8 z9 z10 z11 zf hw2 hIS
       have l3 := hB.size
       have hS3 : MBox w3 w.heap.size S := box_on hS2 hB (by omega)
       have hb3 := hb2.trans (hB.mono (by omega))
       clear hB hBL
       obtain ⟨⟨z0, z1, z2, z3, z4, z5, z6, z7, z8, z9, z10, z11⟩, zf⟩ := MBox.cells hS3
       have hX : MBox ((((((((((((w3.setCell ⟨w.heap.size, 0, none⟩ (.bool S'.S.s)).setCell ⟨w.heap.size, 1, none⟩ (.slice S'.S.A S'.S.n S'.S.c)).setCell ⟨w.heap.size, 2, none⟩ (.int .i64 S'.S.e)).setCell ⟨w.heap.size, 3, none⟩ (.bool S'.W.s)).setCell ⟨w.heap.size, 4, none⟩ (.slice S'.W.A S'.W.n S'.W.c)).setCell ⟨w.heap.size, 5, none⟩ (.int .i64 S'.W.e)).setCell ⟨w.heap.size, 6, none⟩ (.bool S'.C.s)).setCell ⟨w.heap.size, 7, none⟩ (.slice S'.C.A S'.C.n S'.C.c)).setCell ⟨w.heap.size, 8, none⟩ (.int .i64 S'.C.e)).setCell ⟨w.heap.size, 9, none⟩ (.bool S'.A.s)).setCell ⟨w.heap.size, 10, none⟩ (.slice S'.A.A S'.A.n S'.A.c)).setCell ⟨w.heap.size, 11, none⟩ (.int .i64 S'.A.e)) w.heap.size S' := MBox.all hS3 S'
       have hY : Below w.heap.size w ((((((((((((w3.setCell ⟨w.heap.size, 0, none⟩ (.bool S'.S.s)).setCell ⟨w.heap.size, 1, none⟩ (.slice S'.S.A S'.S.n S'.S.c)).setCell ⟨w.heap.size, 2, none⟩ (.int .i64 S'.S.e)).setCell ⟨w.heap.size, 3, none⟩ (.bool S'.W.s)).setCell ⟨w.heap.size, 4, none⟩ (.slice S'.W.A S'.W.n S'.W.c)).setCell ⟨w.heap.size, 5, none⟩ (.int .i64 S'.W.e)).setCell ⟨w.heap.size, 6, none⟩ (.bool S'.C.s)).setCell ⟨w.heap.size, 7, none⟩ (.slice S'.C.A S'.C.n S'.C.c)).setCell ⟨w.heap.size, 8, none⟩ (.int .i64 S'.C.e)).setCell ⟨w.heap.size, 9, none⟩ (.bool S'.A.s)).setCell ⟨w.heap.size, 10, none⟩ (.slice S'.A.A S'.A.n S'.A.c)).setCell ⟨w.heap.size, 11, none⟩ (.int .i64 S'.A.e)) := below_all hb3 (Nat.le_refl _) S'
       have hRX : MRows ((((((((((((w3.setCell ⟨w.heap.size, 0, none⟩ (.bool S'.S.s)).setCell ⟨w.heap.size, 1, none⟩ (.slice S'.S.A S'.S.n S'.S.c)).setCell ⟨w.heap.size, 2, none⟩ (.int .i64 S'.S.e)).setCell ⟨w.heap.size, 3, none⟩ (.bool S'.W.s)).setCell ⟨w.heap.size, 4, none⟩ (.slice S'.W.A S'.W.n S'.W.c)).setCell ⟨w.heap.size, 5, none⟩ (.int .i64 S'.W.e)).setCell ⟨w.heap.size, 6, none⟩ (.bool S'.C.s)).setCell ⟨w.heap.size, 7, none⟩ (.slice S'.C.A S'.C.n S'.C.c)).setCell ⟨w.heap.size, 8, none⟩ (.int .i64 S'.C.e)).setCell ⟨w.heap.size, 9, none⟩ (.bool S'.A.s)).setCell ⟨w.heap.size, 10, none⟩ (.slice S'.A.A S'.A.n S'.A.c)).setCell ⟨w.heap.size, 11, none⟩ (.int .i64 S'.A.e)) (w.heap.size + 1) w3.heap.size S' := rows_all (hRS'.more (by omega) (Nat.le_refl _)) (g := w.heap.size) (.inl (by omega)) S'
       have hsX : ((((((((((((w3.setCell ⟨w.heap.size, 0, none⟩ (.bool S'.S.s)).setCell ⟨w.heap.size, 1, none⟩ (.slice S'.S.A S'.S.n S'.S.c)).setCell ⟨w.heap.size, 2, none⟩ (.int .i64 S'.S.e)).setCell ⟨w.heap.size, 3, none⟩ (.bool S'.W.s)).setCell ⟨w.heap.size, 4, none⟩ (.slice S'.W.A S'.W.n S'.W.c)).setCell ⟨w.heap.size, 5, none⟩ (.int .i64 S'.W.e)).setCell ⟨w.heap.size, 6, none⟩ (.bool S'.C.s)).setCell ⟨w.heap.size, 7, none⟩ (.slice S'.C.A S'.C.n S'.C.c)).setCell ⟨w.heap.size, 8, none⟩ (.int .i64 S'.C.e)).setCell ⟨w.heap.size, 9, none⟩ (.bool S'.A.s)).setCell ⟨w.heap.size, 10, none⟩ (.slice S'.A.A S'.A.n S'.A.c)).setCell ⟨w.heap.size, 11, none⟩ (.int .i64 S'.A.e)).heap.size = w3.heap.size := size_all S'
       have hsX1 : w3.heap.size ≤ ((((((((((((w3.setCell ⟨w.heap.size, 0, none⟩ (.bool S'.S.s)).setCell ⟨w.heap.size, 1, none⟩ (.slice S'.S.A S'.S.n S'.S.c)).setCell ⟨w.heap.size, 2, none⟩ (.int .i64 S'.S.e)).setCell ⟨w.heap.size, 3, none⟩ (.bool S'.W.s)).setCell ⟨w.heap.size, 4, none⟩ (.slice S'.W.A S'.W.n S'.W.c)).setCell ⟨w.heap.size, 5, none⟩ (.int .i64 S'.W.e)).setCell ⟨w.heap.size, 6, none⟩ (.bool S'.C.s)).setCell ⟨w.heap.size, 7, none⟩ (.slice S'.C.A S'.C.n S'.C.c)).setCell ⟨w.heap.size, 8, none⟩ (.int .i64 S'.C.e)).setCell ⟨w.heap.size, 9, none⟩ (.bool S'.A.s)).setCell ⟨w.heap.size, 10, none⟩ (.slice S'.A.A S'.A.n S'.A.c)).setCell ⟨w.heap.size, 11, none⟩ (.int .i64 S'.A.e)).heap.size := Nat.le_of_eq hsX.symm
       clear hsX
       rcases hstep.out with ⟨hq0, hs0, hs1⟩ | ⟨hq0, hs0, hs1⟩
       · subst hq0
         have hI2 : Hid (IsM (fun x => (addD (R' x) (dnM d x)).1) S' ∧ MayR (fun x => (addD (R' x) (dnM d x)).1) ∧ foldM (fun x => (addD (R' x) (dnM d x)).1) (ms.drop (i + 1)) = foldM zR ms) := Lib.hid ⟨HIS.out.of_eq fun x hx => (hs1 x hx).symm, fun x _ => add_may .., by
          have e := hI.out.2.2
          rw [List.drop_eq_getElem_cons hi2, HD.out, foldM_cons, if_pos hs0] at e
          exact e⟩
         clear hs0 hs1 hstep
         go_wp2
         clear z0 z1 z2 z3 z4 z5 z6 z7 z8 z9 z10 z11 zf
         generalize ((((((((((((w3.setCell ⟨w.heap.size, 0, none⟩ (.bool S'.S.s)).setCell ⟨w.heap.size, 1, none⟩ (.slice S'.S.A S'.S.n S'.S.c)).setCell ⟨w.heap.size, 2, none⟩ (.int .i64 S'.S.e)).setCell ⟨w.heap.size, 3, none⟩ (.bool S'.W.s)).setCell ⟨w.heap.size, 4, none⟩ (.slice S'.W.A S'.W.n S'.W.c)).setCell ⟨w.heap.size, 5, none⟩ (.int .i64 S'.W.e)).setCell ⟨w.heap.size, 6, none⟩ (.bool S'.C.s)).setCell ⟨w.heap.size, 7, none⟩ (.slice S'.C.A S'.C.n S'.C.c)).setCell ⟨w.heap.size, 8, none⟩ (.int .i64 S'.C.e)).setCell ⟨w.heap.size, 9, none⟩ (.bool S'.A.s)).setCell ⟨w.heap.size, 10, none⟩ (.slice S'.A.A S'.A.n S'.A.c)).setCell ⟨w.heap.size, 11, none⟩ (.int .i64 S'.A.e)) = w4 at *
         go_roundw
         case rel => exact ⟨i + 1, S', _, by first | rfl | (congr 1; omega) | go_num, rfl, by omega, hX, hY, by omega, hRX.more (Nat.le_refl _) hsX1, hI2⟩
         case measure => first | (simp [intOf]; done) | (simp [intOf]; omega)
       · subst hq0
         have hcode : (zR, (10 : Int)) = (R, code) := by
          have e := hI.out.2.2
          rw [List.drop_eq_getElem_cons hi2, HD.out, foldM_cons, if_neg hs0] at e
          have e2 := H2.out
          rw [← e] at e2
          exact e2
         injection hcode with hR hcd
         subst hR hcd
         clear hs0 hs1 hstep
         go_wp2
         have hX2 : MBox ((((((((((((((((((((((((w3.setCell ⟨w.heap.size, 0, none⟩ (.bool S'.S.s)).setCell ⟨w.heap.size, 1, none⟩ (.slice S'.S.A S'.S.n S'.S.c)).setCell ⟨w.heap.size, 2, none⟩ (.int .i64 S'.S.e)).setCell ⟨w.heap.size, 3, none⟩ (.bool S'.W.s)).setCell ⟨w.heap.size, 4, none⟩ (.slice S'.W.A S'.W.n S'.W.c)).setCell ⟨w.heap.size, 5, none⟩ (.int .i64 S'.W.e)).setCell ⟨w.heap.size, 6, none⟩ (.bool S'.C.s)).setCell ⟨w.heap.size, 7, none⟩ (.slice S'.C.A S'.C.n S'.C.c)).setCell ⟨w.heap.size, 8, none⟩ (.int .i64 S'.C.e)).setCell ⟨w.heap.size, 9, none⟩ (.bool S'.A.s)).setCell ⟨w.heap.size, 10, none⟩ (.slice S'.A.A S'.A.n S'.A.c)).setCell ⟨w.heap.size, 11, none⟩ (.int .i64 S'.A.e)).setCell ⟨w.heap.size, 0, none⟩ (.bool false)).setCell ⟨w.heap.size, 1, none⟩ (.slice none 0 0)).setCell ⟨w.heap.size, 2, none⟩ (.int .i64 0)).setCell ⟨w.heap.size, 3, none⟩ (.bool false)).setCell ⟨w.heap.size, 4, none⟩ (.slice none 0 0)).setCell ⟨w.heap.size, 5, none⟩ (.int .i64 0)).setCell ⟨w.heap.size, 6, none⟩ (.bool false)).setCell ⟨w.heap.size, 7, none⟩ (.slice none 0 0)).setCell ⟨w.heap.size, 8, none⟩ (.int .i64 0)).setCell ⟨w.heap.size, 9, none⟩ (.bool false)).setCell ⟨w.heap.size, 10, none⟩ (.slice none 0 0)).setCell ⟨w.heap.size, 11, none⟩ (.int .i64 0)) w.heap.size ZM := MBox.all hX ZM
         have hY2 : Below w.heap.size w ((((((((((((((((((((((((w3.setCell ⟨w.heap.size, 0, none⟩ (.bool S'.S.s)).setCell ⟨w.heap.size, 1, none⟩ (.slice S'.S.A S'.S.n S'.S.c)).setCell ⟨w.heap.size, 2, none⟩ (.int .i64 S'.S.e)).setCell ⟨w.heap.size, 3, none⟩ (.bool S'.W.s)).setCell ⟨w.heap.size, 4, none⟩ (.slice S'.W.A S'.W.n S'.W.c)).setCell ⟨w.heap.size, 5, none⟩ (.int .i64 S'.W.e)).setCell ⟨w.heap.size, 6, none⟩ (.bool S'.C.s)).setCell ⟨w.heap.size, 7, none⟩ (.slice S'.C.A S'.C.n S'.C.c)).setCell ⟨w.heap.size, 8, none⟩ (.int .i64 S'.C.e)).setCell ⟨w.heap.size, 9, none⟩ (.bool S'.A.s)).setCell ⟨w.heap.size, 10, none⟩ (.slice S'.A.A S'.A.n S'.A.c)).setCell ⟨w.heap.size, 11, none⟩ (.int .i64 S'.A.e)).setCell ⟨w.heap.size, 0, none⟩ (.bool false)).setCell ⟨w.heap.size, 1, none⟩ (.slice none 0 0)).setCell ⟨w.heap.size, 2, none⟩ (.int .i64 0)).setCell ⟨w.heap.size, 3, none⟩ (.bool false)).setCell ⟨w.heap.size, 4, none⟩ (.slice none 0 0)).setCell ⟨w.heap.size, 5, none⟩ (.int .i64 0)).setCell ⟨w.heap.size, 6, none⟩ (.bool false)).setCell ⟨w.heap.size, 7, none⟩ (.slice none 0 0)).setCell ⟨w.heap.size, 8, none⟩ (.int .i64 0)).setCell ⟨w.heap.size, 9, none⟩ (.bool false)).setCell ⟨w.heap.size, 10, none⟩ (.slice none 0 0)).setCell ⟨w.heap.size, 11, none⟩ (.int .i64 0)) := below_all hY (Nat.le_refl _) ZM
         clear z0 z1 z2 z3 z4 z5 z6 z7 z8 z9 z10 z11 zf hX hY
         generalize ((((((((((((((((((((((((w3.setCell ⟨w.heap.size, 0, none⟩ (.bool S'.S.s)).setCell ⟨w.heap.size, 1, none⟩ (.slice S'.S.A S'.S.n S'.S.c)).setCell ⟨w.heap.size, 2, none⟩ (.int .i64 S'.S.e)).setCell ⟨w.heap.size, 3, none⟩ (.bool S'.W.s)).setCell ⟨w.heap.size, 4, none⟩ (.slice S'.W.A S'.W.n S'.W.c)).setCell ⟨w.heap.size, 5, none⟩ (.int .i64 S'.W.e)).setCell ⟨w.heap.size, 6, none⟩ (.bool S'.C.s)).setCell ⟨w.heap.size, 7, none⟩ (.slice S'.C.A S'.C.n S'.C.c)).setCell ⟨w.heap.size, 8, none⟩ (.int .i64 S'.C.e)).setCell ⟨w.heap.size, 9, none⟩ (.bool S'.A.s)).setCell ⟨w.heap.size, 10, none⟩ (.slice S'.A.A S'.A.n S'.A.c)).setCell ⟨w.heap.size, 11, none⟩ (.int .i64 S'.A.e)).setCell ⟨w.heap.size, 0, none⟩ (.bool false)).setCell ⟨w.heap.size, 1, none⟩ (.slice none 0 0)).setCell ⟨w.heap.size, 2, none⟩ (.int .i64 0)).setCell ⟨w.heap.size, 3, none⟩ (.bool false)).setCell ⟨w.heap.size, 4, none⟩ (.slice none 0 0)).setCell ⟨w.heap.size, 5, none⟩ (.int .i64 0)).setCell ⟨w.heap.size, 6, none⟩ (.bool false)).setCell ⟨w.heap.size, 7, none⟩ (.slice none 0 0)).setCell ⟨w.heap.size, 8, none⟩ (.int .i64 0)).setCell ⟨w.heap.size, 9, none⟩ (.bool false)).setCell ⟨w.heap.size, 10, none⟩ (.slice none 0 0)).setCell ⟨w.heap.size, 11, none⟩ (.int .i64 0)) = U at *
         obtain ⟨M, hMe⟩ : ∃ M : Mv, M = ZM := ⟨_, rfl⟩
         rw [← hMe] at hX2
         obtain ⟨⟨k0, k1, k2, k3, k4, k5, k6, k7, k8, k9, k10, k11⟩, kf⟩ := MBox.cells hX2
         refine bodyPost_ret (v := .tuple #[.agg #[.bool M.S.s, .slice M.S.A M.S.n M.S.c, .int .i64 M.S.e, .bool M.W.s, .slice M.W.A M.W.n M.W.c, .int .i64 M.W.e, .bool M.C.s, .slice M.C.A M.C.n M.C.c, .int .i64 M.C.e, .bool M.A.s, .slice M.A.A M.A.n M.A.c, .int .i64 M.A.e], .int .i64 10]) (by simp [results, Tryd.results31, go_sem, k0, k1, k2, k3, k4, k5, k6, k7, k8, k9, k10, k11]) rfl ⟨M, rfl, hY2, ?_, ?_⟩
         · rw [hMe]
           exact IsM.zero
         · rw [hMe]
           exact ZM_rows ..
     · have hin2 : ms.length ≤ i := by have := HL.out; omega
       have hcode : (R', (0 : Int)) = (R, code) := by
        have e := hI.out.2.2
        rw [List.drop_eq_nil_of_le hin2] at e
        have e2 := H2.out
        rw [← e] at e2
        exact e2
       injection hcode with hR hcd
       subst hR hcd
       have HI := Lib.hid hI.out.1
       clear hI hLr
       obtain ⟨⟨z0, z1, z2, z3, z4, z5, z6, z7, z8, z9, z10, z11⟩, zf⟩ := MBox.cells hS1
       go_wp2
       have hX2 : MBox ((((((((((((wr.setCell ⟨w.heap.size, 0, none⟩ (.bool S.S.s)).setCell ⟨w.heap.size, 1, none⟩ (.slice S.S.A S.S.n S.S.c)).setCell ⟨w.heap.size, 2, none⟩ (.int .i64 S.S.e)).setCell ⟨w.heap.size, 3, none⟩ (.bool S.W.s)).setCell ⟨w.heap.size, 4, none⟩ (.slice S.W.A S.W.n S.W.c)).setCell ⟨w.heap.size, 5, none⟩ (.int .i64 S.W.e)).setCell ⟨w.heap.size, 6, none⟩ (.bool S.C.s)).setCell ⟨w.heap.size, 7, none⟩ (.slice S.C.A S.C.n S.C.c)).setCell ⟨w.heap.size, 8, none⟩ (.int .i64 S.C.e)).setCell ⟨w.heap.size, 9, none⟩ (.bool S.A.s)).setCell ⟨w.heap.size, 10, none⟩ (.slice S.A.A S.A.n S.A.c)).setCell ⟨w.heap.size, 11, none⟩ (.int .i64 S.A.e)) w.heap.size S := MBox.all hS1 S
       have hY2 : Below w.heap.size w ((((((((((((wr.setCell ⟨w.heap.size, 0, none⟩ (.bool S.S.s)).setCell ⟨w.heap.size, 1, none⟩ (.slice S.S.A S.S.n S.S.c)).setCell ⟨w.heap.size, 2, none⟩ (.int .i64 S.S.e)).setCell ⟨w.heap.size, 3, none⟩ (.bool S.W.s)).setCell ⟨w.heap.size, 4, none⟩ (.slice S.W.A S.W.n S.W.c)).setCell ⟨w.heap.size, 5, none⟩ (.int .i64 S.W.e)).setCell ⟨w.heap.size, 6, none⟩ (.bool S.C.s)).setCell ⟨w.heap.size, 7, none⟩ (.slice S.C.A S.C.n S.C.c)).setCell ⟨w.heap.size, 8, none⟩ (.int .i64 S.C.e)).setCell ⟨w.heap.size, 9, none⟩ (.bool S.A.s)).setCell ⟨w.heap.size, 10, none⟩ (.slice S.A.A S.A.n S.A.c)).setCell ⟨w.heap.size, 11, none⟩ (.int .i64 S.A.e)) := below_all hb (Nat.le_refl _) S
       have hRX : MRows ((((((((((((wr.setCell ⟨w.heap.size, 0, none⟩ (.bool S.S.s)).setCell ⟨w.heap.size, 1, none⟩ (.slice S.S.A S.S.n S.S.c)).setCell ⟨w.heap.size, 2, none⟩ (.int .i64 S.S.e)).setCell ⟨w.heap.size, 3, none⟩ (.bool S.W.s)).setCell ⟨w.heap.size, 4, none⟩ (.slice S.W.A S.W.n S.W.c)).setCell ⟨w.heap.size, 5, none⟩ (.int .i64 S.W.e)).setCell ⟨w.heap.size, 6, none⟩ (.bool S.C.s)).setCell ⟨w.heap.size, 7, none⟩ (.slice S.C.A S.C.n S.C.c)).setCell ⟨w.heap.size, 8, none⟩ (.int .i64 S.C.e)).setCell ⟨w.heap.size, 9, none⟩ (.bool S.A.s)).setCell ⟨w.heap.size, 10, none⟩ (.slice S.A.A S.A.n S.A.c)).setCell ⟨w.heap.size, 11, none⟩ (.int .i64 S.A.e)) (w.heap.size + 1) wr.heap.size S := rows_all hRS (g := w.heap.size) (.inl (by omega)) S
       have hsX : ((((((((((((wr.setCell ⟨w.heap.size, 0, none⟩ (.bool S.S.s)).setCell ⟨w.heap.size, 1, none⟩ (.slice S.S.A S.S.n S.S.c)).setCell ⟨w.heap.size, 2, none⟩ (.int .i64 S.S.e)).setCell ⟨w.heap.size, 3, none⟩ (.bool S.W.s)).setCell ⟨w.heap.size, 4, none⟩ (.slice S.W.A S.W.n S.W.c)).setCell ⟨w.heap.size, 5, none⟩ (.int .i64 S.W.e)).setCell ⟨w.heap.size, 6, none⟩ (.bool S.C.s)).setCell ⟨w.heap.size, 7, none⟩ (.slice S.C.A S.C.n S.C.c)).setCell ⟨w.heap.size, 8, none⟩ (.int .i64 S.C.e)).setCell ⟨w.heap.size, 9, none⟩ (.bool S.A.s)).setCell ⟨w.heap.size, 10, none⟩ (.slice S.A.A S.A.n S.A.c)).setCell ⟨w.heap.size, 11, none⟩ (.int .i64 S.A.e)).heap.size = wr.heap.size := size_all S
       have hsX1 : wr.heap.size ≤ ((((((((((((wr.setCell ⟨w.heap.size, 0, none⟩ (.bool S.S.s)).setCell ⟨w.heap.size, 1, none⟩ (.slice S.S.A S.S.n S.S.c)).setCell ⟨w.heap.size, 2, none⟩ (.int .i64 S.S.e)).setCell ⟨w.heap.size, 3, none⟩ (.bool S.W.s)).setCell ⟨w.heap.size, 4, none⟩ (.slice S.W.A S.W.n S.W.c)).setCell ⟨w.heap.size, 5, none⟩ (.int .i64 S.W.e)).setCell ⟨w.heap.size, 6, none⟩ (.bool S.C.s)).setCell ⟨w.heap.size, 7, none⟩ (.slice S.C.A S.C.n S.C.c)).setCell ⟨w.heap.size, 8, none⟩ (.int .i64 S.C.e)).setCell ⟨w.heap.size, 9, none⟩ (.bool S.A.s)).setCell ⟨w.heap.size, 10, none⟩ (.slice S.A.A S.A.n S.A.c)).setCell ⟨w.heap.size, 11, none⟩ (.int .i64 S.A.e)).heap.size := Nat.le_of_eq hsX.symm
       clear z0 z1 z2 z3 z4 z5 z6 z7 z8 z9 z10 z11 zf hsX
       generalize ((((((((((((wr.setCell ⟨w.heap.size, 0, none⟩ (.bool S.S.s)).setCell ⟨w.heap.size, 1, none⟩ (.slice S.S.A S.S.n S.S.c)).setCell ⟨w.heap.size, 2, none⟩ (.int .i64 S.S.e)).setCell ⟨w.heap.size, 3, none⟩ (.bool S.W.s)).setCell ⟨w.heap.size, 4, none⟩ (.slice S.W.A S.W.n S.W.c)).setCell ⟨w.heap.size, 5, none⟩ (.int .i64 S.W.e)).setCell ⟨w.heap.size, 6, none⟩ (.bool S.C.s)).setCell ⟨w.heap.size, 7, none⟩ (.slice S.C.A S.C.n S.C.c)).setCell ⟨w.heap.size, 8, none⟩ (.int .i64 S.C.e)).setCell ⟨w.heap.size, 9, none⟩ (.bool S.A.s)).setCell ⟨w.heap.size, 10, none⟩ (.slice S.A.A S.A.n S.A.c)).setCell ⟨w.heap.size, 11, none⟩ (.int .i64 S.A.e)) = U at *
       obtain ⟨⟨k0, k1, k2, k3, k4, k5, k6, k7, k8, k9, k10, k11⟩, kf⟩ := MBox.cells hX2
       exact bodyPost_ret (v := .tuple #[.agg #[.bool S.S.s, .slice S.S.A S.S.n S.S.c, .int .i64 S.S.e, .bool S.W.s, .slice S.W.A S.W.n S.W.c, .int .i64 S.W.e, .bool S.C.s, .slice S.C.A S.C.n S.C.c, .int .i64 S.C.e, .bool S.A.s, .slice S.A.A S.A.n S.A.c, .int .i64 S.A.e], .int .i64 0]) (by simp [results, Tryd.results31, go_sem, k0, k1, k2, k3, k4, k5, k6, k7, k8, k9, k10, k11]) rfl ⟨S, rfl, hY2, HI.out, hRX.more (by omega) hsX1⟩
end Ma
end Go.Proofs.YtbbnbgllgomolaaDoor