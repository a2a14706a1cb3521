/- Plain laws about masses' values, and contracts that say the numbers (printed by a program of mine). -/
/- The plain laws of MassWhole and MassGroup. No program in sight. -/
/- mass.Seed out of the limits: a walk (printed by a program of mine). -/
/- headcountlaw06.half and alive: walks (printed by a program of mine). -/
import Derived.Test.YtlbkepiflhchdaaDoorBn21
import Derived.Test.YtlbkepiflhchdaaDoorBn20
import Derived.Test.YtlbkepiflhchdaaDoorBn09
import Derived.Test.YtlbkepiflhchdaaDoorBn18
namespace Go.Proofs.YtlbkepiflhchdaaDoor
open Go.RowKit
namespace Ma
open Dp Dy
/-- d is the form of the number r. -/
def Is (r : Dn) (d : Dv) : Prop := d.s = r.neg ∧ d.e = r.e ∧ d.xs = canon 4294967296 r.m
theorem ResV.is {W : World} {lo : Nat} {r : Dn} {d : Dv} (h : ResV W lo r d) : Is r d := ⟨h.1, h.2.1, h.2.2.1⟩
theorem ResV.row {W : World} {lo : Nat} {r : Dn} {d : Dv} (h : ResV W lo r d) : Ints W lo W.heap.size .u32 d.A d.n d.xs := h.2.2.2.2
theorem Is.may {r : Dn} {d : Dv} (h : Is r d) (hr : r.May) : d.may := by
  unfold Dv.may
  rw [h.1, h.2.1, h.2.2]
  exact dn_may hr
theorem Is.same {r : Dn} {d d' : Dv} (h : Is r d) (h' : Is r d') : sameV d d' = true := by
  unfold sameV
  rw [h.1, h.2.1, h.2.2, h'.1, h'.2.1, h'.2.2]
  exact Pa.Dy.same_refl _
theorem Is.of {d : Dv} (hd : Dig 4294967296 d.xs) (hm : d.may) : Is (dn d.s d.xs d.e) d := ⟨rfl, (dn_ok hd hm).2.2.symm, (dn_ok hd hm).2.1.symm⟩
theorem Is.twin {r : Dn} {d d' : Dv} (h : Is r d) (ht : TwinV d d') : Is r d' := ⟨ht.1.trans h.1, ht.2.2.1.trans h.2.1, ht.2.2.2.1.trans h.2.2⟩
theorem Is.zero : Is Dn.zero ⟨false, none, 0, 0, 0, []⟩ := ⟨rfl, rfl, rfl⟩
theorem Is.add {r r' : Dn} {d d' : Dv} (h : Is r d) (h' : Is r' d') (hr : r.May) (hr' : r'.May) : addX d.s d.xs d.e d'.s d'.xs d'.e = addD r r' := by
  rw [addX_ok (h.may hr) (h'.may hr'), h.1, h.2.1, h.2.2, h'.1, h'.2.1, h'.2.2, dn_of, dn_of]
theorem Is.sub {r r' : Dn} {d d' : Dv} (h : Is r d) (h' : Is r' d') (hr : r.May) (hr' : r'.May) : subX d.s d.xs d.e d'.s d'.xs d'.e = subD r r' := by
  rw [subX_ok (h.may hr) (h'.may hr'), h.1, h.2.1, h.2.2, h'.1, h'.2.1, h'.2.2, dn_of, dn_of]
theorem Is.half {r : Dn} {d : Dv} (h : Is r d) (hr : r.May) : halfX d.s d.xs d.e = halfD r := by
  rw [halfX_ok (h.may hr), h.1, h.2.1, h.2.2, dn_of]
theorem add_zero {a : Dn} (ha : a.May) : addD a Dn.zero = (a, 0) :=
  add_of ha (K := a.e) (Nat.le_refl _) (Nat.zero_le _) (Nat.le_refl _) (by rw [vl_zero]; omega)
theorem zero_add {a : Dn} (ha : a.May) : addD Dn.zero a = (a, 0) := by rw [add_comm]; exact add_zero ha
/-- m is the form of the numbers R. -/
def IsM (R : Nat → Dn) (m : Mv) : Prop := ∀ x, x < 4 → Is (R x) (m.get x)
def MayR (R : Nat → Dn) : Prop := ∀ x, x < 4 → (R x).May
def dnM (m : Mv) (x : Nat) : Dn := dn (m.get x).s (m.get x).xs (m.get x).e
def zR (_ : Nat) : Dn := Dn.zero
theorem zR_may : MayR zR := fun _ _ => zero_may
theorem IsM.zero : IsM zR ZM := four Is.zero Is.zero Is.zero Is.zero
theorem IsM.same {R : Nat → Dn} {a b : Mv} (h : IsM R a) (h' : IsM R b) : sameM a b = true := (sameM_iff a b).2 fun x hx => (h x hx).same (h' x hx)
theorem IsM.may {R : Nat → Dn} {m : Mv} (h : IsM R m) (hr : MayR R) : m.may := fun x hx => (h x hx).may (hr x hx)
theorem IsM.of {w : World} {lo hi : Nat} {m : Mv} (hR : MRows w lo hi m) (h : m.may) : IsM (dnM m) m := fun x hx => Is.of (dig_ints (hR.get x)) (h x hx)
theorem dnM_may {w : World} {lo hi : Nat} {m : Mv} (hR : MRows w lo hi m) (h : m.may) : MayR (dnM m) := fun x hx => (dn_ok (dig_ints (hR.get x)) (h x hx)).1
theorem IsM.add {R S : Nat → Dn} {a b : Mv} (h : IsM R a) (h' : IsM S b) (hr : MayR R) (hs : MayR S) {x : Nat} (hx : x < 4) : xAdd a b x = addD (R x) (S x) := (h x hx).add (h' x hx) (hr x hx) (hs x hx)
theorem IsM.sub {R S : Nat → Dn} {a b : Mv} (h : IsM R a) (h' : IsM S b) (hr : MayR R) (hs : MayR S) {x : Nat} (hx : x < 4) : xSub a b x = subD (R x) (S x) := (h x hx).sub (h' x hx) (hr x hx) (hs x hx)
theorem IsM.twin {R : Nat → Dn} {a b : Mv} (h : IsM R a) (ht : ∀ x, x < 4 → TwinV (a.get x) (b.get x)) : IsM R b := fun x hx => (h x hx).twin (ht x hx)
theorem rows_res {W : World} {lo : Nat} {R : Nat → Dn} {m : Mv} (h : ∀ j, j < 4 → ResV W lo (R j) (m.get j)) : MRows W lo W.heap.size m := ⟨(h 0 (by decide)).row, (h 1 (by decide)).row, (h 2 (by decide)).row, (h 3 (by decide)).row⟩
open Classical in
/-- What a sum is, whatever the masses. -/
noncomputable def addM (a b : Mv) : (Nat → Dn) × Int := if a.may ∧ b.may then (if ∀ j, j < 4 → (xAdd a b j).2 = 0 then (fun j => (xAdd a b j).1, 0) else (zR, 10)) else (zR, 8)
open Classical in
noncomputable def subM (a b : Mv) : (Nat → Dn) × Int := if a.may ∧ b.may then (if ∀ j, j < 4 → (xSub a b j).2 = 0 then (fun j => (xSub a b j).1, 0) else (zR, 10)) else (zR, 8)
theorem ZM_rows (w : World) (lo hi : Nat) : MRows w lo hi ZM := ⟨Ints.nil_ .., Ints.nil_ .., Ints.nil_ .., Ints.nil_ ..⟩
theorem addM_may (a b : Mv) : MayR (addM a b).1 := fun x _ => by
  unfold addM
  split
  · split
    · exact addX_may ..
    · exact zero_may
  · exact zero_may
theorem subM_may (a b : Mv) : MayR (subM a b).1 := fun x _ => by
  unfold subM
  split
  · split
    · exact subX_may ..
    · exact zero_may
  · exact zero_may
theorem addM_of {R S T : Nat → Dn} {a b : Mv} (ha : IsM R a) (hb : IsM S b) (hr : MayR R) (hs : MayR S) (hs2 : ∀ x, x < 4 → addD (R x) (S x) = (T x, 0)) : ∃ T', addM a b = (T', 0) ∧ ∀ x, x < 4 → T' x = T x := by
  have hx : ∀ x, x < 4 → xAdd a b x = (T x, 0) := fun x hx => (ha.add hb hr hs hx).trans (hs2 x hx)
  refine ⟨fun j => (xAdd a b j).1, ?_, fun x h => by show (xAdd a b x).1 = T x; rw [hx x h]⟩
  unfold addM
  rw [if_pos ⟨ha.may hr, hb.may hs⟩, if_pos fun j hj => by rw [hx j hj]]
theorem MAdd_num (w : World) (a b : Mv) (hA : MRows w 0 w.heap.size a) (hB : MRows w 0 w.heap.size b) (hT : Tab w) (R : Nat → Dn) (code : Int) (hR : addM a b = (R, code)) :
    Calls Tryd.prog 51 #[.agg #[.bool a.S.s, .slice a.S.A a.S.n a.S.c, .int .i64 a.S.e, .bool a.W.s, .slice a.W.A a.W.n a.W.c, .int .i64 a.W.e, .bool a.C.s, .slice a.C.A a.C.n a.C.c, .int .i64 a.C.e, .bool a.A.s, .slice a.A.A a.A.n a.A.c, .int .i64 a.A.e], .agg #[.bool b.S.s, .slice b.S.A b.S.n b.S.c, .int .i64 b.S.e, .bool b.W.s, .slice b.W.A b.W.n b.W.c, .int .i64 b.W.e, .bool b.C.s, .slice b.C.A b.C.n b.C.c, .int .i64 b.C.e, .bool b.A.s, .slice b.A.A b.A.n b.A.c, .int .i64 b.A.e]] w fun e w' => ∃ m' : Mv, e = .returned (.tuple #[.agg #[.bool m'.S.s, .slice m'.S.A m'.S.n m'.S.c, .int .i64 m'.S.e, .bool m'.W.s, .slice m'.W.A m'.W.n m'.W.c, .int .i64 m'.W.e, .bool m'.C.s, .slice m'.C.A m'.C.n m'.C.c, .int .i64 m'.C.e, .bool m'.A.s, .slice m'.A.A m'.A.n m'.A.c, .int .i64 m'.A.e], .int .i64 code]) ∧ Below w.heap.size w w' ∧ IsM R m' ∧ MRows w' w.heap.size w'.heap.size m' := by
  refine (MAdd_any w a b hA hB hT).mono ?_
  rintro e w' ⟨m', code', rfl, hBl, h⟩
  unfold addM at hR
  rcases h with ⟨rfl, hm, h⟩ | ⟨rfl, hm, ⟨j, hj, hn⟩, rfl⟩ | ⟨rfl, hn, rfl⟩
  · rw [if_pos hm, if_pos fun j hj => (h j hj).1] at hR
    injection hR with h1 h2
    subst h1 h2
    exact ⟨m', rfl, hBl, fun x hx => (h x hx).2.is, rows_res fun j hj => (h j hj).2⟩
  · rw [if_pos hm, if_neg fun k => hn (k j hj)] at hR
    injection hR with h1 h2
    subst h1 h2
    exact ⟨ZM, rfl, hBl, IsM.zero, ZM_rows ..⟩
  · rw [if_neg hn] at hR
    injection hR with h1 h2
    subst h1 h2
    exact ⟨ZM, rfl, hBl, IsM.zero, ZM_rows ..⟩
theorem MSub_num (w : World) (a b : Mv) (hA : MRows w 0 w.heap.size a) (hB : MRows w 0 w.heap.size b) (hT : Tab w) (R : Nat → Dn) (code : Int) (hR : subM a b = (R, code)) :
    Calls Tryd.prog 53 #[.agg #[.bool a.S.s, .slice a.S.A a.S.n a.S.c, .int .i64 a.S.e, .bool a.W.s, .slice a.W.A a.W.n a.W.c, .int .i64 a.W.e, .bool a.C.s, .slice a.C.A a.C.n a.C.c, .int .i64 a.C.e, .bool a.A.s, .slice a.A.A a.A.n a.A.c, .int .i64 a.A.e], .agg #[.bool b.S.s, .slice b.S.A b.S.n b.S.c, .int .i64 b.S.e, .bool b.W.s, .slice b.W.A b.W.n b.W.c, .int .i64 b.W.e, .bool b.C.s, .slice b.C.A b.C.n b.C.c, .int .i64 b.C.e, .bool b.A.s, .slice b.A.A b.A.n b.A.c, .int .i64 b.A.e]] w fun e w' => ∃ m' : Mv, e = .returned (.tuple #[.agg #[.bool m'.S.s, .slice m'.S.A m'.S.n m'.S.c, .int .i64 m'.S.e, .bool m'.W.s, .slice m'.W.A m'.W.n m'.W.c, .int .i64 m'.W.e, .bool m'.C.s, .slice m'.C.A m'.C.n m'.C.c, .int .i64 m'.C.e, .bool m'.A.s, .slice m'.A.A m'.A.n m'.A.c, .int .i64 m'.A.e], .int .i64 code]) ∧ Below w.heap.size w w' ∧ IsM R m' ∧ MRows w' w.heap.size w'.heap.size m' := by
  refine (MSub_any w a b hA hB hT).mono ?_
  rintro e w' ⟨m', code', rfl, hBl, h⟩
  unfold subM at hR
  rcases h with ⟨rfl, hm, h⟩ | ⟨rfl, hm, ⟨j, hj, hn⟩, rfl⟩ | ⟨rfl, hn, rfl⟩
  · rw [if_pos hm, if_pos fun j hj => (h j hj).1] at hR
    injection hR with h1 h2
    subst h1 h2
    exact ⟨m', rfl, hBl, fun x hx => (h x hx).2.is, rows_res fun j hj => (h j hj).2⟩
  · rw [if_pos hm, if_neg fun k => hn (k j hj)] at hR
    injection hR with h1 h2
    subst h1 h2
    exact ⟨ZM, rfl, hBl, IsM.zero, ZM_rows ..⟩
  · rw [if_neg hn] at hR
    injection hR with h1 h2
    subst h1 h2
    exact ⟨ZM, rfl, hBl, IsM.zero, ZM_rows ..⟩
open Classical in
/-- What is kept and sent. -/
noncomputable def splitM (m : Mv) : ((Nat → Dn) × (Nat → Dn)) × Int :=
  if m.may then (if (halfX m.S.s m.S.xs m.S.e).2 = 0 ∧ (halfX m.W.s m.W.xs m.W.e).2 = 0 then
    ((fun x => if x = 0 then (halfX m.S.s m.S.xs m.S.e).1 else if x = 1 then (halfX m.W.s m.W.xs m.W.e).1 else dnM m x, fun x => if x = 0 then (halfX m.S.s m.S.xs m.S.e).1 else if x = 1 then (halfX m.W.s m.W.xs m.W.e).1 else Dn.zero), 0)
    else ((zR, zR), 10)) else ((zR, zR), 8)
theorem MSplit_num (w : World) (m : Mv) (hR : MRows w 0 w.heap.size m) (hT : Tab w) (kR sR : Nat → Dn) (code : Int) (hs : splitM m = ((kR, sR), code)) :
    Calls Tryd.prog 48 #[.agg #[.bool m.S.s, .slice m.S.A m.S.n m.S.c, .int .i64 m.S.e, .bool m.W.s, .slice m.W.A m.W.n m.W.c, .int .i64 m.W.e, .bool m.C.s, .slice m.C.A m.C.n m.C.c, .int .i64 m.C.e, .bool m.A.s, .slice m.A.A m.A.n m.A.c, .int .i64 m.A.e]] w fun e w' => ∃ k s : Mv, e = .returned (.tuple #[.agg #[.bool k.S.s, .slice k.S.A k.S.n k.S.c, .int .i64 k.S.e, .bool k.W.s, .slice k.W.A k.W.n k.W.c, .int .i64 k.W.e, .bool k.C.s, .slice k.C.A k.C.n k.C.c, .int .i64 k.C.e, .bool k.A.s, .slice k.A.A k.A.n k.A.c, .int .i64 k.A.e], .agg #[.bool s.S.s, .slice s.S.A s.S.n s.S.c, .int .i64 s.S.e, .bool s.W.s, .slice s.W.A s.W.n s.W.c, .int .i64 s.W.e, .bool s.C.s, .slice s.C.A s.C.n s.C.c, .int .i64 s.C.e, .bool s.A.s, .slice s.A.A s.A.n s.A.c, .int .i64 s.A.e], .int .i64 code]) ∧ Below w.heap.size w w' ∧
      (s.C = ZM.C ∧ s.A = ZM.A) ∧ IsM sR s ∧ IsM kR k ∧ ∃ B, w.heap.size ≤ B ∧ B ≤ w'.heap.size ∧ MRows w' w.heap.size B s ∧ MRows w' B w'.heap.size k := by
  unfold splitM at hs
  by_cases hm : m.may
  · rw [if_pos hm] at hs
    obtain ⟨r1, q1, e1⟩ : ∃ r q, halfX m.S.s m.S.xs m.S.e = (r, q) := ⟨_, _, rfl⟩
    obtain ⟨r2, q2, e2⟩ : ∃ r q, halfX m.W.s m.W.xs m.W.e = (r, q) := ⟨_, _, rfl⟩
    refine (MSplit_ok w m hR hm hT r1 r2 q1 q2 e1 e2).mono ?_
    rw [e1, e2] at hs
    rintro e w' ⟨k, s, code', rfl, hB, ⟨rfl, rfl, rfl, ⟨s1, s2, s3, s4⟩, ⟨k1, k2, k3, k4⟩, hb⟩ | ⟨rfl, hn, rfl, rfl⟩⟩
    · rw [if_pos ⟨rfl, rfl⟩] at hs
      injection hs with h1 h2
      injection h1 with h1 h3
      subst h1 h2 h3
      have hI := IsM.of hR hm
      refine ⟨k, s, rfl, hB, ⟨s3, s4⟩, four s1.is s2.is ?_ ?_, four k1.is k2.is ((hI 2 (by decide)).twin k3) ((hI 3 (by decide)).twin k4), hb⟩
      · show Is Dn.zero s.C
        rw [s3]
        exact Is.zero
      · show Is Dn.zero s.A
        rw [s4]
        exact Is.zero
    · rw [if_neg (by rintro ⟨h1, h2⟩; rcases hn with h | h; exact h h1; exact h h2)] at hs
      injection hs with h1 h2
      injection h1 with h1 h3
      subst h1 h2 h3
      exact ⟨ZM, ZM, rfl, hB, ⟨rfl, rfl⟩, IsM.zero, IsM.zero, w.heap.size, Nat.le_refl _, hB.size, ZM_rows .., ZM_rows ..⟩
  · rw [if_neg hm] at hs
    injection hs with h1 h2
    injection h1 with h1 h3
    subst h1 h2 h3
    refine (MSplit_bad w m hR hm).mono ?_
    rintro e w' ⟨k, s, code', rfl, hB, rfl, rfl, rfl⟩
    exact ⟨ZM, ZM, rfl, hB, ⟨rfl, rfl⟩, IsM.zero, IsM.zero, w.heap.size, Nat.le_refl _, hB.size, ZM_rows .., ZM_rows ..⟩
end Ma
end Go.Proofs.YtlbkepiflhchdaaDoor

namespace Go.Proofs.YtlbkepiflhchdaaDoor
open Go.RowKit
namespace Ma
open Dp Dy
theorem IsM.of_eq {R S : Nat → Dn} {m : Mv} (h : IsM R m) (he : ∀ x, x < 4 → S x = R x) : IsM S m := fun x hx => by rw [he x hx]; exact h x hx
theorem splitM_may {w : World} {lo hi : Nat} {m : Mv} (hR : MRows w lo hi m) {kR sR : Nat → Dn} {code : Int} (h : splitM m = ((kR, sR), code)) : MayR kR ∧ MayR sR := by
  unfold splitM at h
  split at h
  · rename_i hm
    split at h
    · injection h with h1 h2
      injection h1 with h1 h3
      subst h1 h3
      exact ⟨four (halfX_may ..) (halfX_may ..) (dnM_may hR hm 2 (by decide)) (dnM_may hR hm 3 (by decide)), four (halfX_may ..) (halfX_may ..) zero_may zero_may⟩
    · injection h with h1 h2
      injection h1 with h1 h3
      subst h1 h3
      exact ⟨zR_may, zR_may⟩
  · injection h with h1 h2
    injection h1 with h1 h3
    subst h1 h3
    exact ⟨zR_may, zR_may⟩
theorem split_codes {m : Mv} {kR sR : Nat → Dn} {code : Int} (h : splitM m = ((kR, sR), code)) : code = 0 ∨ (code = 8 ∧ ¬ m.may ∧ kR = zR ∧ sR = zR) ∨ (code = 10 ∧ m.may ∧ kR = zR ∧ sR = zR) := by
  unfold splitM at h
  split at h
  · rename_i hm
    split at h
    · injection h with h1 h2
      exact .inl h2.symm
    · injection h with h1 h2
      injection h1 with h1 h3
      exact .inr (.inr ⟨h2.symm, hm, h1.symm, h3.symm⟩)
  · rename_i hm
    injection h with h1 h2
    injection h1 with h1 h3
    exact .inr (.inl ⟨h2.symm, hm, h1.symm, h3.symm⟩)
/-- What is kept and what is sent are the whole. -/
theorem whole_law {w : World} {lo hi : Nat} {m k s : Mv} (hR : MRows w lo hi m) {kR sR : Nat → Dn} (h : splitM m = ((kR, sR), 0)) (hk : IsM kR k) (hs : IsM sR s) :
    ∃ T, addM k s = (T, 0) ∧ IsM T m ∧ kR 0 = sR 0 ∧ kR 1 = sR 1 := by
  obtain ⟨mk, ms⟩ := splitM_may hR h
  unfold splitM at h
  split at h
  · rename_i hm
    split at h
    · rename_i hc
      injection h with h1 h2
      injection h1 with h1 h3
      have hI := IsM.of hR hm
      have hM := dnM_may hR hm
      have a0 : halfD (dnM m 0) = halfX m.S.s m.S.xs m.S.e := ((hI 0 (by decide)).half (hM 0 (by decide))).symm
      have a1 : halfD (dnM m 1) = halfX m.W.s m.W.xs m.W.e := ((hI 1 (by decide)).half (hM 1 (by decide))).symm
      obtain ⟨T, e, hT⟩ := addM_of hk hs mk ms (T := dnM m) (by
        subst h1 h3
        refine four ?_ ?_ (add_zero (hM 2 (by decide))) (add_zero (hM 3 (by decide)))
        · have := (half_twice (hM 0 (by decide)) (by rw [a0]; exact hc.1)).1
          rw [a0] at this
          exact this
        · have := (half_twice (hM 1 (by decide)) (by rw [a1]; exact hc.2)).1
          rw [a1] at this
          exact this)
      refine ⟨T, e, hI.of_eq hT, ?_, ?_⟩ <;> (subst h1 h3; rfl)
    · injection h with h1 h2
      omega
  · injection h with h1 h2
    omega
theorem xAdd_comm (a b : Mv) (j : Nat) : xAdd a b j = xAdd b a j := by
  unfold xAdd addX
  by_cases hm : MayD (a.get j).s (a.get j).xs (a.get j).e ∧ MayD (b.get j).s (b.get j).xs (b.get j).e
  · rw [if_pos hm, if_pos ⟨hm.2, hm.1⟩, add_comm]
  · rw [if_neg hm, if_neg fun k => hm ⟨k.2, k.1⟩]
theorem addM_comm (a b : Mv) : addM a b = addM b a := by
  unfold addM
  simp only [xAdd_comm a b]
  by_cases h : a.may ∧ b.may
  · rw [if_pos h, if_pos (⟨h.2, h.1⟩ : b.may ∧ a.may)]
    by_cases hc : ∀ j, j < 4 → (xAdd b a j).2 = 0
    · rw [if_pos hc, if_pos hc]
    · rw [if_neg hc, if_neg hc]
  · rw [if_neg h, if_neg (fun k => h ⟨k.2, k.1⟩ : ¬ (b.may ∧ a.may))]
theorem addM_codes {a b : Mv} {R : Nat → Dn} {code : Int} (h : addM a b = (R, code)) : code = 0 ∨ (code = 8 ∧ ¬ (a.may ∧ b.may) ∧ R = zR) ∨ (code = 10 ∧ (a.may ∧ b.may) ∧ R = zR) := by
  unfold addM at h
  split at h
  · rename_i hm
    split at h
    · injection h with h1 h2
      exact .inl h2.symm
    · injection h with h1 h2
      exact .inr (.inr ⟨h2.symm, hm, h1.symm⟩)
  · rename_i hm
    injection h with h1 h2
    exact .inr (.inl ⟨h2.symm, hm, h1.symm⟩)
theorem addM_zero {a b : Mv} {R : Nat → Dn} (h : addM a b = (R, 0)) : a.may ∧ b.may ∧ ∀ j, j < 4 → xAdd a b j = (R j, 0) := by
  unfold addM at h
  split at h
  · rename_i hm
    split at h
    · rename_i hc
      injection h with h1 h2
      subst h1
      exact ⟨hm.1, hm.2, fun j hj => by rw [← hc j hj]⟩
    · injection h with h1 h2
      omega
  · injection h with h1 h2
    omega
/-- Differences undo sums. -/
theorem back_law {w : World} {lo hi lo' hi' : Nat} {a b x : Mv} (hA : MRows w lo hi a) (hB : MRows w lo' hi' b) {R : Nat → Dn} (h : addM a b = (R, 0)) (hx : IsM R x) :
    ∃ T, subM x b = (T, 0) ∧ IsM T a := by
  obtain ⟨ma, mb, hj⟩ := addM_zero h
  have mR : MayR R := by have := addM_may a b; rw [h] at this; exact this
  have ia := IsM.of hA ma
  have ib := IsM.of hB mb
  have ha := dnM_may hA ma
  have hb := dnM_may hB mb
  have key : ∀ j, j < 4 → xSub x b j = (dnM a j, 0) := fun j hj4 => by
    rw [hx.sub ib mR hb hj4]
    have e : addD (dnM a j) (dnM b j) = (R j, 0) := by rw [← ia.add ib ha hb hj4]; exact hj j hj4
    have := add_back (ha j hj4) (b := dnM b j) (by rw [e])
    rw [e] at this
    exact this
  refine ⟨fun j => (xSub x b j).1, ?_, fun j hj4 => by show Is (xSub x b j).1 _; rw [key j hj4]; exact ia j hj4⟩
  unfold subM
  rw [if_pos ⟨hx.may mR, mb⟩, if_pos fun j hj4 => by rw [key j hj4]]
end Ma
end Go.Proofs.YtlbkepiflhchdaaDoor

namespace Go.Proofs.YtlbkepiflhchdaaDoor
open Go.RowKit
namespace Ma
open Dp Dy
set_option maxHeartbeats 6400000 in
set_option maxRecDepth 100000 in
theorem MSeed_bad (w : World) (x : Int) (h : x < -2147483647 ∨ 2147483647 < x) (first : Bool) :
    Calls Tryd.prog 56 #[.int .i64 x, .bool first] w fun e w' => e = .returned (.tuple #[.agg #[.bool false, .slice none 0 0, .int .i64 0, .bool false, .slice none 0 0, .int .i64 0, .bool false, .slice none 0 0, .int .i64 0, .bool false, .slice none 0 0, .int .i64 0], .int .i64 2]) ∧ Below w.heap.size w w' := by
  generalize hw : w.alloc (.cells #[.bool false, .slice none 0 0, .int .i64 0, .bool false, .slice none 0 0, .int .i64 0, .bool false, .slice none 0 0, .int .i64 0, .bool false, .slice none 0 0, .int .i64 0] 39) = w1
  have hZ1 : MBox w1 w.heap.size ZM := by rw [← hw]; exact heap_alloc_last _ _
  have hb : Below w.heap.size w w1 := by rw [← hw]; exact (Below.refl _ w).alloc (Nat.le_refl _) _
  obtain ⟨⟨z0, z1, z2, z3, z4, z5, z6, z7, z8, z9, z10, z11⟩, zf⟩ := MBox.cells hZ1
  by_cases h1 : x < -2147483647
  all_goals
    try have h2 : 2147483647 < x := h.resolve_left h1
    clear h
    go_enter Tryd.func56, Tryd.ntmps56
    go_wp2
    try clear hw
    have hX : MBox ((((((((((((w1.setCell ⟨w.heap.size, 0, none⟩ (.bool false)).setCell ⟨w.heap.size, 1, none⟩ (.slice none 0 0)).setCell ⟨w.heap.size, 2, none⟩ (.int .i64 0)).setCell ⟨w.heap.size, 3, none⟩ (.bool false)).setCell ⟨w.heap.size, 4, none⟩ (.slice none 0 0)).setCell ⟨w.heap.size, 5, none⟩ (.int .i64 0)).setCell ⟨w.heap.size, 6, none⟩ (.bool false)).setCell ⟨w.heap.size, 7, none⟩ (.slice none 0 0)).setCell ⟨w.heap.size, 8, none⟩ (.int .i64 0)).setCell ⟨w.heap.size, 9, none⟩ (.bool false)).setCell ⟨w.heap.size, 10, none⟩ (.slice none 0 0)).setCell ⟨w.heap.size, 11, none⟩ (.int .i64 0)) (w.heap.size) ZM := MBox.all hZ1 ZM
    have hY : Below w.heap.size w ((((((((((((w1.setCell ⟨w.heap.size, 0, none⟩ (.bool false)).setCell ⟨w.heap.size, 1, none⟩ (.slice none 0 0)).setCell ⟨w.heap.size, 2, none⟩ (.int .i64 0)).setCell ⟨w.heap.size, 3, none⟩ (.bool false)).setCell ⟨w.heap.size, 4, none⟩ (.slice none 0 0)).setCell ⟨w.heap.size, 5, none⟩ (.int .i64 0)).setCell ⟨w.heap.size, 6, none⟩ (.bool false)).setCell ⟨w.heap.size, 7, none⟩ (.slice none 0 0)).setCell ⟨w.heap.size, 8, none⟩ (.int .i64 0)).setCell ⟨w.heap.size, 9, none⟩ (.bool false)).setCell ⟨w.heap.size, 10, none⟩ (.slice none 0 0)).setCell ⟨w.heap.size, 11, none⟩ (.int .i64 0)) := below_all hb (Nat.le_refl _) ZM
    clear z0 z1 z2 z3 z4 z5 z6 z7 z8 z9 z10 z11 zf hZ1 hb
    generalize ((((((((((((w1.setCell ⟨w.heap.size, 0, none⟩ (.bool false)).setCell ⟨w.heap.size, 1, none⟩ (.slice none 0 0)).setCell ⟨w.heap.size, 2, none⟩ (.int .i64 0)).setCell ⟨w.heap.size, 3, none⟩ (.bool false)).setCell ⟨w.heap.size, 4, none⟩ (.slice none 0 0)).setCell ⟨w.heap.size, 5, none⟩ (.int .i64 0)).setCell ⟨w.heap.size, 6, none⟩ (.bool false)).setCell ⟨w.heap.size, 7, none⟩ (.slice none 0 0)).setCell ⟨w.heap.size, 8, none⟩ (.int .i64 0)).setCell ⟨w.heap.size, 9, none⟩ (.bool false)).setCell ⟨w.heap.size, 10, none⟩ (.slice none 0 0)).setCell ⟨w.heap.size, 11, none⟩ (.int .i64 0)) = U at *
    obtain ⟨M, hMe⟩ : ∃ M : Mv, M = ZM := ⟨_, rfl⟩
    rw [← hMe] at hX
    obtain ⟨⟨k0, k1, k2, k3, k4, k5, k6, k7, k8, k9, k10, k11⟩, kf⟩ := MBox.cells hX
    refine bodyPost_ret (v := .tuple #[.agg #[.bool M.S.s, .slice M.S.A M.S.n M.S.c, .int .i64 M.S.e, .bool M.W.s, .slice M.W.A M.W.n M.W.c, .int .i64 M.W.e, .bool M.C.s, .slice M.C.A M.C.n M.C.c, .int .i64 M.C.e, .bool M.A.s, .slice M.A.A M.A.n M.A.c, .int .i64 M.A.e], .int .i64 2]) (by simp [results, Tryd.results56, go_sem, k0, k1, k2, k3, k4, k5, k6, k7, k8, k9, k10, k11]) rfl ⟨by rw [hMe]; rfl, hY⟩
end Ma
end Go.Proofs.YtlbkepiflhchdaaDoor

namespace Go.Proofs.YtlbkepiflhchdaaDoor
open Go.RowKit
namespace Ma
open Dp Dy
theorem MRows.on {w w' : World} {m : Mv} (h : MRows w 0 w.heap.size m) (hb : Below w.heap.size w w') : MRows w' 0 w'.heap.size m := (h.below hb (Nat.le_refl _)).more (Nat.le_refl _) hb.size
theorem hal1 : halfD ⟨false, 1, 0⟩ = (⟨false, 1, 1⟩, 0) := formed_of (K := 1) (may_small _ _ _ (by decide) (by decide) (by decide) (by decide)) (by decide) (by decide) (by decide)
theorem hal6 : halfD ⟨false, 6, 0⟩ = (⟨false, 3, 0⟩, 0) := formed_of (K := 1) (may_small _ _ _ (by decide) (by decide) (by decide) (by decide)) (by decide) (by decide) (by decide)
set_option maxHeartbeats 3200000 in
set_option maxRecDepth 100000 in
theorem half_any (w : World) (hT : Tab w) (r : Dn) (hr : r = ⟨false, 1, 1⟩) :
    Calls Tryd.prog 82 #[.int .i64 1] w fun e w' => ∃ A n c, e = .returned (.agg #[.bool r.neg, .slice A n c, .int .i64 r.e]) ∧ Below w.heap.size w w' ∧ Ints w' w.heap.size w'.heap.size .u32 A n (canon 4294967296 r.m) := by
  have HA : Hid (halfX false (canon 4294967296 1) 0 = (r, 0)) := Lib.hid (by
    have := Is.half (r := ⟨false, 1, 0⟩) (d := ⟨false, none, 0, 0, 0, canon 4294967296 1⟩) ⟨rfl, rfl, rfl⟩ (may_small _ _ _ (by decide) (by decide) (by decide) (by decide))
    rw [hr, ← hal1]
    exact this)
  clear hr
  generalize hw : w.alloc (.cells #[.bool false, .slice none 0 0, .int .i64 0] 24) = w1
  have X1 : w1.heap[w.heap.size]? = some (.cells #[.bool false, .slice none 0 0, .int .i64 0] 24 (0, 0)) := by rw [← hw]; exact heap_alloc_last _ _
  have hb : Below w.heap.size w w1 := by rw [← hw]; exact (Below.refl _ w).alloc (Nat.le_refl _) _
  have l1 : w.heap.size < w1.heap.size := by rw [← hw]; simp
  have tT := hT.below hb hT.lt
  go_enter Tryd.func82, Tryd.ntmps82
  go_wp2_with fail
  try clear hw
  refine (Of_any w1 1 (by decide) (by decide) false 1 rfl rfl).mono ?_
  rintro e w2 ⟨A1, n1, rfl, hB, hI⟩
  have l2 := hB.size
  have I1 := ints_all hI
  replace X1 := (hB.block _ l1).trans X1
  replace hb := hb.trans (hB.mono (by omega))
  replace tT := tT.below hB tT.lt
  clear hB hI
  go_wp2_with fail
  refine (Half_all w2 false A1 n1 n1 (canon 4294967296 1) 0 I1 tT r 0 HA.out).mono ?_
  rintro e w3 ⟨A3, n3, c3, rfl, hc3, hB, hI⟩
  have l3 := hB.size
  replace X1 := (hB.block _ (by omega)).trans X1
  replace hb := hb.trans (hB.mono (by omega))
  clear hB
  have hBL := (Below.refl w3.heap.size w3).alloc (Nat.le_refl _) (.cells #[.bool r.neg, .slice A3 n3 c3, .int .i64 r.e] 24)
  have X4 := heap_alloc_last w3 (.cells #[.bool r.neg, .slice A3 n3 c3, .int .i64 r.e] 24)
  have I4 := hI.below hBL (Nat.le_refl _)
  have l4 := hBL.size
  replace X1 := (hBL.block _ (by omega)).trans X1
  replace hb := hb.trans (hBL.mono (by omega))
  generalize hw4 : w3.alloc (.cells #[.bool r.neg, .slice A3 n3 c3, .int .i64 r.e] 24) = w4 at *
  clear hBL hI
  obtain ⟨⟨p0, p1, p2⟩, p3, p4, p5⟩ := boxD X4
  obtain ⟨⟨q0, q1, q2⟩, q3, q4, q5⟩ := boxD X1
  go_wp2
  clear p0 p1 p2 p3 p4 p5 q0 q1 q2 q3 q4 q5
  have X5 := box_put X1 (.bool r.neg) (.slice A3 n3 c3) (.int .i64 r.e)
  have b5 := below_put hb (g := w.heap.size) (Nat.le_refl _) (.bool r.neg) (.slice A3 n3 c3) (.int .i64 r.e)
  have I5 := ints_put I4 (g := w.heap.size) (.inl (by omega)) (.bool r.neg) (.slice A3 n3 c3) (.int .i64 r.e)
  have s5 := size_put (w := w4) (g := w.heap.size) (.bool r.neg) (.slice A3 n3 c3) (.int .i64 r.e)
  obtain ⟨⟨q0, q1, q2⟩, q3, q4, q5⟩ := boxD X5
  refine bodyPost_ret (v := .agg #[.bool r.neg, .slice A3 n3 c3, .int .i64 r.e]) (by simp [results, Tryd.results82, go_sem, q0, q1, q2]) rfl ⟨A3, n3, c3, rfl, b5, I5.more (by omega) (by omega)⟩
def aR (j : Nat) : Dn := match j with
  | 0 => ⟨false, 6, 0⟩
  | 1 => ⟨false, 1, 0⟩
  | 2 => ⟨false, 1, 0⟩
  | _ => ⟨false, 6, 0⟩
theorem aR_may : MayR aR := four (may_small _ _ _ (by decide) (by decide) (by decide) (by decide)) (may_small _ _ _ (by decide) (by decide) (by decide) (by decide)) (may_small _ _ _ (by decide) (by decide) (by decide) (by decide)) (may_small _ _ _ (by decide) (by decide) (by decide) (by decide))
/-- The chapter's example, split. -/
theorem ASplit (w : World) (m : Mv) (hR : MRows w 0 w.heap.size m) (hT : Tab w) (h : IsM aR m) :
    Calls Tryd.prog 48 #[.agg #[.bool m.S.s, .slice m.S.A m.S.n m.S.c, .int .i64 m.S.e, .bool m.W.s, .slice m.W.A m.W.n m.W.c, .int .i64 m.W.e, .bool m.C.s, .slice m.C.A m.C.n m.C.c, .int .i64 m.C.e, .bool m.A.s, .slice m.A.A m.A.n m.A.c, .int .i64 m.A.e]] w fun e w' => ∃ k s : Mv, e = .returned (.tuple #[.agg #[.bool k.S.s, .slice k.S.A k.S.n k.S.c, .int .i64 k.S.e, .bool k.W.s, .slice k.W.A k.W.n k.W.c, .int .i64 k.W.e, .bool k.C.s, .slice k.C.A k.C.n k.C.c, .int .i64 k.C.e, .bool k.A.s, .slice k.A.A k.A.n k.A.c, .int .i64 k.A.e], .agg #[.bool s.S.s, .slice s.S.A s.S.n s.S.c, .int .i64 s.S.e, .bool s.W.s, .slice s.W.A s.W.n s.W.c, .int .i64 s.W.e, .bool s.C.s, .slice s.C.A s.C.n s.C.c, .int .i64 s.C.e, .bool s.A.s, .slice s.A.A s.A.n s.A.c, .int .i64 s.A.e], .int .i64 0]) ∧ Below w.heap.size w w' ∧
      IsM (fun x => if x = 0 then ⟨false, 3, 0⟩ else if x = 1 then ⟨false, 1, 1⟩ else aR x) k ∧ IsM (fun x => if x = 0 then ⟨false, 3, 0⟩ else if x = 1 then ⟨false, 1, 1⟩ else Dn.zero) s ∧ MRows w' 0 w'.heap.size k ∧ MRows w' 0 w'.heap.size s := by
  have e1 : halfX m.S.s m.S.xs m.S.e = (⟨false, 3, 0⟩, 0) := ((h 0 (by decide)).half (aR_may 0 (by decide))).trans hal6
  have e2 : halfX m.W.s m.W.xs m.W.e = (⟨false, 1, 1⟩, 0) := ((h 1 (by decide)).half (aR_may 1 (by decide))).trans hal1
  have hm := h.may aR_may
  obtain ⟨kR, sR, code, hs⟩ : ∃ kR sR code, splitM m = ((kR, sR), code) := ⟨_, _, _, rfl⟩
  refine (MSplit_num w m hR hT kR sR code hs).mono ?_
  rintro e w' ⟨k, s, rfl, hB, _, hs', hk', B, l1, l2, r1, r2⟩
  unfold splitM at hs
  rw [if_pos hm, e1, e2, if_pos ⟨rfl, rfl⟩] at hs
  injection hs with h1 h2
  injection h1 with h1 h3
  subst h1 h2 h3
  have hI := IsM.of hR hm
  have hd : ∀ x, x < 4 → aR x = dnM m x := fun x hx => by
    have a := h x hx
    have : dn (m.get x).s (m.get x).xs (m.get x).e = aR x := by rw [a.1, a.2.1, a.2.2, dn_of]
    exact this.symm
  exact ⟨k, s, rfl, hB, hk'.of_eq (four rfl rfl (hd 2 (by decide)) (hd 3 (by decide))), hs'.of_eq (four rfl rfl rfl rfl), r2.more (Nat.zero_le _) (Nat.le_refl _), r1.more (Nat.zero_le _) l2⟩

end Ma
end Go.Proofs.YtlbkepiflhchdaaDoor
