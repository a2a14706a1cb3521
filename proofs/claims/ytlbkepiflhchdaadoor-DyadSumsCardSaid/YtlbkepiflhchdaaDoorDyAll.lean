/- What is reckoned with dyads, whatever they are: contracts. -/
import Derived.Test.YtlbkepiflhchdaaDoorDyHalves
namespace Go.Proofs.YtlbkepiflhchdaaDoor
open Go.RowKit
namespace Dy
open Dp
open Classical in
noncomputable def addX (s1 : Bool) (xs1 : List Int) (e1 : Int) (s2 : Bool) (xs2 : List Int) (e2 : Int) : Dn × Int := if MayD s1 xs1 e1 ∧ MayD s2 xs2 e2 then addD (dn s1 xs1 e1) (dn s2 xs2 e2) else (Dn.zero, 8)
open Classical in
noncomputable def subX (s1 : Bool) (xs1 : List Int) (e1 : Int) (s2 : Bool) (xs2 : List Int) (e2 : Int) : Dn × Int := if MayD s1 xs1 e1 ∧ MayD s2 xs2 e2 then subD (dn s1 xs1 e1) (dn s2 xs2 e2) else (Dn.zero, 8)
open Classical in
noncomputable def halfX (s1 : Bool) (xs1 : List Int) (e1 : Int) : Dn × Int := if MayD s1 xs1 e1 then halfD (dn s1 xs1 e1) else (Dn.zero, 8)
open Classical in
noncomputable def chkX (s1 : Bool) (xs1 : List Int) (e1 : Int) : Int := if MayD s1 xs1 e1 then 0 else 8
theorem bad_formed {w : World} {e : Ending} {w' : World} (h : Bad w e w') : Formed w Dn.zero 8 e w' := ⟨none, 0, 0, h.1, Nat.le_refl _, h.2, Ints.nil_ ..⟩
theorem addX_ok {s1 s2 : Bool} {xs1 xs2 : List Int} {e1 e2 : Int} (h1 : MayD s1 xs1 e1) (h2 : MayD s2 xs2 e2) : addX s1 xs1 e1 s2 xs2 e2 = addD (dn s1 xs1 e1) (dn s2 xs2 e2) := if_pos ⟨h1, h2⟩
theorem subX_ok {s1 s2 : Bool} {xs1 xs2 : List Int} {e1 e2 : Int} (h1 : MayD s1 xs1 e1) (h2 : MayD s2 xs2 e2) : subX s1 xs1 e1 s2 xs2 e2 = subD (dn s1 xs1 e1) (dn s2 xs2 e2) := if_pos ⟨h1, h2⟩
theorem halfX_ok {s1 : Bool} {xs1 : List Int} {e1 : Int} (h1 : MayD s1 xs1 e1) : halfX s1 xs1 e1 = halfD (dn s1 xs1 e1) := if_pos h1
theorem addX_may (s1 : Bool) (xs1 : List Int) (e1 : Int) (s2 : Bool) (xs2 : List Int) (e2 : Int) : (addX s1 xs1 e1 s2 xs2 e2).1.May := by
  unfold addX
  split
  · exact add_may ..
  · exact zero_may
theorem subX_may (s1 : Bool) (xs1 : List Int) (e1 : Int) (s2 : Bool) (xs2 : List Int) (e2 : Int) : (subX s1 xs1 e1 s2 xs2 e2).1.May := by
  unfold subX
  split
  · exact sub_may ..
  · exact zero_may
theorem halfX_may (s1 : Bool) (xs1 : List Int) (e1 : Int) : (halfX s1 xs1 e1).1.May := by
  unfold halfX
  split
  · exact half_may ..
  · exact zero_may
theorem addX_code {s1 s2 : Bool} {xs1 xs2 : List Int} {e1 e2 : Int} {r : Dn} {c : Int} (h : addX s1 xs1 e1 s2 xs2 e2 = (r, c)) : (c = 0 ∧ MayD s1 xs1 e1 ∧ MayD s2 xs2 e2) ∨ (c ≠ 0 ∧ r = Dn.zero) := by
  unfold addX at h
  split at h
  · rename_i hm
    rcases add_cases (dn s1 xs1 e1) (dn s2 xs2 e2) with k | k
    · rw [h] at k
      exact .inl ⟨k, hm⟩
    · rw [h] at k
      injection k with k1 k2
      exact .inr ⟨by omega, k1⟩
  · injection h with h1 h2
    exact .inr ⟨by omega, h1.symm⟩
theorem Add_all (w : World) (s1 s2 : Bool) (A1 A2 : Option Addr) (n1 c1 n2 c2 : Nat) (xs1 xs2 : List Int) (e1 e2 : Int) (h1 : Ints w 0 w.heap.size .u32 A1 n1 xs1) (h2 : Ints w 0 w.heap.size .u32 A2 n2 xs2) (hT : Tab w) (r : Dn) (code : Int) (h : addX s1 xs1 e1 s2 xs2 e2 = (r, code)) :
    Calls Tryd.prog 20 #[.agg #[.bool s1, .slice A1 n1 c1, .int .i64 e1], .agg #[.bool s2, .slice A2 n2 c2, .int .i64 e2]] w (Formed w r code) := by
  unfold addX at h
  split at h
  · rename_i hm
    exact Add_raw w s1 s2 A1 A2 n1 c1 n2 c2 xs1 xs2 e1 e2 h1 h2 hm.1 hm.2 hT r code h
  · rename_i hm
    injection h with h3 h4
    subst h3 h4
    exact (Add_bad w s1 s2 A1 A2 n1 c1 n2 c2 xs1 xs2 e1 e2 h1 h2 (Classical.not_and_iff_not_or_not.1 hm)).mono fun _ _ k => bad_formed k
theorem Sub_all (w : World) (s1 s2 : Bool) (A1 A2 : Option Addr) (n1 c1 n2 c2 : Nat) (xs1 xs2 : List Int) (e1 e2 : Int) (h1 : Ints w 0 w.heap.size .u32 A1 n1 xs1) (h2 : Ints w 0 w.heap.size .u32 A2 n2 xs2) (hT : Tab w) (r : Dn) (code : Int) (h : subX s1 xs1 e1 s2 xs2 e2 = (r, code)) :
    Calls Tryd.prog 22 #[.agg #[.bool s1, .slice A1 n1 c1, .int .i64 e1], .agg #[.bool s2, .slice A2 n2 c2, .int .i64 e2]] w (Formed w r code) := by
  unfold subX at h
  split at h
  · rename_i hm
    exact Sub_raw w s1 s2 A1 A2 n1 c1 n2 c2 xs1 xs2 e1 e2 h1 h2 hm.1 hm.2 hT r code h
  · rename_i hm
    injection h with h3 h4
    subst h3 h4
    exact (Sub_bad w s1 s2 A1 A2 n1 c1 n2 c2 xs1 xs2 e1 e2 h1 h2 (Classical.not_and_iff_not_or_not.1 hm)).mono fun _ _ k => bad_formed k
theorem Half_all (w : World) (s1 : Bool) (A1 : Option Addr) (n1 c1 : Nat) (xs1 : List Int) (e1 : Int) (h1 : Ints w 0 w.heap.size .u32 A1 n1 xs1) (hT : Tab w) (r : Dn) (code : Int) (h : halfX s1 xs1 e1 = (r, code)) :
    Calls Tryd.prog 24 #[.agg #[.bool s1, .slice A1 n1 c1, .int .i64 e1]] w (Formed w r code) := by
  unfold halfX at h
  split at h
  · rename_i hm
    exact Half_raw w s1 A1 n1 c1 xs1 e1 h1 hm hT r code h
  · rename_i hm
    injection h with h3 h4
    subst h3 h4
    exact (Half_bad w s1 A1 n1 c1 xs1 e1 h1 hm).mono fun _ _ k => bad_formed k
theorem Check_all (w : World) (s1 : Bool) (A1 : Option Addr) (n1 c1 : Nat) (xs1 : List Int) (e1 : Int) (h1 : Ints w 0 w.heap.size .u32 A1 n1 xs1) (k : Int) (h : chkX s1 xs1 e1 = k) :
    Calls Tryd.prog 35 #[.agg #[.bool s1, .slice A1 n1 c1, .int .i64 e1]] w fun e w' => e = .returned (.int .i64 k) ∧ Below w.heap.size w w' := by
  unfold chkX at h
  split at h
  · subst h
    exact Check_ok w 0 w.heap.size s1 A1 n1 c1 xs1 e1 h1 (Nat.le_refl _) (by assumption)
  · subst h
    exact Check_bad w 0 w.heap.size s1 A1 n1 c1 xs1 e1 h1 (Nat.le_refl _) (by assumption)
theorem same_raw {s : Bool} {xs : List Int} {e : Int} (d : Dig 4294967296 xs) (m : MayD s xs e) {b : Dn} (h : b = dn s xs e) : Pa.Dy.same ⟨b.neg, canon 4294967296 b.m, b.e⟩ ⟨s, xs, e⟩ = true := by
  subst h
  obtain ⟨_, h2, h3⟩ := dn_ok d m
  rw [h2, h3]
  exact Pa.Dy.same_refl _
/-- The law of DyadGroup. -/
theorem group_law {s1 s2 s3 : Bool} {xs1 xs2 xs3 : List Int} {e1 e2 e3 : Int} (d1 : Dig 4294967296 xs1) (_d2 : Dig 4294967296 xs2) {x y back p q r : Dn} {e f g h i j : Int}
    (hx : addX s1 xs1 e1 s2 xs2 e2 = (x, e)) (hy : addX s2 xs2 e2 s1 xs1 e1 = (y, f)) (hb : subX x.neg (canon 4294967296 x.m) x.e s2 xs2 e2 = (back, g))
    (hp : addX x.neg (canon 4294967296 x.m) x.e s3 xs3 e3 = (p, h)) (hq : addX s2 xs2 e2 s3 xs3 e3 = (q, i)) (hr : addX s1 xs1 e1 q.neg (canon 4294967296 q.m) q.e = (r, j)) :
    x = y ∧ e = f ∧ (e = 0 → g = 0 ∧ back = dn s1 xs1 e1 ∧ MayD s1 xs1 e1) ∧ (e = 0 → h = 0 → i = 0 → j = 0 ∧ p = r) := by
  have hxy : (x, e) = (y, f) := by
    rw [← hx, ← hy]
    unfold addX
    by_cases hm : MayD s1 xs1 e1 ∧ MayD s2 xs2 e2
    · rw [if_pos hm, if_pos ⟨hm.2, hm.1⟩, add_comm]
    · rw [if_neg hm, if_neg fun k => hm ⟨k.2, k.1⟩]
  injection hxy with k1 k2
  have hxm : x.May := by have := addX_may s1 xs1 e1 s2 xs2 e2; rw [hx] at this; exact this
  have hqm : q.May := by have := addX_may s2 xs2 e2 s3 xs3 e3; rw [hq] at this; exact this
  refine ⟨k1, k2, fun h0 => ?_, fun h0 h1 h2 => ?_⟩
  · subst h0
    rcases addX_code hx with ⟨_, m1, m2⟩ | ⟨hc, _⟩
    · rw [addX_ok m1 m2] at hx
      rw [subX_ok (dn_may hxm) m2, dn_of] at hb
      have hback := add_back (dn_ok d1 m1).1 (b := dn s2 xs2 e2) (by rw [hx])
      rw [hx] at hback
      simp only at hback
      rw [hback] at hb
      injection hb with q1 q2
      exact ⟨q2.symm, q1.symm, m1⟩
    · exact absurd rfl hc
  · subst h0 h1 h2
    rcases addX_code hx with ⟨_, m1, m2⟩ | ⟨hc, _⟩
    · rcases addX_code hp with ⟨_, _, m3⟩ | ⟨hc, _⟩
      · rw [addX_ok m1 m2] at hx
        rw [addX_ok (dn_may hxm) m3, dn_of] at hp
        rw [addX_ok m2 m3] at hq
        rw [addX_ok m1 (dn_may hqm), dn_of] at hr
        have := add_assoc hx hp hq
        rw [this] at hr
        injection hr with q1 q2
        exact ⟨q2.symm, q1⟩
      · exact absurd rfl hc
    · exact absurd rfl hc
end Dy
end Go.Proofs.YtlbkepiflhchdaaDoor
