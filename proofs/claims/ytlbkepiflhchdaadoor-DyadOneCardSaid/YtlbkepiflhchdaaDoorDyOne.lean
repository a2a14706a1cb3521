/- The law DyadOne: a walk (printed by a program of mine). -/
import Derived.Test.YtlbkepiflhchdaaDoorDyCmpX
namespace Go.Proofs.YtlbkepiflhchdaaDoor
open Go.RowKit
namespace Dy
open Dp
theorem same_raw2 {s t : Bool} {xs ys : List Int} {e f : Int} (d1 : Dig 4294967296 xs) (m1 : MayD s xs e) (d2 : Dig 4294967296 ys) (m2 : MayD t ys f) : Pa.Dy.same ⟨s, xs, e⟩ ⟨t, ys, f⟩ = decide (cmpD (dn s xs e) (dn t ys f) = 0) := by
  obtain ⟨y1, h2, h3⟩ := dn_ok d1 m1
  obtain ⟨y2, k2, k3⟩ := dn_ok d2 m2
  have := same_dn (dn s xs e) (dn t ys f)
  rw [h2, h3, k2, k3] at this
  have h4 : (dn s xs e).neg = s := rfl
  have h5 : (dn t ys f).neg = t := rfl
  rw [h4, h5] at this
  rw [this]
  exact decide_eq_decide.2 (cmp_zero y1 y2).symm
theorem cmp_three (a b : Dn) : cmpD a b = -1 ∨ cmpD a b = 0 ∨ cmpD a b = 1 := by
  have := cmp_spec a b (K := max a.e b.e) (by omega) (by omega)
  omega
theorem chk_may {s : Bool} {xs : List Int} {e : Int} (h : MayD s xs e) : chkX s xs e = 0 := if_pos h
theorem chk_not {s : Bool} {xs : List Int} {e : Int} (h : ¬ MayD s xs e) : chkX s xs e = 8 := if_neg h
theorem len_zero {w : World} {lo hi : Nat} {A : Option Addr} {n m : Nat} (h : Ints w lo hi .u32 A n (canon 4294967296 m)) (h0 : m = 0) : n = 0 := by
  have := canon_len0 h
  rw [h0] at this
  simpa using this
theorem len_some {w : World} {lo hi : Nat} {A : Option Addr} {n m : Nat} (h : Ints w lo hi .u32 A n (canon 4294967296 m)) (h0 : m ≠ 0) : ((n : Int) == 0) = false := by
  have := canon_len0 h
  simp [h0] at this
  simp
  exact this
set_option maxHeartbeats 12800000 in
set_option maxRecDepth 100000 in
theorem one_walk (w : World) (s1 : Bool) (A1 : Option Addr) (n1 c1 : Nat) (xs1 : List Int) (e1 : Int) (I1 : Ints w 0 w.heap.size .u32 A1 n1 xs1) (s2 : Bool) (A2 : Option Addr) (n2 c2 : Nat) (xs2 : List Int) (e2 : Int) (I2 : Ints w 0 w.heap.size .u32 A2 n2 xs2) (hT : Tab w) :
    Calls Tryd.prog 8 #[.agg #[.bool s1, .slice A1 n1 c1, .int .i64 e1], .agg #[.bool s2, .slice A2 n2 c2, .int .i64 e2]] w (Yes w) := by
  have d1 := Lib.hid (dig_ints I1)
  have d2 := Lib.hid (dig_ints I2)
  have l1 := Lib.hid I1.len
  have l2 := Lib.hid I2.len
  generalize hw : (w.alloc (.cells #[.bool s1, .slice A1 n1 c1, .int .i64 e1] 24)).alloc (.cells #[.bool s2, .slice A2 n2 c2, .int .i64 e2] 24) = w1
  have a1 : Amid w w1 := by rw [← hw]; exact (Amid.alloc ⟨Below.refl _ _, hT⟩ _).alloc _
  have sz : w1.heap.size = w.heap.size + 2 := by rw [← hw]; simp
  have B1 : w1.heap[w.heap.size]? = some (.cells #[.bool s1, .slice A1 n1 c1, .int .i64 e1] 24 (0, 0)) := by
    rw [← hw, Below.heap_alloc _ _ _ (by simp)]
    exact heap_alloc_last _ _
  have B2 : w1.heap[w.heap.size + 1]? = some (.cells #[.bool s2, .slice A2 n2 c2, .int .i64 e2] 24 (0, 0)) := by
    rw [← hw]
    exact heap_alloc2_new _ _ _
  have S1 : w.heap.size < w1.heap.size := by omega
  have S2 : w.heap.size + 1 < w1.heap.size := by omega
  replace I1 : Ints w1 0 w1.heap.size .u32 A1 n1 xs1 := (I1.below a1.below (Nat.le_refl _)).more (Nat.le_refl _) (by omega)
  replace I2 : Ints w1 0 w1.heap.size .u32 A2 n2 xs2 := (I2.below a1.below (Nat.le_refl _)).more (Nat.le_refl _) (by omega)
  clear sz
  go_enter Tryd.func8, Tryd.ntmps8
  go_wp2_with fail
  refine (alive_any w1 a1.tab).mono ?_
  rintro e' w2 ⟨rfl, hB⟩
  have a2 := a1.on hB
  replace B1 := boxOn B1 hB S1
  replace S1 := Nat.lt_of_lt_of_le S1 hB.size
  replace B2 := boxOn B2 hB S2
  replace S2 := Nat.lt_of_lt_of_le S2 hB.size
  replace I1 := ints_on I1 hB
  replace I2 := ints_on I2 hB
  try clear hw
  clear hB a1
  obtain ⟨⟨p1, q1, r1⟩, u1, v1, x1⟩ := boxD B1
  go_wp2_with fail
  obtain ⟨gr1, hgr1⟩ : ∃ gr, Pa.Dy.great ⟨s1, xs1, e1⟩ = gr := ⟨_, rfl⟩
  refine (Pa.rGreat_any w2 s1 A1 n1 c1 xs1 e1 l1.out gr1 hgr1).mono ?_
  rintro e' w3 ⟨rfl, hB⟩
  have a3 := a2.on hB
  replace B1 := boxOn B1 hB S1
  replace S1 := Nat.lt_of_lt_of_le S1 hB.size
  replace B2 := boxOn B2 hB S2
  replace S2 := Nat.lt_of_lt_of_le S2 hB.size
  replace I1 := ints_on I1 hB
  replace I2 := ints_on I2 hB
  clear p1 q1 r1 u1 v1 x1
  try clear hw
  clear hB a2
  clear hgr1
  cases gr1
  rotate_left
  · go_wp2
    go_ret
    exact ⟨rfl, a3.below⟩
  obtain ⟨⟨p2, q2, r2⟩, u2, v2, x2⟩ := boxD B2
  go_wp2_with fail
  obtain ⟨gr2, hgr2⟩ : ∃ gr, Pa.Dy.great ⟨s2, xs2, e2⟩ = gr := ⟨_, rfl⟩
  refine (Pa.rGreat_any w3 s2 A2 n2 c2 xs2 e2 l2.out gr2 hgr2).mono ?_
  rintro e' w4 ⟨rfl, hB⟩
  have a4 := a3.on hB
  replace B1 := boxOn B1 hB S1
  replace S1 := Nat.lt_of_lt_of_le S1 hB.size
  replace B2 := boxOn B2 hB S2
  replace S2 := Nat.lt_of_lt_of_le S2 hB.size
  replace I1 := ints_on I1 hB
  replace I2 := ints_on I2 hB
  clear p2 q2 r2 u2 v2 x2
  try clear hw
  clear hB a3
  clear hgr2
  cases gr2
  rotate_left
  · go_wp2
    go_ret
    exact ⟨rfl, a4.below⟩
  by_cases m1 : MayD s1 xs1 e1
  · by_cases m2 : MayD s2 xs2 e2
    · have hc0 : cmpX s1 xs1 e1 s2 xs2 e2 = (cmpD (dn s1 xs1 e1) (dn s2 xs2 e2), 0) := if_pos ⟨m1, m2⟩
      have hc1 : cmpX s2 xs2 e2 s1 xs1 e1 = (cmpD (dn s2 xs2 e2) (dn s1 xs1 e1), 0) := if_pos ⟨m2, m1⟩
      rw [cmp_swap] at hc1
      have hsm := same_raw2 d1.out m1 d2.out m2
      have hs0 := subX_ok m1 m2
      obtain ⟨r, g, hs⟩ : ∃ r g, subX s1 xs1 e1 s2 xs2 e2 = (r, g) := ⟨_, _, rfl⟩
      have hg : g = 0 ∨ g = 10 := by
        rcases sub_cases (dn s1 xs1 e1) (dn s2 xs2 e2) with k | k
        · rw [← hs0, hs] at k
          exact .inl k
        · rw [← hs0, hs] at k
          exact .inr (congrArg Prod.snd k)
      have hrm : r.May := by have := subX_may s1 xs1 e1 s2 xs2 e2; rw [hs] at this; exact this
      have hsg : g = 0 → r.neg = decide (cmpD (dn s1 xs1 e1) (dn s2 xs2 e2) < 0) ∧ (decide (r.m = 0)) = decide (cmpD (dn s1 xs1 e1) (dn s2 xs2 e2) = 0) := fun h0 => by
        have := sub_sign (a := dn s1 xs1 e1) (b := dn s2 xs2 e2) (by rw [← hs0, hs]; exact h0)
        rw [← hs0, hs] at this
        exact this
      have h3 := cmp_three (dn s1 xs1 e1) (dn s2 xs2 e2)
      generalize cmpD (dn s1 xs1 e1) (dn s2 xs2 e2) = z at *
      have HS := Lib.hid hs
      have HRM := Lib.hid (dn_may hrm)
      clear hs0 hs hrm
      rcases h3 with rfl | rfl | rfl
      · rcases hg with rfl | rfl
        · have HC0 := Lib.hid hc0
          have HC1 := Lib.hid hc1
          have HSM := Lib.hid hsm
          clear hc0 hc1 hsm m1 m2
          obtain ⟨g1, g2⟩ := hsg rfl
          have hneg : r.neg = true := by rw [g1]; rfl
          have hm0 : r.m ≠ 0 := by simpa using g2
          have HM0 := Lib.hid hm0
          clear g1 g2 hm0 hsg
          obtain ⟨⟨p1, q1, r1⟩, u1, v1, x1⟩ := boxD B1
          obtain ⟨⟨p2, q2, r2⟩, u2, v2, x2⟩ := boxD B2
          go_wp2_with fail
          refine (Cmp_all w4 s1 s2 A1 A2 n1 c1 n2 c2 xs1 xs2 e1 e2 I1 I2 a4.tab (-1) 0 HC0.out).mono ?_
          rintro e' w5 ⟨rfl, hB⟩
          have a5 := a4.on hB
          replace B1 := boxOn B1 hB S1
          replace S1 := Nat.lt_of_lt_of_le S1 hB.size
          replace B2 := boxOn B2 hB S2
          replace S2 := Nat.lt_of_lt_of_le S2 hB.size
          replace I1 := ints_on I1 hB
          replace I2 := ints_on I2 hB
          clear p1 q1 r1 u1 v1 x1 p2 q2 r2 u2 v2 x2
          try clear hw
          clear hB a4
          obtain ⟨⟨p1, q1, r1⟩, u1, v1, x1⟩ := boxD B1
          obtain ⟨⟨p2, q2, r2⟩, u2, v2, x2⟩ := boxD B2
          go_wp2_with fail
          refine (Cmp_all w5 s2 s1 A2 A1 n2 c2 n1 c1 xs2 xs1 e2 e1 I2 I1 a5.tab (-(-1)) 0 HC1.out).mono ?_
          rintro e' w6 ⟨rfl, hB⟩
          have a6 := a5.on hB
          replace B1 := boxOn B1 hB S1
          replace S1 := Nat.lt_of_lt_of_le S1 hB.size
          replace B2 := boxOn B2 hB S2
          replace S2 := Nat.lt_of_lt_of_le S2 hB.size
          replace I1 := ints_on I1 hB
          replace I2 := ints_on I2 hB
          clear p1 q1 r1 u1 v1 x1 p2 q2 r2 u2 v2 x2
          try clear hw
          clear hB a5
          obtain ⟨⟨p1, q1, r1⟩, u1, v1, x1⟩ := boxD B1
          obtain ⟨⟨p2, q2, r2⟩, u2, v2, x2⟩ := boxD B2
          go_wp2_with fail
          refine (Sub_all w6 s1 s2 A1 A2 n1 c1 n2 c2 xs1 xs2 e1 e2 I1 I2 a6.tab r 0 HS.out).mono ?_
          rintro e' w7 ⟨G3, m3, o3, rfl, hc3, hB, hI⟩
          have a7 := a6.on hB
          replace B1 := boxOn B1 hB S1
          replace S1 := Nat.lt_of_lt_of_le S1 hB.size
          replace B2 := boxOn B2 hB S2
          replace S2 := Nat.lt_of_lt_of_le S2 hB.size
          replace I1 := ints_on I1 hB
          replace I2 := ints_on I2 hB
          have I3 := ints_all hI
          clear p1 q1 r1 u1 v1 x1 p2 q2 r2 u2 v2 x2
          try clear hw
          clear hB a6 hI
          have HLN := Lib.hid (len_some I3 HM0.out)
          simp only [hneg]
          have hB := (Below.refl w7.heap.size w7).alloc (Nat.le_refl _) (.cells #[.bool true, .slice G3 m3 o3, .int .i64 r.e] 24)
          have B3 := heap_alloc_last w7 (.cells #[.bool true, .slice G3 m3 o3, .int .i64 r.e] 24)
          have S3 : w7.heap.size < (w7.alloc (.cells #[.bool true, .slice G3 m3 o3, .int .i64 r.e] 24)).heap.size := by simp
          have a8 := a7.on hB
          replace B1 := boxOn B1 hB S1
          replace S1 := Nat.lt_of_lt_of_le S1 hB.size
          replace B2 := boxOn B2 hB S2
          replace S2 := Nat.lt_of_lt_of_le S2 hB.size
          replace I1 := ints_on I1 hB
          replace I2 := ints_on I2 hB
          replace I3 := ints_on I3 hB
          generalize hw : (w7.alloc (.cells #[.bool true, .slice G3 m3 o3, .int .i64 r.e] 24)) = w8 at *
          clear hB a7
          obtain ⟨⟨p1, q1, r1⟩, u1, v1, x1⟩ := boxD B1
          obtain ⟨⟨p2, q2, r2⟩, u2, v2, x2⟩ := boxD B2
          go_wp2_with fail
          refine (Pa.dyadSame_any w8 _ _ _ _ _ _ _ _ _ _ _ _ I1 I2 false HSM.out).mono ?_
          rintro e' w9 ⟨rfl, hB⟩
          have a9 := a8.on hB
          replace B1 := boxOn B1 hB S1
          replace S1 := Nat.lt_of_lt_of_le S1 hB.size
          replace B2 := boxOn B2 hB S2
          replace S2 := Nat.lt_of_lt_of_le S2 hB.size
          replace B3 := boxOn B3 hB S3
          replace S3 := Nat.lt_of_lt_of_le S3 hB.size
          replace I1 := ints_on I1 hB
          replace I2 := ints_on I2 hB
          replace I3 := ints_on I3 hB
          clear p1 q1 r1 u1 v1 x1 p2 q2 r2 u2 v2 x2
          try clear hw
          clear hB a8
          obtain ⟨⟨p3, q3, r3⟩, u3, v3, x3⟩ := boxD B3
          go_wp2_with fail
          have hck := chk_may HRM.out
          rw [hneg] at hck
          refine (Check_all w9 true G3 m3 o3 (canon 4294967296 r.m) r.e I3 0 hck).mono ?_
          rintro e' w10 ⟨rfl, hB⟩
          have a10 := a9.on hB
          replace B1 := boxOn B1 hB S1
          replace S1 := Nat.lt_of_lt_of_le S1 hB.size
          replace B2 := boxOn B2 hB S2
          replace S2 := Nat.lt_of_lt_of_le S2 hB.size
          replace B3 := boxOn B3 hB S3
          replace S3 := Nat.lt_of_lt_of_le S3 hB.size
          replace I1 := ints_on I1 hB
          replace I2 := ints_on I2 hB
          replace I3 := ints_on I3 hB
          clear p3 q3 r3 u3 v3 x3
          try clear hw
          clear hB a9
          clear hck
          obtain ⟨⟨p3, q3, r3⟩, u3, v3, x3⟩ := boxD B3
          have hln := HLN.out
          go_wp2
          go_ret
          exact ⟨rfl, a10.below⟩
        · have HC0 := Lib.hid hc0
          have HC1 := Lib.hid hc1
          have HSM := Lib.hid hsm
          clear hc0 hc1 hsm m1 m2
          clear hsg
          obtain ⟨⟨p1, q1, r1⟩, u1, v1, x1⟩ := boxD B1
          obtain ⟨⟨p2, q2, r2⟩, u2, v2, x2⟩ := boxD B2
          go_wp2_with fail
          refine (Cmp_all w4 s1 s2 A1 A2 n1 c1 n2 c2 xs1 xs2 e1 e2 I1 I2 a4.tab (-1) 0 HC0.out).mono ?_
          rintro e' w5 ⟨rfl, hB⟩
          have a5 := a4.on hB
          replace B1 := boxOn B1 hB S1
          replace S1 := Nat.lt_of_lt_of_le S1 hB.size
          replace B2 := boxOn B2 hB S2
          replace S2 := Nat.lt_of_lt_of_le S2 hB.size
          replace I1 := ints_on I1 hB
          replace I2 := ints_on I2 hB
          clear p1 q1 r1 u1 v1 x1 p2 q2 r2 u2 v2 x2
          try clear hw
          clear hB a4
          obtain ⟨⟨p1, q1, r1⟩, u1, v1, x1⟩ := boxD B1
          obtain ⟨⟨p2, q2, r2⟩, u2, v2, x2⟩ := boxD B2
          go_wp2_with fail
          refine (Cmp_all w5 s2 s1 A2 A1 n2 c2 n1 c1 xs2 xs1 e2 e1 I2 I1 a5.tab (-(-1)) 0 HC1.out).mono ?_
          rintro e' w6 ⟨rfl, hB⟩
          have a6 := a5.on hB
          replace B1 := boxOn B1 hB S1
          replace S1 := Nat.lt_of_lt_of_le S1 hB.size
          replace B2 := boxOn B2 hB S2
          replace S2 := Nat.lt_of_lt_of_le S2 hB.size
          replace I1 := ints_on I1 hB
          replace I2 := ints_on I2 hB
          clear p1 q1 r1 u1 v1 x1 p2 q2 r2 u2 v2 x2
          try clear hw
          clear hB a5
          obtain ⟨⟨p1, q1, r1⟩, u1, v1, x1⟩ := boxD B1
          obtain ⟨⟨p2, q2, r2⟩, u2, v2, x2⟩ := boxD B2
          go_wp2_with fail
          refine (Sub_all w6 s1 s2 A1 A2 n1 c1 n2 c2 xs1 xs2 e1 e2 I1 I2 a6.tab r 10 HS.out).mono ?_
          rintro e' w7 ⟨G3, m3, o3, rfl, hc3, hB, hI⟩
          have a7 := a6.on hB
          replace B1 := boxOn B1 hB S1
          replace S1 := Nat.lt_of_lt_of_le S1 hB.size
          replace B2 := boxOn B2 hB S2
          replace S2 := Nat.lt_of_lt_of_le S2 hB.size
          replace I1 := ints_on I1 hB
          replace I2 := ints_on I2 hB
          have I3 := ints_all hI
          clear p1 q1 r1 u1 v1 x1 p2 q2 r2 u2 v2 x2
          try clear hw
          clear hB a6 hI
          have hB := (Below.refl w7.heap.size w7).alloc (Nat.le_refl _) (.cells #[.bool r.neg, .slice G3 m3 o3, .int .i64 r.e] 24)
          have B3 := heap_alloc_last w7 (.cells #[.bool r.neg, .slice G3 m3 o3, .int .i64 r.e] 24)
          have S3 : w7.heap.size < (w7.alloc (.cells #[.bool r.neg, .slice G3 m3 o3, .int .i64 r.e] 24)).heap.size := by simp
          have a8 := a7.on hB
          replace B1 := boxOn B1 hB S1
          replace S1 := Nat.lt_of_lt_of_le S1 hB.size
          replace B2 := boxOn B2 hB S2
          replace S2 := Nat.lt_of_lt_of_le S2 hB.size
          replace I1 := ints_on I1 hB
          replace I2 := ints_on I2 hB
          replace I3 := ints_on I3 hB
          generalize hw : (w7.alloc (.cells #[.bool r.neg, .slice G3 m3 o3, .int .i64 r.e] 24)) = w8 at *
          clear hB a7
          obtain ⟨⟨p1, q1, r1⟩, u1, v1, x1⟩ := boxD B1
          obtain ⟨⟨p2, q2, r2⟩, u2, v2, x2⟩ := boxD B2
          go_wp2_with fail
          refine (Pa.dyadSame_any w8 _ _ _ _ _ _ _ _ _ _ _ _ I1 I2 false HSM.out).mono ?_
          rintro e' w9 ⟨rfl, hB⟩
          have a9 := a8.on hB
          replace B1 := boxOn B1 hB S1
          replace S1 := Nat.lt_of_lt_of_le S1 hB.size
          replace B2 := boxOn B2 hB S2
          replace S2 := Nat.lt_of_lt_of_le S2 hB.size
          replace B3 := boxOn B3 hB S3
          replace S3 := Nat.lt_of_lt_of_le S3 hB.size
          replace I1 := ints_on I1 hB
          replace I2 := ints_on I2 hB
          replace I3 := ints_on I3 hB
          clear p1 q1 r1 u1 v1 x1 p2 q2 r2 u2 v2 x2
          try clear hw
          clear hB a8
          go_wp2
          go_ret
          exact ⟨rfl, a9.below⟩
      · rcases hg with rfl | rfl
        · have HC0 := Lib.hid hc0
          have HC1 := Lib.hid hc1
          have HSM := Lib.hid hsm
          clear hc0 hc1 hsm m1 m2
          obtain ⟨g1, g2⟩ := hsg rfl
          have hneg : r.neg = false := by rw [g1]; rfl
          have hm0 : r.m = 0 := by simpa using g2
          have HM0 := Lib.hid hm0
          clear g1 g2 hm0 hsg
          obtain ⟨⟨p1, q1, r1⟩, u1, v1, x1⟩ := boxD B1
          obtain ⟨⟨p2, q2, r2⟩, u2, v2, x2⟩ := boxD B2
          go_wp2_with fail
          refine (Cmp_all w4 s1 s2 A1 A2 n1 c1 n2 c2 xs1 xs2 e1 e2 I1 I2 a4.tab (0) 0 HC0.out).mono ?_
          rintro e' w5 ⟨rfl, hB⟩
          have a5 := a4.on hB
          replace B1 := boxOn B1 hB S1
          replace S1 := Nat.lt_of_lt_of_le S1 hB.size
          replace B2 := boxOn B2 hB S2
          replace S2 := Nat.lt_of_lt_of_le S2 hB.size
          replace I1 := ints_on I1 hB
          replace I2 := ints_on I2 hB
          clear p1 q1 r1 u1 v1 x1 p2 q2 r2 u2 v2 x2
          try clear hw
          clear hB a4
          obtain ⟨⟨p1, q1, r1⟩, u1, v1, x1⟩ := boxD B1
          obtain ⟨⟨p2, q2, r2⟩, u2, v2, x2⟩ := boxD B2
          go_wp2_with fail
          refine (Cmp_all w5 s2 s1 A2 A1 n2 c2 n1 c1 xs2 xs1 e2 e1 I2 I1 a5.tab (-(0)) 0 HC1.out).mono ?_
          rintro e' w6 ⟨rfl, hB⟩
          have a6 := a5.on hB
          replace B1 := boxOn B1 hB S1
          replace S1 := Nat.lt_of_lt_of_le S1 hB.size
          replace B2 := boxOn B2 hB S2
          replace S2 := Nat.lt_of_lt_of_le S2 hB.size
          replace I1 := ints_on I1 hB
          replace I2 := ints_on I2 hB
          clear p1 q1 r1 u1 v1 x1 p2 q2 r2 u2 v2 x2
          try clear hw
          clear hB a5
          obtain ⟨⟨p1, q1, r1⟩, u1, v1, x1⟩ := boxD B1
          obtain ⟨⟨p2, q2, r2⟩, u2, v2, x2⟩ := boxD B2
          go_wp2_with fail
          refine (Sub_all w6 s1 s2 A1 A2 n1 c1 n2 c2 xs1 xs2 e1 e2 I1 I2 a6.tab r 0 HS.out).mono ?_
          rintro e' w7 ⟨G3, m3, o3, rfl, hc3, hB, hI⟩
          have a7 := a6.on hB
          replace B1 := boxOn B1 hB S1
          replace S1 := Nat.lt_of_lt_of_le S1 hB.size
          replace B2 := boxOn B2 hB S2
          replace S2 := Nat.lt_of_lt_of_le S2 hB.size
          replace I1 := ints_on I1 hB
          replace I2 := ints_on I2 hB
          have I3 := ints_all hI
          clear p1 q1 r1 u1 v1 x1 p2 q2 r2 u2 v2 x2
          try clear hw
          clear hB a6 hI
          have HLN := Lib.hid (len_zero I3 HM0.out)
          simp only [hneg]
          have hB := (Below.refl w7.heap.size w7).alloc (Nat.le_refl _) (.cells #[.bool false, .slice G3 m3 o3, .int .i64 r.e] 24)
          have B3 := heap_alloc_last w7 (.cells #[.bool false, .slice G3 m3 o3, .int .i64 r.e] 24)
          have S3 : w7.heap.size < (w7.alloc (.cells #[.bool false, .slice G3 m3 o3, .int .i64 r.e] 24)).heap.size := by simp
          have a8 := a7.on hB
          replace B1 := boxOn B1 hB S1
          replace S1 := Nat.lt_of_lt_of_le S1 hB.size
          replace B2 := boxOn B2 hB S2
          replace S2 := Nat.lt_of_lt_of_le S2 hB.size
          replace I1 := ints_on I1 hB
          replace I2 := ints_on I2 hB
          replace I3 := ints_on I3 hB
          generalize hw : (w7.alloc (.cells #[.bool false, .slice G3 m3 o3, .int .i64 r.e] 24)) = w8 at *
          clear hB a7
          obtain ⟨⟨p1, q1, r1⟩, u1, v1, x1⟩ := boxD B1
          obtain ⟨⟨p2, q2, r2⟩, u2, v2, x2⟩ := boxD B2
          go_wp2_with fail
          refine (Pa.dyadSame_any w8 _ _ _ _ _ _ _ _ _ _ _ _ I1 I2 true HSM.out).mono ?_
          rintro e' w9 ⟨rfl, hB⟩
          have a9 := a8.on hB
          replace B1 := boxOn B1 hB S1
          replace S1 := Nat.lt_of_lt_of_le S1 hB.size
          replace B2 := boxOn B2 hB S2
          replace S2 := Nat.lt_of_lt_of_le S2 hB.size
          replace B3 := boxOn B3 hB S3
          replace S3 := Nat.lt_of_lt_of_le S3 hB.size
          replace I1 := ints_on I1 hB
          replace I2 := ints_on I2 hB
          replace I3 := ints_on I3 hB
          clear p1 q1 r1 u1 v1 x1 p2 q2 r2 u2 v2 x2
          try clear hw
          clear hB a8
          obtain ⟨⟨p3, q3, r3⟩, u3, v3, x3⟩ := boxD B3
          go_wp2_with fail
          have hck := chk_may HRM.out
          rw [hneg] at hck
          refine (Check_all w9 false G3 m3 o3 (canon 4294967296 r.m) r.e I3 0 hck).mono ?_
          rintro e' w10 ⟨rfl, hB⟩
          have a10 := a9.on hB
          replace B1 := boxOn B1 hB S1
          replace S1 := Nat.lt_of_lt_of_le S1 hB.size
          replace B2 := boxOn B2 hB S2
          replace S2 := Nat.lt_of_lt_of_le S2 hB.size
          replace B3 := boxOn B3 hB S3
          replace S3 := Nat.lt_of_lt_of_le S3 hB.size
          replace I1 := ints_on I1 hB
          replace I2 := ints_on I2 hB
          replace I3 := ints_on I3 hB
          clear p3 q3 r3 u3 v3 x3
          try clear hw
          clear hB a9
          clear hck
          obtain ⟨⟨p3, q3, r3⟩, u3, v3, x3⟩ := boxD B3
          have hln := HLN.out
          subst hln
          go_wp2
          go_ret
          exact ⟨rfl, a10.below⟩
        · have HC0 := Lib.hid hc0
          have HC1 := Lib.hid hc1
          have HSM := Lib.hid hsm
          clear hc0 hc1 hsm m1 m2
          clear hsg
          obtain ⟨⟨p1, q1, r1⟩, u1, v1, x1⟩ := boxD B1
          obtain ⟨⟨p2, q2, r2⟩, u2, v2, x2⟩ := boxD B2
          go_wp2_with fail
          refine (Cmp_all w4 s1 s2 A1 A2 n1 c1 n2 c2 xs1 xs2 e1 e2 I1 I2 a4.tab (0) 0 HC0.out).mono ?_
          rintro e' w5 ⟨rfl, hB⟩
          have a5 := a4.on hB
          replace B1 := boxOn B1 hB S1
          replace S1 := Nat.lt_of_lt_of_le S1 hB.size
          replace B2 := boxOn B2 hB S2
          replace S2 := Nat.lt_of_lt_of_le S2 hB.size
          replace I1 := ints_on I1 hB
          replace I2 := ints_on I2 hB
          clear p1 q1 r1 u1 v1 x1 p2 q2 r2 u2 v2 x2
          try clear hw
          clear hB a4
          obtain ⟨⟨p1, q1, r1⟩, u1, v1, x1⟩ := boxD B1
          obtain ⟨⟨p2, q2, r2⟩, u2, v2, x2⟩ := boxD B2
          go_wp2_with fail
          refine (Cmp_all w5 s2 s1 A2 A1 n2 c2 n1 c1 xs2 xs1 e2 e1 I2 I1 a5.tab (-(0)) 0 HC1.out).mono ?_
          rintro e' w6 ⟨rfl, hB⟩
          have a6 := a5.on hB
          replace B1 := boxOn B1 hB S1
          replace S1 := Nat.lt_of_lt_of_le S1 hB.size
          replace B2 := boxOn B2 hB S2
          replace S2 := Nat.lt_of_lt_of_le S2 hB.size
          replace I1 := ints_on I1 hB
          replace I2 := ints_on I2 hB
          clear p1 q1 r1 u1 v1 x1 p2 q2 r2 u2 v2 x2
          try clear hw
          clear hB a5
          obtain ⟨⟨p1, q1, r1⟩, u1, v1, x1⟩ := boxD B1
          obtain ⟨⟨p2, q2, r2⟩, u2, v2, x2⟩ := boxD B2
          go_wp2_with fail
          refine (Sub_all w6 s1 s2 A1 A2 n1 c1 n2 c2 xs1 xs2 e1 e2 I1 I2 a6.tab r 10 HS.out).mono ?_
          rintro e' w7 ⟨G3, m3, o3, rfl, hc3, hB, hI⟩
          have a7 := a6.on hB
          replace B1 := boxOn B1 hB S1
          replace S1 := Nat.lt_of_lt_of_le S1 hB.size
          replace B2 := boxOn B2 hB S2
          replace S2 := Nat.lt_of_lt_of_le S2 hB.size
          replace I1 := ints_on I1 hB
          replace I2 := ints_on I2 hB
          have I3 := ints_all hI
          clear p1 q1 r1 u1 v1 x1 p2 q2 r2 u2 v2 x2
          try clear hw
          clear hB a6 hI
          have hB := (Below.refl w7.heap.size w7).alloc (Nat.le_refl _) (.cells #[.bool r.neg, .slice G3 m3 o3, .int .i64 r.e] 24)
          have B3 := heap_alloc_last w7 (.cells #[.bool r.neg, .slice G3 m3 o3, .int .i64 r.e] 24)
          have S3 : w7.heap.size < (w7.alloc (.cells #[.bool r.neg, .slice G3 m3 o3, .int .i64 r.e] 24)).heap.size := by simp
          have a8 := a7.on hB
          replace B1 := boxOn B1 hB S1
          replace S1 := Nat.lt_of_lt_of_le S1 hB.size
          replace B2 := boxOn B2 hB S2
          replace S2 := Nat.lt_of_lt_of_le S2 hB.size
          replace I1 := ints_on I1 hB
          replace I2 := ints_on I2 hB
          replace I3 := ints_on I3 hB
          generalize hw : (w7.alloc (.cells #[.bool r.neg, .slice G3 m3 o3, .int .i64 r.e] 24)) = w8 at *
          clear hB a7
          obtain ⟨⟨p1, q1, r1⟩, u1, v1, x1⟩ := boxD B1
          obtain ⟨⟨p2, q2, r2⟩, u2, v2, x2⟩ := boxD B2
          go_wp2_with fail
          refine (Pa.dyadSame_any w8 _ _ _ _ _ _ _ _ _ _ _ _ I1 I2 true HSM.out).mono ?_
          rintro e' w9 ⟨rfl, hB⟩
          have a9 := a8.on hB
          replace B1 := boxOn B1 hB S1
          replace S1 := Nat.lt_of_lt_of_le S1 hB.size
          replace B2 := boxOn B2 hB S2
          replace S2 := Nat.lt_of_lt_of_le S2 hB.size
          replace B3 := boxOn B3 hB S3
          replace S3 := Nat.lt_of_lt_of_le S3 hB.size
          replace I1 := ints_on I1 hB
          replace I2 := ints_on I2 hB
          replace I3 := ints_on I3 hB
          clear p1 q1 r1 u1 v1 x1 p2 q2 r2 u2 v2 x2
          try clear hw
          clear hB a8
          go_wp2
          go_ret
          exact ⟨rfl, a9.below⟩
      · rcases hg with rfl | rfl
        · have HC0 := Lib.hid hc0
          have HC1 := Lib.hid hc1
          have HSM := Lib.hid hsm
          clear hc0 hc1 hsm m1 m2
          obtain ⟨g1, g2⟩ := hsg rfl
          have hneg : r.neg = false := by rw [g1]; rfl
          have hm0 : r.m ≠ 0 := by simpa using g2
          have HM0 := Lib.hid hm0
          clear g1 g2 hm0 hsg
          obtain ⟨⟨p1, q1, r1⟩, u1, v1, x1⟩ := boxD B1
          obtain ⟨⟨p2, q2, r2⟩, u2, v2, x2⟩ := boxD B2
          go_wp2_with fail
          refine (Cmp_all w4 s1 s2 A1 A2 n1 c1 n2 c2 xs1 xs2 e1 e2 I1 I2 a4.tab (1) 0 HC0.out).mono ?_
          rintro e' w5 ⟨rfl, hB⟩
          have a5 := a4.on hB
          replace B1 := boxOn B1 hB S1
          replace S1 := Nat.lt_of_lt_of_le S1 hB.size
          replace B2 := boxOn B2 hB S2
          replace S2 := Nat.lt_of_lt_of_le S2 hB.size
          replace I1 := ints_on I1 hB
          replace I2 := ints_on I2 hB
          clear p1 q1 r1 u1 v1 x1 p2 q2 r2 u2 v2 x2
          try clear hw
          clear hB a4
          obtain ⟨⟨p1, q1, r1⟩, u1, v1, x1⟩ := boxD B1
          obtain ⟨⟨p2, q2, r2⟩, u2, v2, x2⟩ := boxD B2
          go_wp2_with fail
          refine (Cmp_all w5 s2 s1 A2 A1 n2 c2 n1 c1 xs2 xs1 e2 e1 I2 I1 a5.tab (-(1)) 0 HC1.out).mono ?_
          rintro e' w6 ⟨rfl, hB⟩
          have a6 := a5.on hB
          replace B1 := boxOn B1 hB S1
          replace S1 := Nat.lt_of_lt_of_le S1 hB.size
          replace B2 := boxOn B2 hB S2
          replace S2 := Nat.lt_of_lt_of_le S2 hB.size
          replace I1 := ints_on I1 hB
          replace I2 := ints_on I2 hB
          clear p1 q1 r1 u1 v1 x1 p2 q2 r2 u2 v2 x2
          try clear hw
          clear hB a5
          obtain ⟨⟨p1, q1, r1⟩, u1, v1, x1⟩ := boxD B1
          obtain ⟨⟨p2, q2, r2⟩, u2, v2, x2⟩ := boxD B2
          go_wp2_with fail
          refine (Sub_all w6 s1 s2 A1 A2 n1 c1 n2 c2 xs1 xs2 e1 e2 I1 I2 a6.tab r 0 HS.out).mono ?_
          rintro e' w7 ⟨G3, m3, o3, rfl, hc3, hB, hI⟩
          have a7 := a6.on hB
          replace B1 := boxOn B1 hB S1
          replace S1 := Nat.lt_of_lt_of_le S1 hB.size
          replace B2 := boxOn B2 hB S2
          replace S2 := Nat.lt_of_lt_of_le S2 hB.size
          replace I1 := ints_on I1 hB
          replace I2 := ints_on I2 hB
          have I3 := ints_all hI
          clear p1 q1 r1 u1 v1 x1 p2 q2 r2 u2 v2 x2
          try clear hw
          clear hB a6 hI
          have HLN := Lib.hid (len_some I3 HM0.out)
          simp only [hneg]
          have hB := (Below.refl w7.heap.size w7).alloc (Nat.le_refl _) (.cells #[.bool false, .slice G3 m3 o3, .int .i64 r.e] 24)
          have B3 := heap_alloc_last w7 (.cells #[.bool false, .slice G3 m3 o3, .int .i64 r.e] 24)
          have S3 : w7.heap.size < (w7.alloc (.cells #[.bool false, .slice G3 m3 o3, .int .i64 r.e] 24)).heap.size := by simp
          have a8 := a7.on hB
          replace B1 := boxOn B1 hB S1
          replace S1 := Nat.lt_of_lt_of_le S1 hB.size
          replace B2 := boxOn B2 hB S2
          replace S2 := Nat.lt_of_lt_of_le S2 hB.size
          replace I1 := ints_on I1 hB
          replace I2 := ints_on I2 hB
          replace I3 := ints_on I3 hB
          generalize hw : (w7.alloc (.cells #[.bool false, .slice G3 m3 o3, .int .i64 r.e] 24)) = w8 at *
          clear hB a7
          obtain ⟨⟨p1, q1, r1⟩, u1, v1, x1⟩ := boxD B1
          obtain ⟨⟨p2, q2, r2⟩, u2, v2, x2⟩ := boxD B2
          go_wp2_with fail
          refine (Pa.dyadSame_any w8 _ _ _ _ _ _ _ _ _ _ _ _ I1 I2 false HSM.out).mono ?_
          rintro e' w9 ⟨rfl, hB⟩
          have a9 := a8.on hB
          replace B1 := boxOn B1 hB S1
          replace S1 := Nat.lt_of_lt_of_le S1 hB.size
          replace B2 := boxOn B2 hB S2
          replace S2 := Nat.lt_of_lt_of_le S2 hB.size
          replace B3 := boxOn B3 hB S3
          replace S3 := Nat.lt_of_lt_of_le S3 hB.size
          replace I1 := ints_on I1 hB
          replace I2 := ints_on I2 hB
          replace I3 := ints_on I3 hB
          clear p1 q1 r1 u1 v1 x1 p2 q2 r2 u2 v2 x2
          try clear hw
          clear hB a8
          obtain ⟨⟨p3, q3, r3⟩, u3, v3, x3⟩ := boxD B3
          go_wp2_with fail
          have hck := chk_may HRM.out
          rw [hneg] at hck
          refine (Check_all w9 false G3 m3 o3 (canon 4294967296 r.m) r.e I3 0 hck).mono ?_
          rintro e' w10 ⟨rfl, hB⟩
          have a10 := a9.on hB
          replace B1 := boxOn B1 hB S1
          replace S1 := Nat.lt_of_lt_of_le S1 hB.size
          replace B2 := boxOn B2 hB S2
          replace S2 := Nat.lt_of_lt_of_le S2 hB.size
          replace B3 := boxOn B3 hB S3
          replace S3 := Nat.lt_of_lt_of_le S3 hB.size
          replace I1 := ints_on I1 hB
          replace I2 := ints_on I2 hB
          replace I3 := ints_on I3 hB
          clear p3 q3 r3 u3 v3 x3
          try clear hw
          clear hB a9
          clear hck
          obtain ⟨⟨p3, q3, r3⟩, u3, v3, x3⟩ := boxD B3
          have hln := HLN.out
          go_wp2
          go_ret
          exact ⟨rfl, a10.below⟩
        · have HC0 := Lib.hid hc0
          have HC1 := Lib.hid hc1
          have HSM := Lib.hid hsm
          clear hc0 hc1 hsm m1 m2
          clear hsg
          obtain ⟨⟨p1, q1, r1⟩, u1, v1, x1⟩ := boxD B1
          obtain ⟨⟨p2, q2, r2⟩, u2, v2, x2⟩ := boxD B2
          go_wp2_with fail
          refine (Cmp_all w4 s1 s2 A1 A2 n1 c1 n2 c2 xs1 xs2 e1 e2 I1 I2 a4.tab (1) 0 HC0.out).mono ?_
          rintro e' w5 ⟨rfl, hB⟩
          have a5 := a4.on hB
          replace B1 := boxOn B1 hB S1
          replace S1 := Nat.lt_of_lt_of_le S1 hB.size
          replace B2 := boxOn B2 hB S2
          replace S2 := Nat.lt_of_lt_of_le S2 hB.size
          replace I1 := ints_on I1 hB
          replace I2 := ints_on I2 hB
          clear p1 q1 r1 u1 v1 x1 p2 q2 r2 u2 v2 x2
          try clear hw
          clear hB a4
          obtain ⟨⟨p1, q1, r1⟩, u1, v1, x1⟩ := boxD B1
          obtain ⟨⟨p2, q2, r2⟩, u2, v2, x2⟩ := boxD B2
          go_wp2_with fail
          refine (Cmp_all w5 s2 s1 A2 A1 n2 c2 n1 c1 xs2 xs1 e2 e1 I2 I1 a5.tab (-(1)) 0 HC1.out).mono ?_
          rintro e' w6 ⟨rfl, hB⟩
          have a6 := a5.on hB
          replace B1 := boxOn B1 hB S1
          replace S1 := Nat.lt_of_lt_of_le S1 hB.size
          replace B2 := boxOn B2 hB S2
          replace S2 := Nat.lt_of_lt_of_le S2 hB.size
          replace I1 := ints_on I1 hB
          replace I2 := ints_on I2 hB
          clear p1 q1 r1 u1 v1 x1 p2 q2 r2 u2 v2 x2
          try clear hw
          clear hB a5
          obtain ⟨⟨p1, q1, r1⟩, u1, v1, x1⟩ := boxD B1
          obtain ⟨⟨p2, q2, r2⟩, u2, v2, x2⟩ := boxD B2
          go_wp2_with fail
          refine (Sub_all w6 s1 s2 A1 A2 n1 c1 n2 c2 xs1 xs2 e1 e2 I1 I2 a6.tab r 10 HS.out).mono ?_
          rintro e' w7 ⟨G3, m3, o3, rfl, hc3, hB, hI⟩
          have a7 := a6.on hB
          replace B1 := boxOn B1 hB S1
          replace S1 := Nat.lt_of_lt_of_le S1 hB.size
          replace B2 := boxOn B2 hB S2
          replace S2 := Nat.lt_of_lt_of_le S2 hB.size
          replace I1 := ints_on I1 hB
          replace I2 := ints_on I2 hB
          have I3 := ints_all hI
          clear p1 q1 r1 u1 v1 x1 p2 q2 r2 u2 v2 x2
          try clear hw
          clear hB a6 hI
          have hB := (Below.refl w7.heap.size w7).alloc (Nat.le_refl _) (.cells #[.bool r.neg, .slice G3 m3 o3, .int .i64 r.e] 24)
          have B3 := heap_alloc_last w7 (.cells #[.bool r.neg, .slice G3 m3 o3, .int .i64 r.e] 24)
          have S3 : w7.heap.size < (w7.alloc (.cells #[.bool r.neg, .slice G3 m3 o3, .int .i64 r.e] 24)).heap.size := by simp
          have a8 := a7.on hB
          replace B1 := boxOn B1 hB S1
          replace S1 := Nat.lt_of_lt_of_le S1 hB.size
          replace B2 := boxOn B2 hB S2
          replace S2 := Nat.lt_of_lt_of_le S2 hB.size
          replace I1 := ints_on I1 hB
          replace I2 := ints_on I2 hB
          replace I3 := ints_on I3 hB
          generalize hw : (w7.alloc (.cells #[.bool r.neg, .slice G3 m3 o3, .int .i64 r.e] 24)) = w8 at *
          clear hB a7
          obtain ⟨⟨p1, q1, r1⟩, u1, v1, x1⟩ := boxD B1
          obtain ⟨⟨p2, q2, r2⟩, u2, v2, x2⟩ := boxD B2
          go_wp2_with fail
          refine (Pa.dyadSame_any w8 _ _ _ _ _ _ _ _ _ _ _ _ I1 I2 false HSM.out).mono ?_
          rintro e' w9 ⟨rfl, hB⟩
          have a9 := a8.on hB
          replace B1 := boxOn B1 hB S1
          replace S1 := Nat.lt_of_lt_of_le S1 hB.size
          replace B2 := boxOn B2 hB S2
          replace S2 := Nat.lt_of_lt_of_le S2 hB.size
          replace B3 := boxOn B3 hB S3
          replace S3 := Nat.lt_of_lt_of_le S3 hB.size
          replace I1 := ints_on I1 hB
          replace I2 := ints_on I2 hB
          replace I3 := ints_on I3 hB
          clear p1 q1 r1 u1 v1 x1 p2 q2 r2 u2 v2 x2
          try clear hw
          clear hB a8
          go_wp2
          go_ret
          exact ⟨rfl, a9.below⟩
    · have hc0 : cmpX s1 xs1 e1 s2 xs2 e2 = (0, 8) := if_neg (fun k => m2 k.2)
      have HC0 := Lib.hid hc0
      have k1 := Lib.hid (chk_may m1)
      have k2 := Lib.hid (chk_not m2)
      clear hc0 m1 m2
      obtain ⟨⟨p1, q1, r1⟩, u1, v1, x1⟩ := boxD B1
      obtain ⟨⟨p2, q2, r2⟩, u2, v2, x2⟩ := boxD B2
      go_wp2_with fail
      refine (Cmp_all w4 s1 s2 A1 A2 n1 c1 n2 c2 xs1 xs2 e1 e2 I1 I2 a4.tab 0 8 HC0.out).mono ?_
      rintro e' w5 ⟨rfl, hB⟩
      have a5 := a4.on hB
      replace B1 := boxOn B1 hB S1
      replace S1 := Nat.lt_of_lt_of_le S1 hB.size
      replace B2 := boxOn B2 hB S2
      replace S2 := Nat.lt_of_lt_of_le S2 hB.size
      replace I1 := ints_on I1 hB
      replace I2 := ints_on I2 hB
      clear p1 q1 r1 u1 v1 x1 p2 q2 r2 u2 v2 x2
      try clear hw
      clear hB a4
      obtain ⟨⟨p1, q1, r1⟩, u1, v1, x1⟩ := boxD B1
      go_wp2_with fail
      refine (Check_all w5 s1 A1 n1 c1 xs1 e1 I1 0 k1.out).mono ?_
      rintro e' w6 ⟨rfl, hB⟩
      have a6 := a5.on hB
      replace B1 := boxOn B1 hB S1
      replace S1 := Nat.lt_of_lt_of_le S1 hB.size
      replace B2 := boxOn B2 hB S2
      replace S2 := Nat.lt_of_lt_of_le S2 hB.size
      replace I1 := ints_on I1 hB
      replace I2 := ints_on I2 hB
      clear p1 q1 r1 u1 v1 x1
      try clear hw
      clear hB a5
      obtain ⟨⟨p2, q2, r2⟩, u2, v2, x2⟩ := boxD B2
      go_wp2_with fail
      refine (Check_all w6 s2 A2 n2 c2 xs2 e2 I2 8 k2.out).mono ?_
      rintro e' w7 ⟨rfl, hB⟩
      have a7 := a6.on hB
      replace B1 := boxOn B1 hB S1
      replace S1 := Nat.lt_of_lt_of_le S1 hB.size
      replace B2 := boxOn B2 hB S2
      replace S2 := Nat.lt_of_lt_of_le S2 hB.size
      replace I1 := ints_on I1 hB
      replace I2 := ints_on I2 hB
      clear p2 q2 r2 u2 v2 x2
      try clear hw
      clear hB a6
      go_wp2
      go_ret
      exact ⟨rfl, a7.below⟩
  · have hc0 : cmpX s1 xs1 e1 s2 xs2 e2 = (0, 8) := if_neg (fun k => m1 k.1)
    have HC0 := Lib.hid hc0
    have k1 := Lib.hid (chk_not m1)
    clear hc0 m1
    obtain ⟨⟨p1, q1, r1⟩, u1, v1, x1⟩ := boxD B1
    obtain ⟨⟨p2, q2, r2⟩, u2, v2, x2⟩ := boxD B2
    go_wp2_with fail
    refine (Cmp_all w4 s1 s2 A1 A2 n1 c1 n2 c2 xs1 xs2 e1 e2 I1 I2 a4.tab 0 8 HC0.out).mono ?_
    rintro e' w5 ⟨rfl, hB⟩
    have a5 := a4.on hB
    replace B1 := boxOn B1 hB S1
    replace S1 := Nat.lt_of_lt_of_le S1 hB.size
    replace B2 := boxOn B2 hB S2
    replace S2 := Nat.lt_of_lt_of_le S2 hB.size
    replace I1 := ints_on I1 hB
    replace I2 := ints_on I2 hB
    clear p1 q1 r1 u1 v1 x1 p2 q2 r2 u2 v2 x2
    try clear hw
    clear hB a4
    obtain ⟨⟨p1, q1, r1⟩, u1, v1, x1⟩ := boxD B1
    go_wp2_with fail
    refine (Check_all w5 s1 A1 n1 c1 xs1 e1 I1 8 k1.out).mono ?_
    rintro e' w6 ⟨rfl, hB⟩
    have a6 := a5.on hB
    replace B1 := boxOn B1 hB S1
    replace S1 := Nat.lt_of_lt_of_le S1 hB.size
    replace B2 := boxOn B2 hB S2
    replace S2 := Nat.lt_of_lt_of_le S2 hB.size
    replace I1 := ints_on I1 hB
    replace I2 := ints_on I2 hB
    clear p1 q1 r1 u1 v1 x1
    try clear hw
    clear hB a5
    go_wp2
    go_ret
    exact ⟨rfl, a6.below⟩
end Dy
end Go.Proofs.YtlbkepiflhchdaaDoor
