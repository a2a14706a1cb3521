/- The law DyadGroup: a walk (printed by a program of mine). -/
import Derived.Test.YtlbkepiflhchdaaDoorDyAll
namespace Go.Proofs.YtlbkepiflhchdaaDoor
open Go.RowKit
namespace Dy
open Dp
set_option maxHeartbeats 12800000 in
set_option maxRecDepth 100000 in
theorem group_walk (w : World) (s1 : Bool) (A1 : Option Addr) (n1 c1 : Nat) (xs1 : List Int) (e1 : Int) (I1 : Ints w 0 w.heap.size .u32 A1 n1 xs1) (s2 : Bool) (A2 : Option Addr) (n2 c2 : Nat) (xs2 : List Int) (e2 : Int) (I2 : Ints w 0 w.heap.size .u32 A2 n2 xs2)
    (s3 : Bool) (A3 : Option Addr) (n3 c3 : Nat) (xs3 : List Int) (e3 : Int) (I3 : Ints w 0 w.heap.size .u32 A3 n3 xs3) (hT : Tab w) :
    Calls Tryd.prog 6 #[.agg #[.bool s1, .slice A1 n1 c1, .int .i64 e1], .agg #[.bool s2, .slice A2 n2 c2, .int .i64 e2], .agg #[.bool s3, .slice A3 n3 c3, .int .i64 e3]] w (Yes w) := by
  have d1 := Lib.hid (dig_ints I1)
  have d2 := Lib.hid (dig_ints I2)
  have l1 := Lib.hid I1.len
  have l2 := Lib.hid I2.len
  have l3 := Lib.hid I3.len
  obtain ⟨x, e, hx⟩ : ∃ x e, addX s1 xs1 e1 s2 xs2 e2 = (x, e) := ⟨_, _, rfl⟩
  obtain ⟨y, f, hy⟩ : ∃ y f, addX s2 xs2 e2 s1 xs1 e1 = (y, f) := ⟨_, _, rfl⟩
  obtain ⟨bk, g, hb⟩ : ∃ bk g, subX x.neg (canon 4294967296 x.m) x.e s2 xs2 e2 = (bk, g) := ⟨_, _, rfl⟩
  obtain ⟨p, h, hp⟩ : ∃ p h, addX x.neg (canon 4294967296 x.m) x.e s3 xs3 e3 = (p, h) := ⟨_, _, rfl⟩
  obtain ⟨q, i, hq⟩ : ∃ q i, addX s2 xs2 e2 s3 xs3 e3 = (q, i) := ⟨_, _, rfl⟩
  obtain ⟨r, j, hr⟩ : ∃ r j, addX s1 xs1 e1 q.neg (canon 4294967296 q.m) q.e = (r, j) := ⟨_, _, rfl⟩
  obtain ⟨law1, law2, law3, law4⟩ := group_law d1.out d2.out hx hy hb hp hq hr
  subst law1 law2
  have HX := Lib.hid hx
  have HY := Lib.hid hy
  have HB := Lib.hid hb
  have HP := Lib.hid hp
  have HQ := Lib.hid hq
  have HR := Lib.hid hr
  have L3 := Lib.hid law3
  have L4 := Lib.hid law4
  clear hx hy hb hp hq hr law3 law4
  generalize hw : ((w.alloc (.cells #[.bool s1, .slice A1 n1 c1, .int .i64 e1] 24)).alloc (.cells #[.bool s2, .slice A2 n2 c2, .int .i64 e2] 24)).alloc (.cells #[.bool s3, .slice A3 n3 c3, .int .i64 e3] 24) = w1
  have a1 : Amid w w1 := by rw [← hw]; exact ((Amid.alloc ⟨Below.refl _ _, hT⟩ _).alloc _).alloc _
  have sz : w1.heap.size = w.heap.size + 3 := by rw [← hw]; simp
  have B1 : w1.heap[w.heap.size]? = some (.cells #[.bool s1, .slice A1 n1 c1, .int .i64 e1] 24 (0, 0)) := by
    rw [← hw, Below.heap_alloc _ _ _ (by simp; omega), Below.heap_alloc _ _ _ (by simp)]
    exact heap_alloc_last _ _
  have B2 : w1.heap[w.heap.size + 1]? = some (.cells #[.bool s2, .slice A2 n2 c2, .int .i64 e2] 24 (0, 0)) := by
    rw [← hw, Below.heap_alloc _ _ _ (by simp)]
    exact heap_alloc2_new _ _ _
  have B3 : w1.heap[w.heap.size + 1 + 1]? = some (.cells #[.bool s3, .slice A3 n3 c3, .int .i64 e3] 24 (0, 0)) := by
    rw [← hw]
    have := heap_alloc_last ((w.alloc (.cells #[.bool s1, .slice A1 n1 c1, .int .i64 e1] 24)).alloc (.cells #[.bool s2, .slice A2 n2 c2, .int .i64 e2] 24)) (.cells #[.bool s3, .slice A3 n3 c3, .int .i64 e3] 24)
    simpa using this
  have S1 : w.heap.size < w1.heap.size := by omega
  have S2 : w.heap.size + 1 < w1.heap.size := by omega
  have S3 : w.heap.size + 1 + 1 < w1.heap.size := by omega
  replace I1 : Ints w1 0 w1.heap.size .u32 A1 n1 xs1 := (I1.below a1.below (Nat.le_refl _)).more (Nat.le_refl _) (by omega)
  replace I2 : Ints w1 0 w1.heap.size .u32 A2 n2 xs2 := (I2.below a1.below (Nat.le_refl _)).more (Nat.le_refl _) (by omega)
  replace I3 : Ints w1 0 w1.heap.size .u32 A3 n3 xs3 := (I3.below a1.below (Nat.le_refl _)).more (Nat.le_refl _) (by omega)
  clear sz
  go_enter Tryd.func6, Tryd.ntmps6
  go_wp2_with fail
  refine (alive_any w1 a1.tab).mono ?_
  rintro e' w2 ⟨rfl, hB⟩
  have a2 := a1.on hB
  replace B1 := boxOn B1 hB S1
  replace S1 := Nat.lt_of_lt_of_le S1 hB.size
  replace B2 := boxOn B2 hB S2
  replace S2 := Nat.lt_of_lt_of_le S2 hB.size
  replace B3 := boxOn B3 hB S3
  replace S3 := Nat.lt_of_lt_of_le S3 hB.size
  replace I1 := ints_on I1 hB
  replace I2 := ints_on I2 hB
  replace I3 := ints_on I3 hB
  try clear hw
  clear hB a1
  obtain ⟨⟨p1, q1, r1⟩, u1, v1, x1⟩ := boxD B1
  go_wp2_with fail
  obtain ⟨gr1, hgr1⟩ : ∃ gr, Pa.Dy.great ⟨s1, xs1, e1⟩ = gr := ⟨_, rfl⟩
  refine (Pa.rGreat_any w2 s1 A1 n1 c1 xs1 e1 l1.out gr1 hgr1).mono ?_
  rintro e' w3 ⟨rfl, hB⟩
  have a3 := a2.on hB
  replace B1 := boxOn B1 hB S1
  replace S1 := Nat.lt_of_lt_of_le S1 hB.size
  replace B2 := boxOn B2 hB S2
  replace S2 := Nat.lt_of_lt_of_le S2 hB.size
  replace B3 := boxOn B3 hB S3
  replace S3 := Nat.lt_of_lt_of_le S3 hB.size
  replace I1 := ints_on I1 hB
  replace I2 := ints_on I2 hB
  replace I3 := ints_on I3 hB
  clear p1 q1 r1 u1 v1 x1
  try clear hw
  clear hB a2
  clear hgr1
  cases gr1
  rotate_left
  · go_wp2
    go_ret
    exact ⟨rfl, a3.below⟩
  obtain ⟨⟨p2, q2, r2⟩, u2, v2, x2⟩ := boxD B2
  go_wp2_with fail
  obtain ⟨gr2, hgr2⟩ : ∃ gr, Pa.Dy.great ⟨s2, xs2, e2⟩ = gr := ⟨_, rfl⟩
  refine (Pa.rGreat_any w3 s2 A2 n2 c2 xs2 e2 l2.out gr2 hgr2).mono ?_
  rintro e' w4 ⟨rfl, hB⟩
  have a4 := a3.on hB
  replace B1 := boxOn B1 hB S1
  replace S1 := Nat.lt_of_lt_of_le S1 hB.size
  replace B2 := boxOn B2 hB S2
  replace S2 := Nat.lt_of_lt_of_le S2 hB.size
  replace B3 := boxOn B3 hB S3
  replace S3 := Nat.lt_of_lt_of_le S3 hB.size
  replace I1 := ints_on I1 hB
  replace I2 := ints_on I2 hB
  replace I3 := ints_on I3 hB
  clear p2 q2 r2 u2 v2 x2
  try clear hw
  clear hB a3
  clear hgr2
  cases gr2
  rotate_left
  · go_wp2
    go_ret
    exact ⟨rfl, a4.below⟩
  obtain ⟨⟨p3, q3, r3⟩, u3, v3, x3⟩ := boxD B3
  go_wp2_with fail
  obtain ⟨gr3, hgr3⟩ : ∃ gr, Pa.Dy.great ⟨s3, xs3, e3⟩ = gr := ⟨_, rfl⟩
  refine (Pa.rGreat_any w4 s3 A3 n3 c3 xs3 e3 l3.out gr3 hgr3).mono ?_
  rintro e' w5 ⟨rfl, hB⟩
  have a5 := a4.on hB
  replace B1 := boxOn B1 hB S1
  replace S1 := Nat.lt_of_lt_of_le S1 hB.size
  replace B2 := boxOn B2 hB S2
  replace S2 := Nat.lt_of_lt_of_le S2 hB.size
  replace B3 := boxOn B3 hB S3
  replace S3 := Nat.lt_of_lt_of_le S3 hB.size
  replace I1 := ints_on I1 hB
  replace I2 := ints_on I2 hB
  replace I3 := ints_on I3 hB
  clear p3 q3 r3 u3 v3 x3
  try clear hw
  clear hB a4
  clear hgr3
  cases gr3
  rotate_left
  · go_wp2
    go_ret
    exact ⟨rfl, a5.below⟩
  obtain ⟨⟨p1, q1, r1⟩, u1, v1, x1⟩ := boxD B1
  obtain ⟨⟨p2, q2, r2⟩, u2, v2, x2⟩ := boxD B2
  go_wp2_with fail
  refine (Add_all w5 s1 s2 A1 A2 n1 c1 n2 c2 xs1 xs2 e1 e2 I1 I2 a5.tab x e HX.out).mono ?_
  rintro e' w6 ⟨G4, m4, o4, rfl, hc4, hB, hI⟩
  have a6 := a5.on hB
  replace B1 := boxOn B1 hB S1
  replace S1 := Nat.lt_of_lt_of_le S1 hB.size
  replace B2 := boxOn B2 hB S2
  replace S2 := Nat.lt_of_lt_of_le S2 hB.size
  replace B3 := boxOn B3 hB S3
  replace S3 := Nat.lt_of_lt_of_le S3 hB.size
  replace I1 := ints_on I1 hB
  replace I2 := ints_on I2 hB
  replace I3 := ints_on I3 hB
  have I4 := ints_all hI
  clear p1 q1 r1 u1 v1 x1 p2 q2 r2 u2 v2 x2
  try clear hw
  clear hB a5 hI
  have hB := (Below.refl w6.heap.size w6).alloc (Nat.le_refl _) (.cells #[.bool x.neg, .slice G4 m4 o4, .int .i64 x.e] 24)
  have B4 := heap_alloc_last w6 (.cells #[.bool x.neg, .slice G4 m4 o4, .int .i64 x.e] 24)
  have S4 : w6.heap.size < (w6.alloc (.cells #[.bool x.neg, .slice G4 m4 o4, .int .i64 x.e] 24)).heap.size := by simp
  have a7 := a6.on hB
  replace B1 := boxOn B1 hB S1
  replace S1 := Nat.lt_of_lt_of_le S1 hB.size
  replace B2 := boxOn B2 hB S2
  replace S2 := Nat.lt_of_lt_of_le S2 hB.size
  replace B3 := boxOn B3 hB S3
  replace S3 := Nat.lt_of_lt_of_le S3 hB.size
  replace I1 := ints_on I1 hB
  replace I2 := ints_on I2 hB
  replace I3 := ints_on I3 hB
  replace I4 := ints_on I4 hB
  generalize hw : (w6.alloc (.cells #[.bool x.neg, .slice G4 m4 o4, .int .i64 x.e] 24)) = w7 at *
  clear hB a6
  obtain ⟨⟨p1, q1, r1⟩, u1, v1, x1⟩ := boxD B1
  obtain ⟨⟨p2, q2, r2⟩, u2, v2, x2⟩ := boxD B2
  go_wp2_with fail
  refine (Add_all w7 s2 s1 A2 A1 n2 c2 n1 c1 xs2 xs1 e2 e1 I2 I1 a7.tab x e HY.out).mono ?_
  rintro e' w8 ⟨G5, m5, o5, rfl, hc5, hB, hI⟩
  have a8 := a7.on hB
  replace B1 := boxOn B1 hB S1
  replace S1 := Nat.lt_of_lt_of_le S1 hB.size
  replace B2 := boxOn B2 hB S2
  replace S2 := Nat.lt_of_lt_of_le S2 hB.size
  replace B3 := boxOn B3 hB S3
  replace S3 := Nat.lt_of_lt_of_le S3 hB.size
  replace B4 := boxOn B4 hB S4
  replace S4 := Nat.lt_of_lt_of_le S4 hB.size
  replace I1 := ints_on I1 hB
  replace I2 := ints_on I2 hB
  replace I3 := ints_on I3 hB
  replace I4 := ints_on I4 hB
  have I5 := ints_all hI
  clear p1 q1 r1 u1 v1 x1 p2 q2 r2 u2 v2 x2
  try clear hw
  clear hB a7 hI
  have hB := (Below.refl w8.heap.size w8).alloc (Nat.le_refl _) (.cells #[.bool x.neg, .slice G5 m5 o5, .int .i64 x.e] 24)
  have B5 := heap_alloc_last w8 (.cells #[.bool x.neg, .slice G5 m5 o5, .int .i64 x.e] 24)
  have S5 : w8.heap.size < (w8.alloc (.cells #[.bool x.neg, .slice G5 m5 o5, .int .i64 x.e] 24)).heap.size := by simp
  have a9 := a8.on hB
  replace B1 := boxOn B1 hB S1
  replace S1 := Nat.lt_of_lt_of_le S1 hB.size
  replace B2 := boxOn B2 hB S2
  replace S2 := Nat.lt_of_lt_of_le S2 hB.size
  replace B3 := boxOn B3 hB S3
  replace S3 := Nat.lt_of_lt_of_le S3 hB.size
  replace B4 := boxOn B4 hB S4
  replace S4 := Nat.lt_of_lt_of_le S4 hB.size
  replace I1 := ints_on I1 hB
  replace I2 := ints_on I2 hB
  replace I3 := ints_on I3 hB
  replace I4 := ints_on I4 hB
  replace I5 := ints_on I5 hB
  generalize hw : (w8.alloc (.cells #[.bool x.neg, .slice G5 m5 o5, .int .i64 x.e] 24)) = w9 at *
  clear hB a8
  have he : (e == e) = true := by simp
  have he2 : (e != e) = false := by simp
  obtain ⟨⟨p4, q4, r4⟩, u4, v4, x4⟩ := boxD B4
  obtain ⟨⟨p5, q5, r5⟩, u5, v5, x5⟩ := boxD B5
  go_wp2_with fail
  refine (Pa.dyadSame_any w9 _ _ _ _ _ _ _ _ _ _ _ _ I4 I5 true (same_res (a := x) (b := x) rfl rfl rfl rfl rfl rfl rfl)).mono ?_
  rintro e' w10 ⟨rfl, hB⟩
  have a10 := a9.on hB
  replace B1 := boxOn B1 hB S1
  replace S1 := Nat.lt_of_lt_of_le S1 hB.size
  replace B2 := boxOn B2 hB S2
  replace S2 := Nat.lt_of_lt_of_le S2 hB.size
  replace B3 := boxOn B3 hB S3
  replace S3 := Nat.lt_of_lt_of_le S3 hB.size
  replace B4 := boxOn B4 hB S4
  replace S4 := Nat.lt_of_lt_of_le S4 hB.size
  replace B5 := boxOn B5 hB S5
  replace S5 := Nat.lt_of_lt_of_le S5 hB.size
  replace I1 := ints_on I1 hB
  replace I2 := ints_on I2 hB
  replace I3 := ints_on I3 hB
  replace I4 := ints_on I4 hB
  replace I5 := ints_on I5 hB
  clear p4 q4 r4 u4 v4 x4 p5 q5 r5 u5 v5 x5
  try clear hw
  clear hB a9
  obtain ⟨⟨p4, q4, r4⟩, u4, v4, x4⟩ := boxD B4
  obtain ⟨⟨p2, q2, r2⟩, u2, v2, x2⟩ := boxD B2
  go_wp2_with fail
  refine (Sub_all w10 x.neg s2 G4 A2 m4 o4 n2 c2 (canon 4294967296 x.m) xs2 x.e e2 I4 I2 a10.tab bk g HB.out).mono ?_
  rintro e' w11 ⟨G6, m6, o6, rfl, hc6, hB, hI⟩
  have a11 := a10.on hB
  replace B1 := boxOn B1 hB S1
  replace S1 := Nat.lt_of_lt_of_le S1 hB.size
  replace B2 := boxOn B2 hB S2
  replace S2 := Nat.lt_of_lt_of_le S2 hB.size
  replace B3 := boxOn B3 hB S3
  replace S3 := Nat.lt_of_lt_of_le S3 hB.size
  replace B4 := boxOn B4 hB S4
  replace S4 := Nat.lt_of_lt_of_le S4 hB.size
  replace B5 := boxOn B5 hB S5
  replace S5 := Nat.lt_of_lt_of_le S5 hB.size
  replace I1 := ints_on I1 hB
  replace I2 := ints_on I2 hB
  replace I3 := ints_on I3 hB
  replace I4 := ints_on I4 hB
  replace I5 := ints_on I5 hB
  have I6 := ints_all hI
  clear p4 q4 r4 u4 v4 x4 p2 q2 r2 u2 v2 x2
  try clear hw
  clear hB a10 hI
  have hB := (Below.refl w11.heap.size w11).alloc (Nat.le_refl _) (.cells #[.bool bk.neg, .slice G6 m6 o6, .int .i64 bk.e] 24)
  have B6 := heap_alloc_last w11 (.cells #[.bool bk.neg, .slice G6 m6 o6, .int .i64 bk.e] 24)
  have S6 : w11.heap.size < (w11.alloc (.cells #[.bool bk.neg, .slice G6 m6 o6, .int .i64 bk.e] 24)).heap.size := by simp
  have a12 := a11.on hB
  replace B1 := boxOn B1 hB S1
  replace S1 := Nat.lt_of_lt_of_le S1 hB.size
  replace B2 := boxOn B2 hB S2
  replace S2 := Nat.lt_of_lt_of_le S2 hB.size
  replace B3 := boxOn B3 hB S3
  replace S3 := Nat.lt_of_lt_of_le S3 hB.size
  replace B4 := boxOn B4 hB S4
  replace S4 := Nat.lt_of_lt_of_le S4 hB.size
  replace B5 := boxOn B5 hB S5
  replace S5 := Nat.lt_of_lt_of_le S5 hB.size
  replace I1 := ints_on I1 hB
  replace I2 := ints_on I2 hB
  replace I3 := ints_on I3 hB
  replace I4 := ints_on I4 hB
  replace I5 := ints_on I5 hB
  replace I6 := ints_on I6 hB
  generalize hw : (w11.alloc (.cells #[.bool bk.neg, .slice G6 m6 o6, .int .i64 bk.e] 24)) = w12 at *
  clear hB a11
  by_cases h0 : e = 0
  · subst h0
    obtain ⟨g0, hbk, hm1⟩ := L3.out rfl
    subst g0
    have HBK := Lib.hid hbk
    have HM1 := Lib.hid hm1
    have L5 := Lib.hid (L4.out rfl)
    clear hbk hm1 L4 L3
    obtain ⟨⟨p6, q6, r6⟩, u6, v6, x6⟩ := boxD B6
    obtain ⟨⟨p1, q1, r1⟩, u1, v1, x1⟩ := boxD B1
    go_wp2_with fail
    refine (Pa.dyadSame_any w12 _ _ _ _ _ _ _ _ _ _ _ _ I6 I1 true (same_raw d1.out HM1.out HBK.out)).mono ?_
    rintro e' w13 ⟨rfl, hB⟩
    have a13 := a12.on hB
    replace B1 := boxOn B1 hB S1
    replace S1 := Nat.lt_of_lt_of_le S1 hB.size
    replace B2 := boxOn B2 hB S2
    replace S2 := Nat.lt_of_lt_of_le S2 hB.size
    replace B3 := boxOn B3 hB S3
    replace S3 := Nat.lt_of_lt_of_le S3 hB.size
    replace B4 := boxOn B4 hB S4
    replace S4 := Nat.lt_of_lt_of_le S4 hB.size
    replace B5 := boxOn B5 hB S5
    replace S5 := Nat.lt_of_lt_of_le S5 hB.size
    replace B6 := boxOn B6 hB S6
    replace S6 := Nat.lt_of_lt_of_le S6 hB.size
    replace I1 := ints_on I1 hB
    replace I2 := ints_on I2 hB
    replace I3 := ints_on I3 hB
    replace I4 := ints_on I4 hB
    replace I5 := ints_on I5 hB
    replace I6 := ints_on I6 hB
    clear p6 q6 r6 u6 v6 x6 p1 q1 r1 u1 v1 x1
    try clear hw
    clear hB a12
    obtain ⟨⟨p4, q4, r4⟩, u4, v4, x4⟩ := boxD B4
    obtain ⟨⟨p3, q3, r3⟩, u3, v3, x3⟩ := boxD B3
    go_wp2_with fail
    refine (Add_all w13 x.neg s3 G4 A3 m4 o4 n3 c3 (canon 4294967296 x.m) xs3 x.e e3 I4 I3 a13.tab p h HP.out).mono ?_
    rintro e' w14 ⟨G7, m7, o7, rfl, hc7, hB, hI⟩
    have a14 := a13.on hB
    replace B1 := boxOn B1 hB S1
    replace S1 := Nat.lt_of_lt_of_le S1 hB.size
    replace B2 := boxOn B2 hB S2
    replace S2 := Nat.lt_of_lt_of_le S2 hB.size
    replace B3 := boxOn B3 hB S3
    replace S3 := Nat.lt_of_lt_of_le S3 hB.size
    replace B4 := boxOn B4 hB S4
    replace S4 := Nat.lt_of_lt_of_le S4 hB.size
    replace B5 := boxOn B5 hB S5
    replace S5 := Nat.lt_of_lt_of_le S5 hB.size
    replace B6 := boxOn B6 hB S6
    replace S6 := Nat.lt_of_lt_of_le S6 hB.size
    replace I1 := ints_on I1 hB
    replace I2 := ints_on I2 hB
    replace I3 := ints_on I3 hB
    replace I4 := ints_on I4 hB
    replace I5 := ints_on I5 hB
    replace I6 := ints_on I6 hB
    have I7 := ints_all hI
    clear p4 q4 r4 u4 v4 x4 p3 q3 r3 u3 v3 x3
    try clear hw
    clear hB a13 hI
    have hB := (Below.refl w14.heap.size w14).alloc (Nat.le_refl _) (.cells #[.bool p.neg, .slice G7 m7 o7, .int .i64 p.e] 24)
    have B7 := heap_alloc_last w14 (.cells #[.bool p.neg, .slice G7 m7 o7, .int .i64 p.e] 24)
    have S7 : w14.heap.size < (w14.alloc (.cells #[.bool p.neg, .slice G7 m7 o7, .int .i64 p.e] 24)).heap.size := by simp
    have a15 := a14.on hB
    replace B1 := boxOn B1 hB S1
    replace S1 := Nat.lt_of_lt_of_le S1 hB.size
    replace B2 := boxOn B2 hB S2
    replace S2 := Nat.lt_of_lt_of_le S2 hB.size
    replace B3 := boxOn B3 hB S3
    replace S3 := Nat.lt_of_lt_of_le S3 hB.size
    replace B4 := boxOn B4 hB S4
    replace S4 := Nat.lt_of_lt_of_le S4 hB.size
    replace B5 := boxOn B5 hB S5
    replace S5 := Nat.lt_of_lt_of_le S5 hB.size
    replace B6 := boxOn B6 hB S6
    replace S6 := Nat.lt_of_lt_of_le S6 hB.size
    replace I1 := ints_on I1 hB
    replace I2 := ints_on I2 hB
    replace I3 := ints_on I3 hB
    replace I4 := ints_on I4 hB
    replace I5 := ints_on I5 hB
    replace I6 := ints_on I6 hB
    replace I7 := ints_on I7 hB
    generalize hw : (w14.alloc (.cells #[.bool p.neg, .slice G7 m7 o7, .int .i64 p.e] 24)) = w15 at *
    clear hB a14
    obtain ⟨⟨p2, q2, r2⟩, u2, v2, x2⟩ := boxD B2
    obtain ⟨⟨p3, q3, r3⟩, u3, v3, x3⟩ := boxD B3
    go_wp2_with fail
    refine (Add_all w15 s2 s3 A2 A3 n2 c2 n3 c3 xs2 xs3 e2 e3 I2 I3 a15.tab q i HQ.out).mono ?_
    rintro e' w16 ⟨G8, m8, o8, rfl, hc8, hB, hI⟩
    have a16 := a15.on hB
    replace B1 := boxOn B1 hB S1
    replace S1 := Nat.lt_of_lt_of_le S1 hB.size
    replace B2 := boxOn B2 hB S2
    replace S2 := Nat.lt_of_lt_of_le S2 hB.size
    replace B3 := boxOn B3 hB S3
    replace S3 := Nat.lt_of_lt_of_le S3 hB.size
    replace B4 := boxOn B4 hB S4
    replace S4 := Nat.lt_of_lt_of_le S4 hB.size
    replace B5 := boxOn B5 hB S5
    replace S5 := Nat.lt_of_lt_of_le S5 hB.size
    replace B6 := boxOn B6 hB S6
    replace S6 := Nat.lt_of_lt_of_le S6 hB.size
    replace B7 := boxOn B7 hB S7
    replace S7 := Nat.lt_of_lt_of_le S7 hB.size
    replace I1 := ints_on I1 hB
    replace I2 := ints_on I2 hB
    replace I3 := ints_on I3 hB
    replace I4 := ints_on I4 hB
    replace I5 := ints_on I5 hB
    replace I6 := ints_on I6 hB
    replace I7 := ints_on I7 hB
    have I8 := ints_all hI
    clear p2 q2 r2 u2 v2 x2 p3 q3 r3 u3 v3 x3
    try clear hw
    clear hB a15 hI
    have hB := (Below.refl w16.heap.size w16).alloc (Nat.le_refl _) (.cells #[.bool q.neg, .slice G8 m8 o8, .int .i64 q.e] 24)
    have B8 := heap_alloc_last w16 (.cells #[.bool q.neg, .slice G8 m8 o8, .int .i64 q.e] 24)
    have S8 : w16.heap.size < (w16.alloc (.cells #[.bool q.neg, .slice G8 m8 o8, .int .i64 q.e] 24)).heap.size := by simp
    have a17 := a16.on hB
    replace B1 := boxOn B1 hB S1
    replace S1 := Nat.lt_of_lt_of_le S1 hB.size
    replace B2 := boxOn B2 hB S2
    replace S2 := Nat.lt_of_lt_of_le S2 hB.size
    replace B3 := boxOn B3 hB S3
    replace S3 := Nat.lt_of_lt_of_le S3 hB.size
    replace B4 := boxOn B4 hB S4
    replace S4 := Nat.lt_of_lt_of_le S4 hB.size
    replace B5 := boxOn B5 hB S5
    replace S5 := Nat.lt_of_lt_of_le S5 hB.size
    replace B6 := boxOn B6 hB S6
    replace S6 := Nat.lt_of_lt_of_le S6 hB.size
    replace B7 := boxOn B7 hB S7
    replace S7 := Nat.lt_of_lt_of_le S7 hB.size
    replace I1 := ints_on I1 hB
    replace I2 := ints_on I2 hB
    replace I3 := ints_on I3 hB
    replace I4 := ints_on I4 hB
    replace I5 := ints_on I5 hB
    replace I6 := ints_on I6 hB
    replace I7 := ints_on I7 hB
    replace I8 := ints_on I8 hB
    generalize hw : (w16.alloc (.cells #[.bool q.neg, .slice G8 m8 o8, .int .i64 q.e] 24)) = w17 at *
    clear hB a16
    obtain ⟨⟨p1, q1, r1⟩, u1, v1, x1⟩ := boxD B1
    obtain ⟨⟨p8, q8, r8⟩, u8, v8, x8⟩ := boxD B8
    go_wp2_with fail
    refine (Add_all w17 s1 q.neg A1 G8 n1 c1 m8 o8 xs1 (canon 4294967296 q.m) e1 q.e I1 I8 a17.tab r j HR.out).mono ?_
    rintro e' w18 ⟨G9, m9, o9, rfl, hc9, hB, hI⟩
    have a18 := a17.on hB
    replace B1 := boxOn B1 hB S1
    replace S1 := Nat.lt_of_lt_of_le S1 hB.size
    replace B2 := boxOn B2 hB S2
    replace S2 := Nat.lt_of_lt_of_le S2 hB.size
    replace B3 := boxOn B3 hB S3
    replace S3 := Nat.lt_of_lt_of_le S3 hB.size
    replace B4 := boxOn B4 hB S4
    replace S4 := Nat.lt_of_lt_of_le S4 hB.size
    replace B5 := boxOn B5 hB S5
    replace S5 := Nat.lt_of_lt_of_le S5 hB.size
    replace B6 := boxOn B6 hB S6
    replace S6 := Nat.lt_of_lt_of_le S6 hB.size
    replace B7 := boxOn B7 hB S7
    replace S7 := Nat.lt_of_lt_of_le S7 hB.size
    replace B8 := boxOn B8 hB S8
    replace S8 := Nat.lt_of_lt_of_le S8 hB.size
    replace I1 := ints_on I1 hB
    replace I2 := ints_on I2 hB
    replace I3 := ints_on I3 hB
    replace I4 := ints_on I4 hB
    replace I5 := ints_on I5 hB
    replace I6 := ints_on I6 hB
    replace I7 := ints_on I7 hB
    replace I8 := ints_on I8 hB
    have I9 := ints_all hI
    clear p1 q1 r1 u1 v1 x1 p8 q8 r8 u8 v8 x8
    try clear hw
    clear hB a17 hI
    have hB := (Below.refl w18.heap.size w18).alloc (Nat.le_refl _) (.cells #[.bool r.neg, .slice G9 m9 o9, .int .i64 r.e] 24)
    have B9 := heap_alloc_last w18 (.cells #[.bool r.neg, .slice G9 m9 o9, .int .i64 r.e] 24)
    have S9 : w18.heap.size < (w18.alloc (.cells #[.bool r.neg, .slice G9 m9 o9, .int .i64 r.e] 24)).heap.size := by simp
    have a19 := a18.on hB
    replace B1 := boxOn B1 hB S1
    replace S1 := Nat.lt_of_lt_of_le S1 hB.size
    replace B2 := boxOn B2 hB S2
    replace S2 := Nat.lt_of_lt_of_le S2 hB.size
    replace B3 := boxOn B3 hB S3
    replace S3 := Nat.lt_of_lt_of_le S3 hB.size
    replace B4 := boxOn B4 hB S4
    replace S4 := Nat.lt_of_lt_of_le S4 hB.size
    replace B5 := boxOn B5 hB S5
    replace S5 := Nat.lt_of_lt_of_le S5 hB.size
    replace B6 := boxOn B6 hB S6
    replace S6 := Nat.lt_of_lt_of_le S6 hB.size
    replace B7 := boxOn B7 hB S7
    replace S7 := Nat.lt_of_lt_of_le S7 hB.size
    replace B8 := boxOn B8 hB S8
    replace S8 := Nat.lt_of_lt_of_le S8 hB.size
    replace I1 := ints_on I1 hB
    replace I2 := ints_on I2 hB
    replace I3 := ints_on I3 hB
    replace I4 := ints_on I4 hB
    replace I5 := ints_on I5 hB
    replace I6 := ints_on I6 hB
    replace I7 := ints_on I7 hB
    replace I8 := ints_on I8 hB
    replace I9 := ints_on I9 hB
    generalize hw : (w18.alloc (.cells #[.bool r.neg, .slice G9 m9 o9, .int .i64 r.e] 24)) = w19 at *
    clear hB a18
    by_cases h1 : h = 0
    · subst h1
      by_cases h2 : i = 0
      · subst h2
        obtain ⟨j0, hpr⟩ := L5.out rfl rfl
        subst j0 hpr
        obtain ⟨⟨p7, q7, r7⟩, u7, v7, x7⟩ := boxD B7
        obtain ⟨⟨p9, q9, r9⟩, u9, v9, x9⟩ := boxD B9
        go_wp2_with fail
        refine (Pa.dyadSame_any w19 _ _ _ _ _ _ _ _ _ _ _ _ I7 I9 true (same_res (a := p) (b := p) rfl rfl rfl rfl rfl rfl rfl)).mono ?_
        rintro e' w20 ⟨rfl, hB⟩
        have a20 := a19.on hB
        replace B1 := boxOn B1 hB S1
        replace S1 := Nat.lt_of_lt_of_le S1 hB.size
        replace B2 := boxOn B2 hB S2
        replace S2 := Nat.lt_of_lt_of_le S2 hB.size
        replace B3 := boxOn B3 hB S3
        replace S3 := Nat.lt_of_lt_of_le S3 hB.size
        replace B4 := boxOn B4 hB S4
        replace S4 := Nat.lt_of_lt_of_le S4 hB.size
        replace B5 := boxOn B5 hB S5
        replace S5 := Nat.lt_of_lt_of_le S5 hB.size
        replace B6 := boxOn B6 hB S6
        replace S6 := Nat.lt_of_lt_of_le S6 hB.size
        replace B7 := boxOn B7 hB S7
        replace S7 := Nat.lt_of_lt_of_le S7 hB.size
        replace B8 := boxOn B8 hB S8
        replace S8 := Nat.lt_of_lt_of_le S8 hB.size
        replace B9 := boxOn B9 hB S9
        replace S9 := Nat.lt_of_lt_of_le S9 hB.size
        replace I1 := ints_on I1 hB
        replace I2 := ints_on I2 hB
        replace I3 := ints_on I3 hB
        replace I4 := ints_on I4 hB
        replace I5 := ints_on I5 hB
        replace I6 := ints_on I6 hB
        replace I7 := ints_on I7 hB
        replace I8 := ints_on I8 hB
        replace I9 := ints_on I9 hB
        clear p7 q7 r7 u7 v7 x7 p9 q9 r9 u9 v9 x9
        try clear hw
        clear hB a19
        go_wp2
        go_ret
        exact ⟨rfl, a20.below⟩
      · have h3 : (i != 0) = true := by simpa using h2
        go_wp2
        go_ret
        exact ⟨rfl, a19.below⟩
    · have h3 : (h != 0) = true := by simpa using h1
      go_wp2
      go_ret
      exact ⟨rfl, a19.below⟩
  · have h3 : (e != 0) = true := by simpa using h0
    have h4 : (e == 0) = false := by simpa using h0
    obtain ⟨⟨p4, q4, r4⟩, u4, v4, x4⟩ := boxD B4
    obtain ⟨⟨p3, q3, r3⟩, u3, v3, x3⟩ := boxD B3
    go_wp2_with fail
    refine (Add_all w12 x.neg s3 G4 A3 m4 o4 n3 c3 (canon 4294967296 x.m) xs3 x.e e3 I4 I3 a12.tab p h HP.out).mono ?_
    rintro e' w13 ⟨G7, m7, o7, rfl, hc7, hB, hI⟩
    have a13 := a12.on hB
    replace B1 := boxOn B1 hB S1
    replace S1 := Nat.lt_of_lt_of_le S1 hB.size
    replace B2 := boxOn B2 hB S2
    replace S2 := Nat.lt_of_lt_of_le S2 hB.size
    replace B3 := boxOn B3 hB S3
    replace S3 := Nat.lt_of_lt_of_le S3 hB.size
    replace B4 := boxOn B4 hB S4
    replace S4 := Nat.lt_of_lt_of_le S4 hB.size
    replace B5 := boxOn B5 hB S5
    replace S5 := Nat.lt_of_lt_of_le S5 hB.size
    replace B6 := boxOn B6 hB S6
    replace S6 := Nat.lt_of_lt_of_le S6 hB.size
    replace I1 := ints_on I1 hB
    replace I2 := ints_on I2 hB
    replace I3 := ints_on I3 hB
    replace I4 := ints_on I4 hB
    replace I5 := ints_on I5 hB
    replace I6 := ints_on I6 hB
    have I7 := ints_all hI
    clear p4 q4 r4 u4 v4 x4 p3 q3 r3 u3 v3 x3
    try clear hw
    clear hB a12 hI
    have hB := (Below.refl w13.heap.size w13).alloc (Nat.le_refl _) (.cells #[.bool p.neg, .slice G7 m7 o7, .int .i64 p.e] 24)
    have B7 := heap_alloc_last w13 (.cells #[.bool p.neg, .slice G7 m7 o7, .int .i64 p.e] 24)
    have S7 : w13.heap.size < (w13.alloc (.cells #[.bool p.neg, .slice G7 m7 o7, .int .i64 p.e] 24)).heap.size := by simp
    have a14 := a13.on hB
    replace B1 := boxOn B1 hB S1
    replace S1 := Nat.lt_of_lt_of_le S1 hB.size
    replace B2 := boxOn B2 hB S2
    replace S2 := Nat.lt_of_lt_of_le S2 hB.size
    replace B3 := boxOn B3 hB S3
    replace S3 := Nat.lt_of_lt_of_le S3 hB.size
    replace B4 := boxOn B4 hB S4
    replace S4 := Nat.lt_of_lt_of_le S4 hB.size
    replace B5 := boxOn B5 hB S5
    replace S5 := Nat.lt_of_lt_of_le S5 hB.size
    replace B6 := boxOn B6 hB S6
    replace S6 := Nat.lt_of_lt_of_le S6 hB.size
    replace I1 := ints_on I1 hB
    replace I2 := ints_on I2 hB
    replace I3 := ints_on I3 hB
    replace I4 := ints_on I4 hB
    replace I5 := ints_on I5 hB
    replace I6 := ints_on I6 hB
    replace I7 := ints_on I7 hB
    generalize hw : (w13.alloc (.cells #[.bool p.neg, .slice G7 m7 o7, .int .i64 p.e] 24)) = w14 at *
    clear hB a13
    obtain ⟨⟨p2, q2, r2⟩, u2, v2, x2⟩ := boxD B2
    obtain ⟨⟨p3, q3, r3⟩, u3, v3, x3⟩ := boxD B3
    go_wp2_with fail
    refine (Add_all w14 s2 s3 A2 A3 n2 c2 n3 c3 xs2 xs3 e2 e3 I2 I3 a14.tab q i HQ.out).mono ?_
    rintro e' w15 ⟨G8, m8, o8, rfl, hc8, hB, hI⟩
    have a15 := a14.on hB
    replace B1 := boxOn B1 hB S1
    replace S1 := Nat.lt_of_lt_of_le S1 hB.size
    replace B2 := boxOn B2 hB S2
    replace S2 := Nat.lt_of_lt_of_le S2 hB.size
    replace B3 := boxOn B3 hB S3
    replace S3 := Nat.lt_of_lt_of_le S3 hB.size
    replace B4 := boxOn B4 hB S4
    replace S4 := Nat.lt_of_lt_of_le S4 hB.size
    replace B5 := boxOn B5 hB S5
    replace S5 := Nat.lt_of_lt_of_le S5 hB.size
    replace B6 := boxOn B6 hB S6
    replace S6 := Nat.lt_of_lt_of_le S6 hB.size
    replace B7 := boxOn B7 hB S7
    replace S7 := Nat.lt_of_lt_of_le S7 hB.size
    replace I1 := ints_on I1 hB
    replace I2 := ints_on I2 hB
    replace I3 := ints_on I3 hB
    replace I4 := ints_on I4 hB
    replace I5 := ints_on I5 hB
    replace I6 := ints_on I6 hB
    replace I7 := ints_on I7 hB
    have I8 := ints_all hI
    clear p2 q2 r2 u2 v2 x2 p3 q3 r3 u3 v3 x3
    try clear hw
    clear hB a14 hI
    have hB := (Below.refl w15.heap.size w15).alloc (Nat.le_refl _) (.cells #[.bool q.neg, .slice G8 m8 o8, .int .i64 q.e] 24)
    have B8 := heap_alloc_last w15 (.cells #[.bool q.neg, .slice G8 m8 o8, .int .i64 q.e] 24)
    have S8 : w15.heap.size < (w15.alloc (.cells #[.bool q.neg, .slice G8 m8 o8, .int .i64 q.e] 24)).heap.size := by simp
    have a16 := a15.on hB
    replace B1 := boxOn B1 hB S1
    replace S1 := Nat.lt_of_lt_of_le S1 hB.size
    replace B2 := boxOn B2 hB S2
    replace S2 := Nat.lt_of_lt_of_le S2 hB.size
    replace B3 := boxOn B3 hB S3
    replace S3 := Nat.lt_of_lt_of_le S3 hB.size
    replace B4 := boxOn B4 hB S4
    replace S4 := Nat.lt_of_lt_of_le S4 hB.size
    replace B5 := boxOn B5 hB S5
    replace S5 := Nat.lt_of_lt_of_le S5 hB.size
    replace B6 := boxOn B6 hB S6
    replace S6 := Nat.lt_of_lt_of_le S6 hB.size
    replace B7 := boxOn B7 hB S7
    replace S7 := Nat.lt_of_lt_of_le S7 hB.size
    replace I1 := ints_on I1 hB
    replace I2 := ints_on I2 hB
    replace I3 := ints_on I3 hB
    replace I4 := ints_on I4 hB
    replace I5 := ints_on I5 hB
    replace I6 := ints_on I6 hB
    replace I7 := ints_on I7 hB
    replace I8 := ints_on I8 hB
    generalize hw : (w15.alloc (.cells #[.bool q.neg, .slice G8 m8 o8, .int .i64 q.e] 24)) = w16 at *
    clear hB a15
    obtain ⟨⟨p1, q1, r1⟩, u1, v1, x1⟩ := boxD B1
    obtain ⟨⟨p8, q8, r8⟩, u8, v8, x8⟩ := boxD B8
    go_wp2_with fail
    refine (Add_all w16 s1 q.neg A1 G8 n1 c1 m8 o8 xs1 (canon 4294967296 q.m) e1 q.e I1 I8 a16.tab r j HR.out).mono ?_
    rintro e' w17 ⟨G9, m9, o9, rfl, hc9, hB, hI⟩
    have a17 := a16.on hB
    replace B1 := boxOn B1 hB S1
    replace S1 := Nat.lt_of_lt_of_le S1 hB.size
    replace B2 := boxOn B2 hB S2
    replace S2 := Nat.lt_of_lt_of_le S2 hB.size
    replace B3 := boxOn B3 hB S3
    replace S3 := Nat.lt_of_lt_of_le S3 hB.size
    replace B4 := boxOn B4 hB S4
    replace S4 := Nat.lt_of_lt_of_le S4 hB.size
    replace B5 := boxOn B5 hB S5
    replace S5 := Nat.lt_of_lt_of_le S5 hB.size
    replace B6 := boxOn B6 hB S6
    replace S6 := Nat.lt_of_lt_of_le S6 hB.size
    replace B7 := boxOn B7 hB S7
    replace S7 := Nat.lt_of_lt_of_le S7 hB.size
    replace B8 := boxOn B8 hB S8
    replace S8 := Nat.lt_of_lt_of_le S8 hB.size
    replace I1 := ints_on I1 hB
    replace I2 := ints_on I2 hB
    replace I3 := ints_on I3 hB
    replace I4 := ints_on I4 hB
    replace I5 := ints_on I5 hB
    replace I6 := ints_on I6 hB
    replace I7 := ints_on I7 hB
    replace I8 := ints_on I8 hB
    have I9 := ints_all hI
    clear p1 q1 r1 u1 v1 x1 p8 q8 r8 u8 v8 x8
    try clear hw
    clear hB a16 hI
    have hB := (Below.refl w17.heap.size w17).alloc (Nat.le_refl _) (.cells #[.bool r.neg, .slice G9 m9 o9, .int .i64 r.e] 24)
    have B9 := heap_alloc_last w17 (.cells #[.bool r.neg, .slice G9 m9 o9, .int .i64 r.e] 24)
    have S9 : w17.heap.size < (w17.alloc (.cells #[.bool r.neg, .slice G9 m9 o9, .int .i64 r.e] 24)).heap.size := by simp
    have a18 := a17.on hB
    replace B1 := boxOn B1 hB S1
    replace S1 := Nat.lt_of_lt_of_le S1 hB.size
    replace B2 := boxOn B2 hB S2
    replace S2 := Nat.lt_of_lt_of_le S2 hB.size
    replace B3 := boxOn B3 hB S3
    replace S3 := Nat.lt_of_lt_of_le S3 hB.size
    replace B4 := boxOn B4 hB S4
    replace S4 := Nat.lt_of_lt_of_le S4 hB.size
    replace B5 := boxOn B5 hB S5
    replace S5 := Nat.lt_of_lt_of_le S5 hB.size
    replace B6 := boxOn B6 hB S6
    replace S6 := Nat.lt_of_lt_of_le S6 hB.size
    replace B7 := boxOn B7 hB S7
    replace S7 := Nat.lt_of_lt_of_le S7 hB.size
    replace B8 := boxOn B8 hB S8
    replace S8 := Nat.lt_of_lt_of_le S8 hB.size
    replace I1 := ints_on I1 hB
    replace I2 := ints_on I2 hB
    replace I3 := ints_on I3 hB
    replace I4 := ints_on I4 hB
    replace I5 := ints_on I5 hB
    replace I6 := ints_on I6 hB
    replace I7 := ints_on I7 hB
    replace I8 := ints_on I8 hB
    replace I9 := ints_on I9 hB
    generalize hw : (w17.alloc (.cells #[.bool r.neg, .slice G9 m9 o9, .int .i64 r.e] 24)) = w18 at *
    clear hB a17
    go_wp2
    go_ret
    exact ⟨rfl, a18.below⟩
end Dy
end Go.Proofs.YtlbkepiflhchdaaDoor
