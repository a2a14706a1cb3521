/- The law RatioScales: a walk (printed by a program of mine). -/
/- What every statement's row asks beside its walk: arguments that read as data hold what our predicates say; behind the call they read as before. -/
/- What a statement behind the door asks beside its walk: the table of bits.TrailingZeros32 lies in its variable; dyads among the arguments. -/
/- Dyads among the arguments. -/
/- RegionE: an operation whose guard says no. No program in sight. -/
/- Facts are moved along a chain of calls. No function in sight. -/
import Derived.Test.YtbbnbgllgomolaaDoorBr09
import Derived.ProofKit
import Derived.Test.YtbbnbgllgomolaaDoorBr01
import Derived.Test.YtbbnbgllgomolaaDoorRows
import Derived.LaidMore
import Derived.OpenShut
import Derived.Stop.Joined
import Derived.Test.YtbbnbgllgomolaaDoorBr08
import Derived.Lib.SmallJoins
import Derived.Deep.SlicePairs
import Derived.Test.YtbbnbgllgomolaaDoorBr02
namespace Go.Proofs.YtbbnbgllgomolaaDoor
open Go.RowKit
namespace Dy
open Dp
set_option maxHeartbeats 12800000 in
set_option maxRecDepth 100000 in
theorem scales_walk (w : World) (s1 : Bool) (A1 : Option Addr) (n1 c1 : Nat) (xs1 : List Int) (e1 : Int) (I1 : Ints w 0 w.heap.size .u32 A1 n1 xs1) (s2 : Bool) (A2 : Option Addr) (n2 c2 : Nat) (xs2 : List Int) (e2 : Int) (I2 : Ints w 0 w.heap.size .u32 A2 n2 xs2) (k : Int) (hT : Tab w) :
    Calls Tryd.prog 4 #[.agg #[.bool s1, .slice A1 n1 c1, .int .i64 e1], .agg #[.bool s2, .slice A2 n2 c2, .int .i64 e2], .int .i64 k] w (Yes w) := by
  have d1 := Lib.hid (dig_ints I1)
  have d2 := Lib.hid (dig_ints I2)
  have l1 := Lib.hid I1.len
  have l2 := Lib.hid I2.len
  generalize hw : (w.alloc (.cells #[.bool s1, .slice A1 n1 c1, .int .i64 e1] 24)).alloc (.cells #[.bool s2, .slice A2 n2 c2, .int .i64 e2] 24) = w1
  have a1 : Amid w w1 := by rw [← hw]; exact (Amid.alloc ⟨Below.refl _ _, hT⟩ _).alloc _
  have sz : w1.heap.size = w.heap.size + 2 := by rw [← hw]; simp
  have B1 : w1.heap[w.heap.size]? = some (.cells #[.bool s1, .slice A1 n1 c1, .int .i64 e1] 24 (0, 0)) := by
    rw [← hw, Below.heap_alloc _ _ _ (by simp)]
    exact heap_alloc_last _ _
  have B2 : w1.heap[w.heap.size + 1]? = some (.cells #[.bool s2, .slice A2 n2 c2, .int .i64 e2] 24 (0, 0)) := by
    rw [← hw]
    exact heap_alloc2_new _ _ _
  have S1 : w.heap.size < w1.heap.size := by omega
  have S2 : w.heap.size + 1 < w1.heap.size := by omega
  replace I1 : Ints w1 0 w1.heap.size .u32 A1 n1 xs1 := (I1.below a1.below (Nat.le_refl _)).more (Nat.le_refl _) (by omega)
  replace I2 : Ints w1 0 w1.heap.size .u32 A2 n2 xs2 := (I2.below a1.below (Nat.le_refl _)).more (Nat.le_refl _) (by omega)
  clear sz
  go_enter Tryd.func4, Tryd.ntmps4
  go_wp2_with fail
  refine (aliveR_any w1 a1.tab).mono ?_
  rintro e' w2 ⟨rfl, hB⟩
  have a2 := a1.on hB
  replace B1 := boxOn B1 hB S1
  replace S1 := Nat.lt_of_lt_of_le S1 hB.size
  replace B2 := boxOn B2 hB S2
  replace S2 := Nat.lt_of_lt_of_le S2 hB.size
  replace I1 := ints_on I1 hB
  replace I2 := ints_on I2 hB
  try clear hw
  clear hB a1
  obtain ⟨⟨p1, q1, r1⟩, u1, v1, x1⟩ := boxD B1
  go_wp2_with fail
  obtain ⟨gr1, hgr1⟩ : ∃ gr, Pa.Dy.great ⟨s1, xs1, e1⟩ = gr := ⟨_, rfl⟩
  refine (Pa.rGreat_any w2 s1 A1 n1 c1 xs1 e1 l1.out gr1 hgr1).mono ?_
  rintro e' w3 ⟨rfl, hB⟩
  have a3 := a2.on hB
  replace B1 := boxOn B1 hB S1
  replace S1 := Nat.lt_of_lt_of_le S1 hB.size
  replace B2 := boxOn B2 hB S2
  replace S2 := Nat.lt_of_lt_of_le S2 hB.size
  replace I1 := ints_on I1 hB
  replace I2 := ints_on I2 hB
  clear p1 q1 r1 u1 v1 x1
  try clear hw
  clear hB a2
  clear hgr1
  cases gr1
  rotate_left
  · go_wp2
    go_ret
    exact ⟨rfl, a3.below⟩
  obtain ⟨⟨p2, q2, r2⟩, u2, v2, x2⟩ := boxD B2
  go_wp2_with fail
  obtain ⟨gr2, hgr2⟩ : ∃ gr, Pa.Dy.great ⟨s2, xs2, e2⟩ = gr := ⟨_, rfl⟩
  refine (Pa.rGreat_any w3 s2 A2 n2 c2 xs2 e2 l2.out gr2 hgr2).mono ?_
  rintro e' w4 ⟨rfl, hB⟩
  have a4 := a3.on hB
  replace B1 := boxOn B1 hB S1
  replace S1 := Nat.lt_of_lt_of_le S1 hB.size
  replace B2 := boxOn B2 hB S2
  replace S2 := Nat.lt_of_lt_of_le S2 hB.size
  replace I1 := ints_on I1 hB
  replace I2 := ints_on I2 hB
  clear p2 q2 r2 u2 v2 x2
  try clear hw
  clear hB a3
  clear hgr2
  cases gr2
  rotate_left
  · go_wp2
    go_ret
    exact ⟨rfl, a4.below⟩
  obtain ⟨c, e, hc⟩ : ∃ c e, halfX s1 xs1 e1 = (c, e) := ⟨_, _, rfl⟩
  obtain ⟨d, f, hd⟩ : ∃ d f, halfX s2 xs2 e2 = (d, f) := ⟨_, _, rfl⟩
  obtain ⟨x, g, hx⟩ : ∃ x g, toX s1 xs1 e1 s2 xs2 e2 k s1 = (x, g) := ⟨_, _, rfl⟩
  have HC := Lib.hid hc
  have HD := Lib.hid hd
  have HX := Lib.hid hx
  clear hc hd hx
  obtain ⟨⟨p1, q1, r1⟩, u1, v1, x1⟩ := boxD B1
  go_wp2_with fail
  refine (Half_all w4 s1 A1 n1 c1 xs1 e1 I1 a4.tab c e HC.out).mono ?_
  rintro e' w5 ⟨G3, m3, o3, rfl, hc3, hB, hI⟩
  have a5 := a4.on hB
  replace B1 := boxOn B1 hB S1
  replace S1 := Nat.lt_of_lt_of_le S1 hB.size
  replace B2 := boxOn B2 hB S2
  replace S2 := Nat.lt_of_lt_of_le S2 hB.size
  replace I1 := ints_on I1 hB
  replace I2 := ints_on I2 hB
  have I3 := ints_all hI
  clear p1 q1 r1 u1 v1 x1
  try clear hw
  clear hB a4 hI
  have hB := (Below.refl w5.heap.size w5).alloc (Nat.le_refl _) (.cells #[.bool c.neg, .slice G3 m3 o3, .int .i64 c.e] 24)
  have B3 := heap_alloc_last w5 (.cells #[.bool c.neg, .slice G3 m3 o3, .int .i64 c.e] 24)
  have S3 : w5.heap.size < (w5.alloc (.cells #[.bool c.neg, .slice G3 m3 o3, .int .i64 c.e] 24)).heap.size := by simp
  have a6 := a5.on hB
  replace B1 := boxOn B1 hB S1
  replace S1 := Nat.lt_of_lt_of_le S1 hB.size
  replace B2 := boxOn B2 hB S2
  replace S2 := Nat.lt_of_lt_of_le S2 hB.size
  replace I1 := ints_on I1 hB
  replace I2 := ints_on I2 hB
  replace I3 := ints_on I3 hB
  generalize hw : (w5.alloc (.cells #[.bool c.neg, .slice G3 m3 o3, .int .i64 c.e] 24)) = w6 at *
  clear hB a5
  obtain ⟨⟨p2, q2, r2⟩, u2, v2, x2⟩ := boxD B2
  go_wp2_with fail
  refine (Half_all w6 s2 A2 n2 c2 xs2 e2 I2 a6.tab d f HD.out).mono ?_
  rintro e' w7 ⟨G4, m4, o4, rfl, hc4, hB, hI⟩
  have a7 := a6.on hB
  replace B1 := boxOn B1 hB S1
  replace S1 := Nat.lt_of_lt_of_le S1 hB.size
  replace B2 := boxOn B2 hB S2
  replace S2 := Nat.lt_of_lt_of_le S2 hB.size
  replace B3 := boxOn B3 hB S3
  replace S3 := Nat.lt_of_lt_of_le S3 hB.size
  replace I1 := ints_on I1 hB
  replace I2 := ints_on I2 hB
  replace I3 := ints_on I3 hB
  have I4 := ints_all hI
  clear p2 q2 r2 u2 v2 x2
  try clear hw
  clear hB a6 hI
  have hB := (Below.refl w7.heap.size w7).alloc (Nat.le_refl _) (.cells #[.bool d.neg, .slice G4 m4 o4, .int .i64 d.e] 24)
  have B4 := heap_alloc_last w7 (.cells #[.bool d.neg, .slice G4 m4 o4, .int .i64 d.e] 24)
  have S4 : w7.heap.size < (w7.alloc (.cells #[.bool d.neg, .slice G4 m4 o4, .int .i64 d.e] 24)).heap.size := by simp
  have a8 := a7.on hB
  replace B1 := boxOn B1 hB S1
  replace S1 := Nat.lt_of_lt_of_le S1 hB.size
  replace B2 := boxOn B2 hB S2
  replace S2 := Nat.lt_of_lt_of_le S2 hB.size
  replace B3 := boxOn B3 hB S3
  replace S3 := Nat.lt_of_lt_of_le S3 hB.size
  replace I1 := ints_on I1 hB
  replace I2 := ints_on I2 hB
  replace I3 := ints_on I3 hB
  replace I4 := ints_on I4 hB
  generalize hw : (w7.alloc (.cells #[.bool d.neg, .slice G4 m4 o4, .int .i64 d.e] 24)) = w8 at *
  clear hB a7
  obtain ⟨⟨p1, q1, r1⟩, u1, v1, x1⟩ := boxD B1
  obtain ⟨⟨p2, q2, r2⟩, u2, v2, x2⟩ := boxD B2
  go_wp2_with fail
  refine (Floor_all w8 s1 s2 A1 A2 n1 c1 n2 c2 xs1 xs2 e1 e2 I1 I2 k x g HX.out).mono ?_
  rintro e' w9 ⟨G5, m5, o5, rfl, hc5, hB, hI⟩
  have a9 := a8.on hB
  replace B1 := boxOn B1 hB S1
  replace S1 := Nat.lt_of_lt_of_le S1 hB.size
  replace B2 := boxOn B2 hB S2
  replace S2 := Nat.lt_of_lt_of_le S2 hB.size
  replace B3 := boxOn B3 hB S3
  replace S3 := Nat.lt_of_lt_of_le S3 hB.size
  replace B4 := boxOn B4 hB S4
  replace S4 := Nat.lt_of_lt_of_le S4 hB.size
  replace I1 := ints_on I1 hB
  replace I2 := ints_on I2 hB
  replace I3 := ints_on I3 hB
  replace I4 := ints_on I4 hB
  have I5 := ints_all hI
  clear p1 q1 r1 u1 v1 x1 p2 q2 r2 u2 v2 x2
  try clear hw
  clear hB a8 hI
  have hB := (Below.refl w9.heap.size w9).alloc (Nat.le_refl _) (.cells #[.bool x.neg, .slice G5 m5 o5, .int .i64 x.e] 24)
  have B5 := heap_alloc_last w9 (.cells #[.bool x.neg, .slice G5 m5 o5, .int .i64 x.e] 24)
  have S5 : w9.heap.size < (w9.alloc (.cells #[.bool x.neg, .slice G5 m5 o5, .int .i64 x.e] 24)).heap.size := by simp
  have a10 := a9.on hB
  replace B1 := boxOn B1 hB S1
  replace S1 := Nat.lt_of_lt_of_le S1 hB.size
  replace B2 := boxOn B2 hB S2
  replace S2 := Nat.lt_of_lt_of_le S2 hB.size
  replace B3 := boxOn B3 hB S3
  replace S3 := Nat.lt_of_lt_of_le S3 hB.size
  replace B4 := boxOn B4 hB S4
  replace S4 := Nat.lt_of_lt_of_le S4 hB.size
  replace I1 := ints_on I1 hB
  replace I2 := ints_on I2 hB
  replace I3 := ints_on I3 hB
  replace I4 := ints_on I4 hB
  replace I5 := ints_on I5 hB
  generalize hw : (w9.alloc (.cells #[.bool x.neg, .slice G5 m5 o5, .int .i64 x.e] 24)) = w10 at *
  clear hB a9
  clear hc3 hc4 hc5
  by_cases he : e = 0
  rotate_left
  · have he' : (e == 0) = false := by simpa using he
    go_wp2
    go_ret
    exact ⟨rfl, a10.below⟩
  subst he
  by_cases hf : f = 0
  rotate_left
  · have hf' : (f == 0) = false := by simpa using hf
    go_wp2
    go_ret
    exact ⟨rfl, a10.below⟩
  subst hf
  by_cases hg : g = 0
  rotate_left
  · have hg' : (g == 0) = false := by simpa using hg
    go_wp2
    go_ret
    exact ⟨rfl, a10.below⟩
  subst hg
  obtain ⟨L1, L2⟩ := scales_law d1.out d2.out HC.out HD.out HX.out
  have L1' := Lib.hid L1
  have L2' := Lib.hid L2
  clear L1 L2
  obtain ⟨⟨p3, q3, r3⟩, u3, v3, x3⟩ := boxD B3
  obtain ⟨⟨p4, q4, r4⟩, u4, v4, x4⟩ := boxD B4
  go_wp2_with fail
  refine (Floor_all w10 c.neg d.neg G3 G4 m3 o3 m4 o4 _ _ c.e d.e I3 I4 k x 0 L1'.out).mono ?_
  rintro e' w11 ⟨G6, m6, o6, rfl, hc6, hB, hI⟩
  have a11 := a10.on hB
  replace B1 := boxOn B1 hB S1
  replace S1 := Nat.lt_of_lt_of_le S1 hB.size
  replace B2 := boxOn B2 hB S2
  replace S2 := Nat.lt_of_lt_of_le S2 hB.size
  replace B3 := boxOn B3 hB S3
  replace S3 := Nat.lt_of_lt_of_le S3 hB.size
  replace B4 := boxOn B4 hB S4
  replace S4 := Nat.lt_of_lt_of_le S4 hB.size
  replace B5 := boxOn B5 hB S5
  replace S5 := Nat.lt_of_lt_of_le S5 hB.size
  replace I1 := ints_on I1 hB
  replace I2 := ints_on I2 hB
  replace I3 := ints_on I3 hB
  replace I4 := ints_on I4 hB
  replace I5 := ints_on I5 hB
  have I6 := ints_all hI
  clear p3 q3 r3 u3 v3 x3 p4 q4 r4 u4 v4 x4
  try clear hw
  clear hB a10 hI
  have hB := (Below.refl w11.heap.size w11).alloc (Nat.le_refl _) (.cells #[.bool x.neg, .slice G6 m6 o6, .int .i64 x.e] 24)
  have B6 := heap_alloc_last w11 (.cells #[.bool x.neg, .slice G6 m6 o6, .int .i64 x.e] 24)
  have S6 : w11.heap.size < (w11.alloc (.cells #[.bool x.neg, .slice G6 m6 o6, .int .i64 x.e] 24)).heap.size := by simp
  have a12 := a11.on hB
  replace B1 := boxOn B1 hB S1
  replace S1 := Nat.lt_of_lt_of_le S1 hB.size
  replace B2 := boxOn B2 hB S2
  replace S2 := Nat.lt_of_lt_of_le S2 hB.size
  replace B3 := boxOn B3 hB S3
  replace S3 := Nat.lt_of_lt_of_le S3 hB.size
  replace B4 := boxOn B4 hB S4
  replace S4 := Nat.lt_of_lt_of_le S4 hB.size
  replace B5 := boxOn B5 hB S5
  replace S5 := Nat.lt_of_lt_of_le S5 hB.size
  replace I1 := ints_on I1 hB
  replace I2 := ints_on I2 hB
  replace I3 := ints_on I3 hB
  replace I4 := ints_on I4 hB
  replace I5 := ints_on I5 hB
  replace I6 := ints_on I6 hB
  generalize hw : (w11.alloc (.cells #[.bool x.neg, .slice G6 m6 o6, .int .i64 x.e] 24)) = w12 at *
  clear hB a11
  obtain ⟨⟨p5, q5, r5⟩, u5, v5, x5⟩ := boxD B5
  obtain ⟨⟨p6, q6, r6⟩, u6, v6, x6⟩ := boxD B6
  go_wp2_with fail
  refine (Pa.dyadSame_any w12 _ _ _ _ _ _ _ _ _ _ _ _ I5 I6 true (same_true rfl rfl rfl)).mono ?_
  rintro e' w13 ⟨rfl, hB⟩
  have a13 := a12.on hB
  replace B1 := boxOn B1 hB S1
  replace S1 := Nat.lt_of_lt_of_le S1 hB.size
  replace B2 := boxOn B2 hB S2
  replace S2 := Nat.lt_of_lt_of_le S2 hB.size
  replace B3 := boxOn B3 hB S3
  replace S3 := Nat.lt_of_lt_of_le S3 hB.size
  replace B4 := boxOn B4 hB S4
  replace S4 := Nat.lt_of_lt_of_le S4 hB.size
  replace B5 := boxOn B5 hB S5
  replace S5 := Nat.lt_of_lt_of_le S5 hB.size
  replace B6 := boxOn B6 hB S6
  replace S6 := Nat.lt_of_lt_of_le S6 hB.size
  replace I1 := ints_on I1 hB
  replace I2 := ints_on I2 hB
  replace I3 := ints_on I3 hB
  replace I4 := ints_on I4 hB
  replace I5 := ints_on I5 hB
  replace I6 := ints_on I6 hB
  clear p5 q5 r5 u5 v5 x5 p6 q6 r6 u6 v6 x6
  try clear hw
  clear hB a12
  by_cases hk : 63 < k
  · have hk' : decide (63 < k) = true := decide_eq_true hk
    go_wp2
    go_ret
    exact ⟨rfl, a13.below⟩
  · have hk' : decide (63 < k) = false := decide_eq_false hk
    obtain ⟨z, hz1, hz2⟩ := L2'.out (by omega)
    have HZ1 := Lib.hid hz1
    have HZ2 := Lib.hid hz2
    have hkk := (toX_zero HX.out).1
    have hk0 : 0 ≤ k := hkk.2.2.2.2.1
    have hk1 : k < 64 := by omega
    clear hkk
    clear hz1 hz2 L1' L2'
    obtain ⟨⟨p3, q3, r3⟩, u3, v3, x3⟩ := boxD B3
    obtain ⟨⟨p2, q2, r2⟩, u2, v2, x2⟩ := boxD B2
    go_wp2_with fail
    refine (Floor_all w13 c.neg s2 G3 A2 m3 o3 n2 c2 _ _ c.e e2 I3 I2 (k + 1) z 0 HZ1.out).mono ?_
    rintro e' w14 ⟨G7, m7, o7, rfl, hc7, hB, hI⟩
    have a14 := a13.on hB
    replace B1 := boxOn B1 hB S1
    replace S1 := Nat.lt_of_lt_of_le S1 hB.size
    replace B2 := boxOn B2 hB S2
    replace S2 := Nat.lt_of_lt_of_le S2 hB.size
    replace B3 := boxOn B3 hB S3
    replace S3 := Nat.lt_of_lt_of_le S3 hB.size
    replace B4 := boxOn B4 hB S4
    replace S4 := Nat.lt_of_lt_of_le S4 hB.size
    replace B5 := boxOn B5 hB S5
    replace S5 := Nat.lt_of_lt_of_le S5 hB.size
    replace B6 := boxOn B6 hB S6
    replace S6 := Nat.lt_of_lt_of_le S6 hB.size
    replace I1 := ints_on I1 hB
    replace I2 := ints_on I2 hB
    replace I3 := ints_on I3 hB
    replace I4 := ints_on I4 hB
    replace I5 := ints_on I5 hB
    replace I6 := ints_on I6 hB
    have I7 := ints_all hI
    clear p3 q3 r3 u3 v3 x3 p2 q2 r2 u2 v2 x2
    try clear hw
    clear hB a13 hI
    have hB := (Below.refl w14.heap.size w14).alloc (Nat.le_refl _) (.cells #[.bool z.neg, .slice G7 m7 o7, .int .i64 z.e] 24)
    have B7 := heap_alloc_last w14 (.cells #[.bool z.neg, .slice G7 m7 o7, .int .i64 z.e] 24)
    have S7 : w14.heap.size < (w14.alloc (.cells #[.bool z.neg, .slice G7 m7 o7, .int .i64 z.e] 24)).heap.size := by simp
    have a15 := a14.on hB
    replace B1 := boxOn B1 hB S1
    replace S1 := Nat.lt_of_lt_of_le S1 hB.size
    replace B2 := boxOn B2 hB S2
    replace S2 := Nat.lt_of_lt_of_le S2 hB.size
    replace B3 := boxOn B3 hB S3
    replace S3 := Nat.lt_of_lt_of_le S3 hB.size
    replace B4 := boxOn B4 hB S4
    replace S4 := Nat.lt_of_lt_of_le S4 hB.size
    replace B5 := boxOn B5 hB S5
    replace S5 := Nat.lt_of_lt_of_le S5 hB.size
    replace B6 := boxOn B6 hB S6
    replace S6 := Nat.lt_of_lt_of_le S6 hB.size
    replace I1 := ints_on I1 hB
    replace I2 := ints_on I2 hB
    replace I3 := ints_on I3 hB
    replace I4 := ints_on I4 hB
    replace I5 := ints_on I5 hB
    replace I6 := ints_on I6 hB
    replace I7 := ints_on I7 hB
    generalize hw : (w14.alloc (.cells #[.bool z.neg, .slice G7 m7 o7, .int .i64 z.e] 24)) = w15 at *
    clear hB a14
    obtain ⟨⟨p5, q5, r5⟩, u5, v5, x5⟩ := boxD B5
    go_wp2_with fail
    refine (Half_all w15 x.neg G5 m5 o5 _ x.e I5 a15.tab z 0 HZ2.out).mono ?_
    rintro e' w16 ⟨G8, m8, o8, rfl, hc8, hB, hI⟩
    have a16 := a15.on hB
    replace B1 := boxOn B1 hB S1
    replace S1 := Nat.lt_of_lt_of_le S1 hB.size
    replace B2 := boxOn B2 hB S2
    replace S2 := Nat.lt_of_lt_of_le S2 hB.size
    replace B3 := boxOn B3 hB S3
    replace S3 := Nat.lt_of_lt_of_le S3 hB.size
    replace B4 := boxOn B4 hB S4
    replace S4 := Nat.lt_of_lt_of_le S4 hB.size
    replace B5 := boxOn B5 hB S5
    replace S5 := Nat.lt_of_lt_of_le S5 hB.size
    replace B6 := boxOn B6 hB S6
    replace S6 := Nat.lt_of_lt_of_le S6 hB.size
    replace B7 := boxOn B7 hB S7
    replace S7 := Nat.lt_of_lt_of_le S7 hB.size
    replace I1 := ints_on I1 hB
    replace I2 := ints_on I2 hB
    replace I3 := ints_on I3 hB
    replace I4 := ints_on I4 hB
    replace I5 := ints_on I5 hB
    replace I6 := ints_on I6 hB
    replace I7 := ints_on I7 hB
    have I8 := ints_all hI
    clear p5 q5 r5 u5 v5 x5
    try clear hw
    clear hB a15 hI
    have hB := (Below.refl w16.heap.size w16).alloc (Nat.le_refl _) (.cells #[.bool z.neg, .slice G8 m8 o8, .int .i64 z.e] 24)
    have B8 := heap_alloc_last w16 (.cells #[.bool z.neg, .slice G8 m8 o8, .int .i64 z.e] 24)
    have S8 : w16.heap.size < (w16.alloc (.cells #[.bool z.neg, .slice G8 m8 o8, .int .i64 z.e] 24)).heap.size := by simp
    have a17 := a16.on hB
    replace B1 := boxOn B1 hB S1
    replace S1 := Nat.lt_of_lt_of_le S1 hB.size
    replace B2 := boxOn B2 hB S2
    replace S2 := Nat.lt_of_lt_of_le S2 hB.size
    replace B3 := boxOn B3 hB S3
    replace S3 := Nat.lt_of_lt_of_le S3 hB.size
    replace B4 := boxOn B4 hB S4
    replace S4 := Nat.lt_of_lt_of_le S4 hB.size
    replace B5 := boxOn B5 hB S5
    replace S5 := Nat.lt_of_lt_of_le S5 hB.size
    replace B6 := boxOn B6 hB S6
    replace S6 := Nat.lt_of_lt_of_le S6 hB.size
    replace B7 := boxOn B7 hB S7
    replace S7 := Nat.lt_of_lt_of_le S7 hB.size
    replace I1 := ints_on I1 hB
    replace I2 := ints_on I2 hB
    replace I3 := ints_on I3 hB
    replace I4 := ints_on I4 hB
    replace I5 := ints_on I5 hB
    replace I6 := ints_on I6 hB
    replace I7 := ints_on I7 hB
    replace I8 := ints_on I8 hB
    generalize hw : (w16.alloc (.cells #[.bool z.neg, .slice G8 m8 o8, .int .i64 z.e] 24)) = w17 at *
    clear hB a16
    obtain ⟨⟨p7, q7, r7⟩, u7, v7, x7⟩ := boxD B7
    obtain ⟨⟨p8, q8, r8⟩, u8, v8, x8⟩ := boxD B8
    go_wp2_with fail
    refine (Pa.dyadSame_any w17 _ _ _ _ _ _ _ _ _ _ _ _ I7 I8 true (same_true rfl rfl rfl)).mono ?_
    rintro e' w18 ⟨rfl, hB⟩
    have a18 := a17.on hB
    replace B1 := boxOn B1 hB S1
    replace S1 := Nat.lt_of_lt_of_le S1 hB.size
    replace B2 := boxOn B2 hB S2
    replace S2 := Nat.lt_of_lt_of_le S2 hB.size
    replace B3 := boxOn B3 hB S3
    replace S3 := Nat.lt_of_lt_of_le S3 hB.size
    replace B4 := boxOn B4 hB S4
    replace S4 := Nat.lt_of_lt_of_le S4 hB.size
    replace B5 := boxOn B5 hB S5
    replace S5 := Nat.lt_of_lt_of_le S5 hB.size
    replace B6 := boxOn B6 hB S6
    replace S6 := Nat.lt_of_lt_of_le S6 hB.size
    replace B7 := boxOn B7 hB S7
    replace S7 := Nat.lt_of_lt_of_le S7 hB.size
    replace B8 := boxOn B8 hB S8
    replace S8 := Nat.lt_of_lt_of_le S8 hB.size
    replace I1 := ints_on I1 hB
    replace I2 := ints_on I2 hB
    replace I3 := ints_on I3 hB
    replace I4 := ints_on I4 hB
    replace I5 := ints_on I5 hB
    replace I6 := ints_on I6 hB
    replace I7 := ints_on I7 hB
    replace I8 := ints_on I8 hB
    clear p7 q7 r7 u7 v7 x7 p8 q8 r8 u8 v8 x8
    try clear hw
    clear hB a17
    go_wp2
    go_ret
    exact ⟨rfl, a18.below⟩
end Dy
end Go.Proofs.YtbbnbgllgomolaaDoor
namespace Go.Proofs.YtbbnbgllgomolaaDoor
open Go.ChangeShapes Go.WideShapes Go.ChangeAt Go.RowKit
section
variable {H : Type} {enc : TypeId × Value → H} {P : Program} {W W' : World}
theorem trodAll_below (hl : laidOutB P = true) (hb : Below W.heap.size W W') : ∀ (ts : List TypeId) (vs : List Value) (ds : List (DataW H)) (ps : List MemPlace),
    DataW.TrodAll enc P W 0 (fun _ => true) true ts vs ds ps → (∀ t ∈ ts, P.readableRec t = true ∧ t < P.types.size) → (∀ x ∈ ps, x.block < W.heap.size) →
    DataW.TrodAll enc P W' 0 (fun b => decide (b < W.heap.size)) true ts vs ds ps
  | [], vs, ds, ps, h, _, _ => by
    obtain ⟨rfl, rfl, rfl⟩ := trodAll_nil h
    exact rfl
  | t :: ts, vs, ds, ps, h, hr, hlt => by
    obtain ⟨v, vs', d, ds', p, q, rfl, rfl, rfl, h1, h2⟩ := trodAll_cons h
    obtain ⟨r1, r2⟩ := hr t (List.mem_cons_self ..)
    exact ⟨p, q, Below.trod hl r1 r2 h1 hb fun x hx => hlt x (List.mem_append_left _ hx), trodAll_below hl hb ts vs' ds' q h2 (fun t ht => hr t (List.mem_cons_of_mem _ ht)) fun x hx => hlt x (List.mem_append_right _ hx), rfl⟩
/-- A law that answers true and leaves what was there as it was. -/
theorem law_post {f : Func} {s : ChangeSpec} {args : Array Value} {ds gs : List (DataW H)} {before : List MemPlace} (hW : DataW.Whole enc P f.params.toList s.vars false W args.toList ds gs before)
    (hv : s.vars = []) (hl : laidOutB P = true) (hr : f.params.toList.all (fun t => P.readableRec t && decide (t < P.types.size)) = true) {tb : TypeId} (hres : f.resultTypes = #[tb]) (htb : P.underlying tb = some .bool)
    (h1 : (s.fn H (ds ++ gs)).results = [.lit (.bool true)]) (h2 : (s.fn H (ds ++ gs)).args = ds) (h3 : (s.fn H (ds ++ gs)).vars = []) (hb : Below W.heap.size W W') : s.post enc P f false true false false W args (.bool true) W' := by
  have hW' := hW
  obtain ⟨p, q, hA, hV, rfl, hfz, hnd⟩ := hW
  have hr' : ∀ t ∈ f.params.toList, P.readableRec t = true ∧ t < P.types.size := fun t ht => by
    have := List.all_eq_true.1 hr t ht
    simpa using this
  refine ⟨ds, gs, _, [], p, [], hW', ?_, ?_, ?_, hb.frame _, fun h => by cases h⟩
  · rw [h1, hres]
    exact trodAll_mk1 (shut_bool htb true)
  · rw [h2]
    exact trodAll_below hl hb _ _ _ _ hA hr' fun x hx => hW'.lt x (List.mem_append_left _ hx)
  · rw [h3, hv]
    rfl
end
end Go.Proofs.YtbbnbgllgomolaaDoor
namespace Go.Proofs.YtbbnbgllgomolaaDoor
open Go.ChangeShapes Go.WideShapes Go.ChangeAt Go.RowKit Go.Joins
theorem Tryd.laidOut : laidOutB Tryd.prog = true := by kernel_rfl
namespace Dy
theorem ownKnob_ : ownKnob Tryd.prog.godebug = none := by kernel_rfl
theorem gTab : Tryd.prog.globalNamed "math/bits.deBruijn32tab" = some 0 := by kernel_rfl
theorem tTab : (Tryd.prog.globals[0]?).map (·.type) = some 120 := by kernel_rfl
abbrev laidT : List (String × DataW Unit) := [("math/bits.deBruijn32tab", Rows.laid_math_bits_deBruijn32tab)]
theorem laid_list : (Rows.laid_math_bits_deBruijn32tab : DataW Unit) = .agg (Lib.deBruijn32tab.map fun n => .lit (.int .u8 (n : Nat))) := rfl
/-- The door's own heap meets the condition. -/
theorem door_met (os : Os) (args : Array Value) : laidMetH Tryd.prog laidT ((World.doorLaid Tryd.prog 400 os).forCall (fun _ _ => 0) ⟨#[], args, []⟩).memory :=
  laidMetH_of_parts3 (fuel := 8) (laidMet_of_run' 8 (by kernel_rfl) (by kernel_rfl)) (by kernel_rfl) (by kernel_rfl)
theorem door_shaped (os : Os) (args : Array Value) : ((World.doorLaid Tryd.prog 400 os).forCall (fun _ _ => 0) ⟨#[], args, []⟩).Shaped Tryd.prog := World.shaped_of_RefB (by kernel_rfl) (by kernel_rfl)
theorem tab_cells {H : Type} {enc : TypeId × Value → H} {W : World} {fuel : Nat} {cs : List Value} {d : DataW H} {p : List MemPlace} {held : Bool} {spare : Nat → Bool} (l : List Nat) (hd : d = .agg (l.map fun n => .lit (.int .u8 (n : Nat))))
    (h : DataW.trod enc Tryd.prog W 0 spare held fuel 120 cs = some (d, p)) : ∀ j, j < 32 → cs[j]? = some (.int .u8 (l.getD j 0)) := by
  intro j hj
  obtain ⟨xs, m1, rfl, hx1, hlen, hn3, hel⟩ := DataW.trod_array Tryd.underlying120 h
  have c3 : Tryd.prog.cellsOf 5 = 1 := by kernel_rfl
  have h0 := hel j hj
  rw [c3] at h0
  have hxj : j < xs.length := by omega
  rw [List.getElem?_eq_getElem hxj] at h0
  obtain ⟨k, e1, e2, _⟩ := DataW.trod_int Tryd.underlying5 h0
  simp only [Prod.mk.injEq] at hx1
  rw [hd] at hx1
  simp only [DataW.agg.injEq] at hx1
  have hmap := congrArg (fun t => t[j]?) hx1.1
  simp only [List.getElem?_map] at hmap
  rw [List.getElem?_eq_getElem hxj] at hmap
  simp only [Option.map_some, e2] at hmap
  cases hlj : l[j]? with
  | none => rw [hlj] at hmap; cases hmap
  | some v =>
    rw [hlj] at hmap
    simp only [Option.map_some, Option.some.injEq, DataW.lit.injEq, Lit.int.injEq, true_and] at hmap
    have hg : l.getD j 0 = v := by simp [List.getD, hlj]
    rw [hg, hmap]
    have := congrArg (fun t => t[0]?) e1
    simpa using this
/-- What the condition gives a walk. -/
theorem tab_of_laid {W : World} (h : laidMetH Tryd.prog laidT W) : Tab W := by
  rw [MakeChecks.laidMetH_plain _ _ _ (by kernel_rfl)] at h
  obtain ⟨ps, ⟨g0, t0, cs0, f0, p0, q0, hg0, ht0, hv0, hd0, _, _⟩, _, _⟩ := h
  obtain rfl := Option.some.inj (gTab.symm.trans hg0)
  obtain rfl := Option.some.inj (tTab.symm.trans ht0)
  refine ⟨fun j hj => ?_⟩
  have h1 := tab_cells Lib.deBruijn32tab laid_list hd0 j hj
  have h2 := World.var?_cell hg0 hv0 j
  rw [h2]
  simpa using h1
end Dy
end Go.Proofs.YtbbnbgllgomolaaDoor
namespace Go.Proofs.YtbbnbgllgomolaaDoor
open Go.ChangeShapes Go.WideShapes Go.ChangeAt Go.RowKit Go.Joins Go.Deep
section
variable {H : Type} {enc : TypeId × Value → H} {P : Program} {W W' : World}
theorem ints_trod {t e : TypeId} {k : IntKind} {fuel : Nat} {v : Value} {x : DataW H × List MemPlace} (ht : P.underlying t = some (.slice e)) (he : P.underlying e = some (.int k)) (hc : P.cellsOf e = 1)
    (h : DataW.trod enc P W 0 (fun _ => true) true fuel t [v] = some x) (hfz : ∀ b off, MemPlace.cell b off ∈ x.2 → W.frozen? ⟨b, off, none⟩ = false) (hlt : ∀ q ∈ x.2, q.block < W.heap.size) :
    ∃ A n c xs, v = .slice A n c ∧ n ≤ c ∧ Ints W 0 W.heap.size k A n xs := by
  rcases open_ints ht he hc h with ⟨hcs, hx⟩ | ⟨a, len, cap, zs, hcs, _, hl, hm, hz, hx, hcell, hwz⟩
  · injection hcs with hcs
    exact ⟨none, 0, 0, [], hcs, Nat.le_refl _, Ints.nil_ ..⟩
  · injection hcs with hcs
    simp only [if_true] at hz
    refine ⟨some a, len, cap, zs.take len, hcs, hl, by simp; omega, fun y hy => ?_, by unfold maxLen at hm; omega, fun h0 => ?_⟩
    · have := hwz y (List.mem_of_mem_take hy)
      simpa [Lit.wf] using this
    · obtain ⟨b, off, spot⟩ := a
      have hspot : spot = none := by simpa [Addr.add] using World.cell?_spot (hcell 0 (by omega))
      subst hspot
      have hmem : ∀ j, j < len → MemPlace.cell b (off + j) ∈ x.2 := fun j hj => by
        rw [hx]
        exact MemPlace.mem_row.2 ⟨j, by omega, rfl⟩
      refine ⟨b, off, rfl, Nat.zero_le _, hlt _ (hmem 0 h0), fun j hj => ⟨?_, hfz _ _ (hmem j hj)⟩⟩
      have := hcell j (by omega)
      rw [add_plain] at this
      rw [this, List.getElem?_take, if_pos hj]
      simp [List.getD]
/-- A dyad among the arguments. -/
theorem dyad_open {r : Reach} {b0 : Nat} {t e : TypeId} {k0 k1 k2 : Field} {v : Value} {d : DataW H} {p : List MemPlace} (hs : P.underlying t = some (.struct #[k0, k1, k2])) (hone : oneCellFields P #[k0, k1, k2] = true) (hC : P.cellsOf t = 3)
    (v0 : P.underlying k0.type = some .bool) (ht : P.underlying k1.type = some (.slice e)) (he : P.underlying e = some (.int .u32)) (hc : P.cellsOf e = 1) (v2 : P.underlying k2.type = some (.int .i64))
    (hval : Value.okWide P W r b0 t v) (h : DataW.Trod enc P W 0 (fun _ => true) true t v d p) (hfz : ∀ b off, MemPlace.cell b off ∈ p → W.frozen? ⟨b, off, none⟩ = false) (hlt : ∀ q ∈ p, q.block < W.heap.size) :
    ∃ (s : Bool) (A : Option Addr) (n c : Nat) (xs : List Int) (ex : Int), v = .agg #[.bool s, .slice A n c, .int .i64 ex] ∧ n ≤ c ∧ (Lit.int .i64 ex).wf = true ∧ Ints W 0 W.heap.size .u32 A n xs := by
  obtain ⟨w0, w1, w2, y0, y1, y2, m, rfl, _, rfl, h0, h1, h2⟩ := open_agg3 hs hone hC hval h
  obtain ⟨s, e0, _⟩ := DataW.trod_bool v0 h0
  obtain ⟨x, e2, _, z2⟩ := DataW.trod_int v2 h2
  injection e0 with e0
  injection e2 with e2
  obtain ⟨A, n, c, xs, e1, hc', hx⟩ := ints_trod ht he hc h1 (fun b off hm => hfz b off (by simp [hm])) (fun q hq => hlt q (by simp [hq]))
  exact ⟨s, A, n, c, xs, x, by rw [e0, e1, e2], hc', z2, hx⟩
end
end Go.Proofs.YtbbnbgllgomolaaDoor
namespace Go.Proofs.YtbbnbgllgomolaaDoor
open Go.RowKit
section
variable {P : Program} {ops : Array Oper} {os : List Oper} {Q : Exit → Act → World → Prop} {md : Region.Mode} {S : World → Prop} {E : List Nat}
/-- An operation whose guard says no. -/
theorem skipE {i n : Nat} {oi : Oper} {listed L : Array Bool} {a : Act} {w : World} (hi : os[i]? = some oi) (hL : listed.setIfInBounds i true = L)
    (hs : Region.noSelect os.toArray = true) (hf : Region.free md os.toArray listed i = true) (hr : (Region.ready md os.toArray listed).contains i = true)
    (hQ : ∀ c a w, Q (.panic c) (a.put oi.dst undef) w → Q (.panic c) a w) (hw : Region.wanted oi (yielded os.toArray a.tmps) = false)
    (h : wpAnyE P md os.toArray Q S E n L (a.put oi.dst undef) w) : wpAnyE P md os.toArray Q S E (n + 1) listed a w := by
  have hi' : os.toArray[i]? = some oi := by simpa using hi
  exact firstT hi' (Region.noSelect_spec hs) hQ n listed a w (Region.free_spec hi' hf) (by simpa using hr) (Or.inr ⟨hw, rfl⟩) (hL ▸ h)
end
end Go.Proofs.YtbbnbgllgomolaaDoor
namespace Go.Proofs.YtbbnbgllgomolaaDoor
open Go.RowKit
namespace Dy
open Dp
theorem later {a b c : World} (h : Below a.heap.size a b) (k : Below b.heap.size b c) : Below a.heap.size a c := h.trans (k.mono h.size)
theorem box_later {w w' : World} {g : Nat} {o : Obj} (h : w.heap[g]? = some o) (hb : Below w.heap.size w w') (hg : g < w.heap.size) : w'.heap[g]? = some o := (hb.block g hg).trans h
theorem tab_later {w w' : World} (h : Tab w) (hb : Below w.heap.size w w') : Tab w' := h.below hb h.lt
end Dy
end Go.Proofs.YtbbnbgllgomolaaDoor
