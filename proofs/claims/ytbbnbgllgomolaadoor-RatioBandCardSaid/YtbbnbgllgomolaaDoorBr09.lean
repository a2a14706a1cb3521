/- ratio.Near for any arguments, headcountlaw03.is and alive: walks (printed by a program of mine). -/
/- How two dyads stand: a walk (printed by a program of mine). -/
/- What is reckoned with dyads, whatever they are: contracts. -/
/- How two dyads stand, whatever they are. -/
/- The laws of quotients: no program in sight. -/
/- The laws of quotients, for any arguments: no program in sight. -/
import Derived.Deep.Cut
import Derived.Test.YtbbnbgllgomolaaDoorBr08
import Derived.Test.YtbbnbgllgomolaaDoorBr06
namespace Go.Proofs.YtbbnbgllgomolaaDoor
open Go.RowKit
namespace Dy
open Dp
noncomputable def nearX (s1 : Bool) (xs1 : List Int) (e1 : Int) (s2 : Bool) (xs2 : List Int) (e2 : Int) : Dn × Int :=
  if askX s1 xs1 e1 s2 xs2 e2 0 = 0 then nearD (dn s1 xs1 e1) (dn s2 xs2 e2) else (Dn.zero, askX s1 xs1 e1 s2 xs2 e2 0)
set_option maxHeartbeats 6400000 in
set_option maxRecDepth 100000 in
/-- ratio.Near: an error. -/
theorem near_bad (w : World) (s1 s2 : Bool) (A1 A2 : Option Addr) (n1 c1 n2 c2 : Nat) (xs1 xs2 : List Int) (e1 e2 : Int) (h1 : Ints w 0 w.heap.size .u32 A1 n1 xs1) (h2 : Ints w 0 w.heap.size .u32 A2 n2 xs2) (q : Int) (hq : askX s1 xs1 e1 s2 xs2 e2 0 = q) (hq0 : q = 2 ∨ q = 8) :
    Calls Tryd.prog 45 #[.agg #[.bool s1, .slice A1 n1 c1, .int .i64 e1], .agg #[.bool s2, .slice A2 n2 c2, .int .i64 e2]] w (Formed w Dn.zero q) := by
  have HQ := Lib.hid hq
  clear hq
  generalize hw : ((w.alloc (.cells #[.bool s1, .slice A1 n1 c1, .int .i64 e1] 24)).alloc (.cells #[.bool s2, .slice A2 n2 c2, .int .i64 e2] 24)).alloc (.cells #[.bool false, .slice none 0 0, .int .i64 0] 24) = w1
  obtain ⟨D1, D2, D3, b1, l1, l2⟩ := boxes3R w _ _ _ hw
  replace D3 : w1.heap[w.heap.size + 1 + 1]? = some (.cells #[.bool false, .slice none 0 0, .int .i64 0] 24 (0, 0)) := D3
  replace h1 := h1.below b1 (Nat.le_refl _)
  replace h2 := h2.below b1 (Nat.le_refl _)
  obtain ⟨⟨p0, p1, p2⟩, p3, p4, p5⟩ := boxD D1
  obtain ⟨⟨q0, q1, q2⟩, q3, q4, q5⟩ := boxD D2
  go_enter Tryd.func45, Tryd.ntmps45
  go_wp2_with fail
  try clear hw
  refine (asked_all w1 s1 s2 A1 A2 n1 c1 n2 c2 xs1 xs2 e1 e2 (h1.more (Nat.le_refl _) (by omega)) (h2.more (Nat.le_refl _) (by omega)) 0 q HQ.out).mono ?_
  rintro e w2 ⟨rfl, hB⟩
  have ls2 := hB.size
  replace D3 := (hB.block _ (by omega)).trans D3
  replace b1 := b1.trans (hB.mono (by omega))
  clear hB p0 p1 p2 p3 p4 p5 q0 q1 q2 q3 q4 q5 h1 h2 D2 D1
  obtain ⟨⟨z0, z1, z2⟩, z3, z4, z5⟩ := boxD D3
  obtain ⟨U, hU, hX, hbU, hfU, s1', s2'⟩ := zputR D3 (.bool false) (.slice none 0 0) (.int .i64 0)
  rcases hq0 with rfl | rfl
  all_goals
    go_wp2
    try rw [hU]
    clear hU z0 z1 z2 z3 z4 z5
    obtain ⟨⟨z0, z1, z2⟩, _⟩ := boxD hX
    exact bodyPost_ret (v := .tuple #[.agg #[.bool false, .slice none 0 0, .int .i64 0], .int .i64 _]) (by simp [results, Tryd.results45, go_sem, z0, z1, z2]) rfl ⟨none, 0, 0, rfl, Nat.le_refl _, hbU _ _ b1 (by omega), Ints.nil_ ..⟩
/-- ratio.Near. -/
theorem near_all (w : World) (s1 s2 : Bool) (A1 A2 : Option Addr) (n1 c1 n2 c2 : Nat) (xs1 xs2 : List Int) (e1 e2 : Int) (h1 : Ints w 0 w.heap.size .u32 A1 n1 xs1) (h2 : Ints w 0 w.heap.size .u32 A2 n2 xs2) (r : Dn) (code : Int) (h : nearX s1 xs1 e1 s2 xs2 e2 = (r, code)) :
    Calls Tryd.prog 45 #[.agg #[.bool s1, .slice A1 n1 c1, .int .i64 e1], .agg #[.bool s2, .slice A2 n2 c2, .int .i64 e2]] w (Formed w r code) := by
  unfold nearX at h
  split at h
  · rename_i hm
    obtain ⟨m1, m2, hs, hx, k0, k1⟩ := ask_zero hm
    obtain ⟨y1, c1', t1⟩ := dn_ok (dig_ints h1) m1
    obtain ⟨y2, c2', t2⟩ := dn_ok (dig_ints h2) m2
    have hb0 : (dn s2 xs2 e2).m ≠ 0 := fun e => hx (by rw [← c2', e]; rfl)
    have := near_dn w (dn s1 xs1 e1) (dn s2 xs2 e2) s1 rfl y1 y2 hs hb0 A1 A2 n1 c1 n2 c2 (by rw [c1']; exact h1) (by rw [c2']; exact h2) r code h
    rw [t1, t2] at this
    exact this
  · rename_i hm
    injection h with h3 h4
    subst h3 h4
    exact near_bad w s1 s2 A1 A2 n1 c1 n2 c2 xs1 xs2 e1 e2 h1 h2 _ rfl ((ask_two ..).resolve_left hm)
theorem toX_dn {a b : Dn} (ha : a.May) (hb : b.May) (hn : b.neg = false) (h0 : b.m ≠ 0) {k : Nat} (hk : k ≤ 64) (away : Bool) : toX a.neg (canon 4294967296 a.m) a.e b.neg (canon 4294967296 b.m) b.e k away = toD a b k away := by
  unfold toX
  rw [if_pos (ask_ok ha hb hn h0 hk), dn_of, dn_of, Int.toNat_natCast]
theorem nearX_dn {a b : Dn} (ha : a.May) (hb : b.May) (hn : b.neg = false) (h0 : b.m ≠ 0) : nearX a.neg (canon 4294967296 a.m) a.e b.neg (canon 4294967296 b.m) b.e = nearD a b := by
  unfold nearX
  have h := ask_ok ha hb hn h0 (k := 0) (by decide)
  rw [show ((0 : Nat) : Int) = 0 from rfl] at h
  rw [if_pos h, dn_of, dn_of]
set_option maxHeartbeats 6400000 in
set_option maxRecDepth 100000 in
/-- headcountlaw03.is: yes. -/
theorem is_yes (w : World) (s : Bool) (A : Option Addr) (n c : Nat) (v : Nat) (e : Int) (hX : Ints w 0 w.heap.size .u32 A n (canon 4294967296 v)) (z : Int) (h0 : -9223372036854775808 ≤ z) (h1 : z ≤ 9223372036854775807) (hs : decide (z < 0) = s) (hv : z.natAbs = v) :
    Calls Tryd.prog 46 #[.agg #[.bool s, .slice A n c, .int .i64 e], .int .i64 0, .int .i64 z, .int .i64 e] w fun e w' => e = .returned (.bool true) ∧ Below w.heap.size w w' := by
  have fin := (Below.refl w.heap.size w).alloc (Nat.le_refl _) (.cells #[.bool s, .slice A n c, .int .i64 e] 24)
  have B1 := heap_alloc_last w (.cells #[.bool s, .slice A n c, .int .i64 e] 24)
  have I1 := (hX.alloc (Nat.le_refl _) (.cells #[.bool s, .slice A n c, .int .i64 e] 24)).more (lo' := 0) (hi' := (w.alloc (.cells #[.bool s, .slice A n c, .int .i64 e] 24)).heap.size) (Nat.le_refl _) (by simp)
  have S1 : w.heap.size < (w.alloc (.cells #[.bool s, .slice A n c, .int .i64 e] 24)).heap.size := by simp
  generalize hw : w.alloc (.cells #[.bool s, .slice A n c, .int .i64 e] 24) = w1 at *
  go_enter Tryd.func46, Tryd.ntmps46
  go_wp2_with fail
  refine (Of_any w1 z h0 h1 s v hs hv).mono ?_
  rintro e' w2 ⟨G, m, rfl, hB, hI⟩
  have I2 := ints_all hI
  replace B1 := (hB.block _ S1).trans B1
  replace I1 := ints_on I1 hB
  replace fin := fin.trans (hB.mono (Nat.le_of_lt S1))
  have S2 : w.heap.size < w2.heap.size := Nat.lt_of_lt_of_le S1 hB.size
  clear hB hI
  try clear hw
  have hB := (Below.refl w2.heap.size w2).alloc (Nat.le_refl _) (.cells #[.bool s, .slice G m m, .int .i64 0] 24)
  have B3 := heap_alloc_last w2 (.cells #[.bool s, .slice G m m, .int .i64 0] 24)
  have S3 : w2.heap.size < (w2.alloc (.cells #[.bool s, .slice G m m, .int .i64 0] 24)).heap.size := by simp
  obtain ⟨⟨p0, p1, p2⟩, p3, p4, p5⟩ := boxD B3
  go_upto_region 2 with fail
  clear p0 p1 p2 p3 p4 p5
  generalize hw : w2.alloc (.cells #[.bool s, .slice G m m, .int .i64 0] 24) = w3 at *
  obtain ⟨⟨p0, p1, p2⟩, p3, p4, p5⟩ := boxD B3
  have hB2 : Below w2.heap.size w3 (w3.setCell ⟨w2.heap.size, 2, none⟩ (.int .i64 e)) := (Below.refl w2.heap.size w3).setCell (show w2.heap.size ≤ (⟨w2.heap.size, 2, none⟩ : Addr).block from Nat.le_refl _) _
  have B4 : (w3.setCell ⟨w2.heap.size, 2, none⟩ (.int .i64 e)).heap[w2.heap.size]? = some (.cells #[.bool s, .slice G m m, .int .i64 e] 24 (0, 0)) := heap_setCell_same w3 w2.heap.size 2 _ _ _ B3
  have hB3 := hB.trans hB2
  replace B1 := (hB3.block _ S2).trans B1
  replace I1 := ints_on I1 hB3
  replace I2 := ints_on I2 hB3
  replace fin := fin.trans (hB3.mono (Nat.le_of_lt S2))
  clear hB hB2 hB3 B3
  obtain ⟨⟨q0, q1, q2⟩, q3, q4, q5⟩ := boxD B4
  obtain ⟨⟨y0, y1, y2⟩, y3, y4, y5⟩ := boxD B1
  have S4 : w.heap.size ≤ (w3.setCell ⟨w2.heap.size, 2, none⟩ (.int .i64 e)).heap.size := fin.size
  go_wp2_with fail
  try clear hw
  refine (Pa.dyadSame_any _ _ _ _ _ _ _ _ _ _ _ _ _ I1 I2 true (same_true rfl rfl rfl)).mono ?_
  rintro e' w5 ⟨rfl, hB⟩
  replace fin := fin.trans (hB.mono S4)
  go_wp2
  go_ret
  exact ⟨rfl, fin⟩
theorem ra0 : toX false (canon 4294967296 1) 0 false (canon 4294967296 3) 0 2 false = (⟨false, 1, 2⟩, 0) :=
  (toX_dn (a := ⟨false, 1, 0⟩) (b := ⟨false, 3, 0⟩) (may_small _ _ _ (by decide) (by decide) (by decide) (by decide)) (may_small _ _ _ (by decide) (by decide) (by decide) (by decide)) rfl (by decide) (k := 2) (by decide) false).trans (formed_of (K := 2) (may_small _ _ _ (by decide) (by decide) (by decide) (by decide)) (by decide) (by decide) (by decide))
theorem ra1 : toX false (canon 4294967296 1) 0 false (canon 4294967296 3) 0 2 true = (⟨false, 1, 1⟩, 0) :=
  (toX_dn (a := ⟨false, 1, 0⟩) (b := ⟨false, 3, 0⟩) (may_small _ _ _ (by decide) (by decide) (by decide) (by decide)) (may_small _ _ _ (by decide) (by decide) (by decide) (by decide)) rfl (by decide) (k := 2) (by decide) true).trans (formed_of (K := 2) (may_small _ _ _ (by decide) (by decide) (by decide) (by decide)) (by decide) (by decide) (by decide))
theorem ra2 : toX true (canon 4294967296 1) 0 false (canon 4294967296 3) 0 0 true = (⟨true, 1, 0⟩, 0) :=
  (toX_dn (a := ⟨true, 1, 0⟩) (b := ⟨false, 3, 0⟩) (may_small _ _ _ (by decide) (by decide) (by decide) (by decide)) (may_small _ _ _ (by decide) (by decide) (by decide) (by decide)) rfl (by decide) (k := 0) (by decide) true).trans (formed_of (K := 0) (may_small _ _ _ (by decide) (by decide) (by decide) (by decide)) (by decide) (by decide) (by decide))
theorem ra3 : toX true (canon 4294967296 1) 0 false (canon 4294967296 3) 0 0 false = (Dn.zero, 0) :=
  (toX_dn (a := ⟨true, 1, 0⟩) (b := ⟨false, 3, 0⟩) (may_small _ _ _ (by decide) (by decide) (by decide) (by decide)) (may_small _ _ _ (by decide) (by decide) (by decide) (by decide)) rfl (by decide) (k := 0) (by decide) false).trans (formed_of (K := 0) zero_may (by decide) (by decide) (by decide))
theorem ra4 : nearX false (canon 4294967296 5) 0 false (canon 4294967296 2) 0 = (⟨false, 3, 0⟩, 0) :=
  (nearX_dn (a := ⟨false, 5, 0⟩) (b := ⟨false, 2, 0⟩) (may_small _ _ _ (by decide) (by decide) (by decide) (by decide)) (may_small _ _ _ (by decide) (by decide) (by decide) (by decide)) rfl (by decide)).trans (formed_of (K := 0) (may_small _ _ _ (by decide) (by decide) (by decide) (by decide)) (by decide) (by decide) (by decide))
theorem ra5 : nearX false (canon 4294967296 7) 0 false (canon 4294967296 3) 0 = (⟨false, 2, 0⟩, 0) :=
  (nearX_dn (a := ⟨false, 7, 0⟩) (b := ⟨false, 3, 0⟩) (may_small _ _ _ (by decide) (by decide) (by decide) (by decide)) (may_small _ _ _ (by decide) (by decide) (by decide) (by decide)) rfl (by decide)).trans (formed_of (K := 0) (may_small _ _ _ (by decide) (by decide) (by decide) (by decide)) (by decide) (by decide) (by decide))
set_option maxHeartbeats 12800000 in
set_option maxRecDepth 100000 in
/-- headcountlaw03.alive. -/
theorem aliveR_any (w : World) (hT : Tab w) : Calls Tryd.prog 19 #[] w fun e w' => e = .returned (.bool true) ∧ Below w.heap.size w w' := by
  have a0 : Amid w w := ⟨Below.refl _ _, hT⟩
  have R0 := Lib.hid ra0
  have R1 := Lib.hid ra1
  have R2 := Lib.hid ra2
  have R3 := Lib.hid ra3
  have R4 := Lib.hid ra4
  have R5 := Lib.hid ra5
  go_enter Tryd.func19, Tryd.ntmps19
  go_wp2_with fail
  refine (Of_any w (1) (by decide) (by decide) false 1 rfl rfl).mono ?_
  rintro e' w1 ⟨X0, nx0, rfl, hB, hI⟩
  have a1 := a0.on hB
  have J0 := ints_all hI
  try clear hw
  clear hB a0 hI
  go_wp2_with fail
  refine (Of_any w1 3 (by decide) (by decide) false 3 rfl rfl).mono ?_
  rintro e' w2 ⟨Y0, ny0, rfl, hB, hI⟩
  have a2 := a1.on hB
  replace J0 := ints_on J0 hB
  have K0 := ints_all hI
  try clear hw
  clear hB a1 hI
  go_wp2_with fail
  refine (Floor_all w2 false false X0 Y0 nx0 nx0 ny0 ny0 _ _ 0 0 J0 K0 2 (⟨false, 1, 2⟩ : Dn) 0 R0.out).mono ?_
  rintro e' w3 ⟨G0, m0, o0, rfl, hc0, hB, hI⟩
  have a3 := a2.on hB
  replace J0 := ints_on J0 hB
  replace K0 := ints_on K0 hB
  have I0 := ints_all hI
  try clear hw
  clear hB a2 hI
  clear J0 K0 hc0
  have hB := (Below.refl w3.heap.size w3).alloc (Nat.le_refl _) (.cells #[.bool false, .slice G0 m0 o0, .int .i64 2] 24)
  have B10 := heap_alloc_last w3 (.cells #[.bool false, .slice G0 m0 o0, .int .i64 2] 24)
  have S10 : w3.heap.size < (w3.alloc (.cells #[.bool false, .slice G0 m0 o0, .int .i64 2] 24)).heap.size := by simp
  have a4 := a3.on hB
  replace I0 := ints_on I0 hB
  go_wp2_with fail
  generalize hw : (w3.alloc (.cells #[.bool false, .slice G0 m0 o0, .int .i64 2] 24)) = w4 at *
  clear hw
  clear hB a3
  refine (Of_any w4 (1) (by decide) (by decide) false 1 rfl rfl).mono ?_
  rintro e' w5 ⟨X1, nx1, rfl, hB, hI⟩
  have a5 := a4.on hB
  replace B10 := boxOn B10 hB S10
  replace S10 := Nat.lt_of_lt_of_le S10 hB.size
  replace I0 := ints_on I0 hB
  have J1 := ints_all hI
  try clear hw
  clear hB a4 hI
  go_wp2_with fail
  refine (Of_any w5 3 (by decide) (by decide) false 3 rfl rfl).mono ?_
  rintro e' w6 ⟨Y1, ny1, rfl, hB, hI⟩
  have a6 := a5.on hB
  replace B10 := boxOn B10 hB S10
  replace S10 := Nat.lt_of_lt_of_le S10 hB.size
  replace I0 := ints_on I0 hB
  replace J1 := ints_on J1 hB
  have K1 := ints_all hI
  try clear hw
  clear hB a5 hI
  go_wp2_with fail
  refine (Ceil_all w6 false false X1 Y1 nx1 nx1 ny1 ny1 _ _ 0 0 J1 K1 2 (⟨false, 1, 1⟩ : Dn) 0 R1.out).mono ?_
  rintro e' w7 ⟨G1, m1, o1, rfl, hc1, hB, hI⟩
  have a7 := a6.on hB
  replace B10 := boxOn B10 hB S10
  replace S10 := Nat.lt_of_lt_of_le S10 hB.size
  replace I0 := ints_on I0 hB
  replace J1 := ints_on J1 hB
  replace K1 := ints_on K1 hB
  have I1 := ints_all hI
  try clear hw
  clear hB a6 hI
  clear J1 K1 hc1
  have hB := (Below.refl w7.heap.size w7).alloc (Nat.le_refl _) (.cells #[.bool false, .slice G1 m1 o1, .int .i64 1] 24)
  have B11 := heap_alloc_last w7 (.cells #[.bool false, .slice G1 m1 o1, .int .i64 1] 24)
  have S11 : w7.heap.size < (w7.alloc (.cells #[.bool false, .slice G1 m1 o1, .int .i64 1] 24)).heap.size := by simp
  have a8 := a7.on hB
  replace B10 := boxOn B10 hB S10
  replace S10 := Nat.lt_of_lt_of_le S10 hB.size
  replace I0 := ints_on I0 hB
  replace I1 := ints_on I1 hB
  go_wp2_with fail
  generalize hw : (w7.alloc (.cells #[.bool false, .slice G1 m1 o1, .int .i64 1] 24)) = w8 at *
  clear hw
  clear hB a7
  refine (Of_any w8 (-1) (by decide) (by decide) true 1 rfl rfl).mono ?_
  rintro e' w9 ⟨X2, nx2, rfl, hB, hI⟩
  have a9 := a8.on hB
  replace B10 := boxOn B10 hB S10
  replace S10 := Nat.lt_of_lt_of_le S10 hB.size
  replace B11 := boxOn B11 hB S11
  replace S11 := Nat.lt_of_lt_of_le S11 hB.size
  replace I0 := ints_on I0 hB
  replace I1 := ints_on I1 hB
  have J2 := ints_all hI
  try clear hw
  clear hB a8 hI
  go_wp2_with fail
  refine (Of_any w9 3 (by decide) (by decide) false 3 rfl rfl).mono ?_
  rintro e' w10 ⟨Y2, ny2, rfl, hB, hI⟩
  have a10 := a9.on hB
  replace B10 := boxOn B10 hB S10
  replace S10 := Nat.lt_of_lt_of_le S10 hB.size
  replace B11 := boxOn B11 hB S11
  replace S11 := Nat.lt_of_lt_of_le S11 hB.size
  replace I0 := ints_on I0 hB
  replace I1 := ints_on I1 hB
  replace J2 := ints_on J2 hB
  have K2 := ints_all hI
  try clear hw
  clear hB a9 hI
  go_wp2_with fail
  refine (Floor_all w10 true false X2 Y2 nx2 nx2 ny2 ny2 _ _ 0 0 J2 K2 0 (⟨true, 1, 0⟩ : Dn) 0 R2.out).mono ?_
  rintro e' w11 ⟨G2, m2, o2, rfl, hc2, hB, hI⟩
  have a11 := a10.on hB
  replace B10 := boxOn B10 hB S10
  replace S10 := Nat.lt_of_lt_of_le S10 hB.size
  replace B11 := boxOn B11 hB S11
  replace S11 := Nat.lt_of_lt_of_le S11 hB.size
  replace I0 := ints_on I0 hB
  replace I1 := ints_on I1 hB
  replace J2 := ints_on J2 hB
  replace K2 := ints_on K2 hB
  have I2 := ints_all hI
  try clear hw
  clear hB a10 hI
  clear J2 K2 hc2
  have hB := (Below.refl w11.heap.size w11).alloc (Nat.le_refl _) (.cells #[.bool true, .slice G2 m2 o2, .int .i64 0] 24)
  have B12 := heap_alloc_last w11 (.cells #[.bool true, .slice G2 m2 o2, .int .i64 0] 24)
  have S12 : w11.heap.size < (w11.alloc (.cells #[.bool true, .slice G2 m2 o2, .int .i64 0] 24)).heap.size := by simp
  have a12 := a11.on hB
  replace B10 := boxOn B10 hB S10
  replace S10 := Nat.lt_of_lt_of_le S10 hB.size
  replace B11 := boxOn B11 hB S11
  replace S11 := Nat.lt_of_lt_of_le S11 hB.size
  replace I0 := ints_on I0 hB
  replace I1 := ints_on I1 hB
  replace I2 := ints_on I2 hB
  go_wp2_with fail
  generalize hw : (w11.alloc (.cells #[.bool true, .slice G2 m2 o2, .int .i64 0] 24)) = w12 at *
  clear hw
  clear hB a11
  refine (Of_any w12 (-1) (by decide) (by decide) true 1 rfl rfl).mono ?_
  rintro e' w13 ⟨X3, nx3, rfl, hB, hI⟩
  have a13 := a12.on hB
  replace B10 := boxOn B10 hB S10
  replace S10 := Nat.lt_of_lt_of_le S10 hB.size
  replace B11 := boxOn B11 hB S11
  replace S11 := Nat.lt_of_lt_of_le S11 hB.size
  replace B12 := boxOn B12 hB S12
  replace S12 := Nat.lt_of_lt_of_le S12 hB.size
  replace I0 := ints_on I0 hB
  replace I1 := ints_on I1 hB
  replace I2 := ints_on I2 hB
  have J3 := ints_all hI
  try clear hw
  clear hB a12 hI
  go_wp2_with fail
  refine (Of_any w13 3 (by decide) (by decide) false 3 rfl rfl).mono ?_
  rintro e' w14 ⟨Y3, ny3, rfl, hB, hI⟩
  have a14 := a13.on hB
  replace B10 := boxOn B10 hB S10
  replace S10 := Nat.lt_of_lt_of_le S10 hB.size
  replace B11 := boxOn B11 hB S11
  replace S11 := Nat.lt_of_lt_of_le S11 hB.size
  replace B12 := boxOn B12 hB S12
  replace S12 := Nat.lt_of_lt_of_le S12 hB.size
  replace I0 := ints_on I0 hB
  replace I1 := ints_on I1 hB
  replace I2 := ints_on I2 hB
  replace J3 := ints_on J3 hB
  have K3 := ints_all hI
  try clear hw
  clear hB a13 hI
  go_wp2_with fail
  refine (Ceil_all w14 true false X3 Y3 nx3 nx3 ny3 ny3 _ _ 0 0 J3 K3 0 (⟨false, 0, 0⟩ : Dn) 0 R3.out).mono ?_
  rintro e' w15 ⟨G3, m3, o3, rfl, hc3, hB, hI⟩
  have a15 := a14.on hB
  replace B10 := boxOn B10 hB S10
  replace S10 := Nat.lt_of_lt_of_le S10 hB.size
  replace B11 := boxOn B11 hB S11
  replace S11 := Nat.lt_of_lt_of_le S11 hB.size
  replace B12 := boxOn B12 hB S12
  replace S12 := Nat.lt_of_lt_of_le S12 hB.size
  replace I0 := ints_on I0 hB
  replace I1 := ints_on I1 hB
  replace I2 := ints_on I2 hB
  replace J3 := ints_on J3 hB
  replace K3 := ints_on K3 hB
  have I3 := ints_all hI
  try clear hw
  clear hB a14 hI
  clear J3 K3 hc3
  replace I3 : Ints w15 0 w15.heap.size .u32 G3 m3 (canon 4294967296 0) := I3
  have hB := (Below.refl w15.heap.size w15).alloc (Nat.le_refl _) (.cells #[.bool false, .slice G3 m3 o3, .int .i64 0] 24)
  have B13 := heap_alloc_last w15 (.cells #[.bool false, .slice G3 m3 o3, .int .i64 0] 24)
  have S13 : w15.heap.size < (w15.alloc (.cells #[.bool false, .slice G3 m3 o3, .int .i64 0] 24)).heap.size := by simp
  have a16 := a15.on hB
  replace B10 := boxOn B10 hB S10
  replace S10 := Nat.lt_of_lt_of_le S10 hB.size
  replace B11 := boxOn B11 hB S11
  replace S11 := Nat.lt_of_lt_of_le S11 hB.size
  replace B12 := boxOn B12 hB S12
  replace S12 := Nat.lt_of_lt_of_le S12 hB.size
  replace I0 := ints_on I0 hB
  replace I1 := ints_on I1 hB
  replace I2 := ints_on I2 hB
  replace I3 := ints_on I3 hB
  go_wp2_with fail
  generalize hw : (w15.alloc (.cells #[.bool false, .slice G3 m3 o3, .int .i64 0] 24)) = w16 at *
  clear hw
  clear hB a15
  refine (Of_any w16 (5) (by decide) (by decide) false 5 rfl rfl).mono ?_
  rintro e' w17 ⟨X4, nx4, rfl, hB, hI⟩
  have a17 := a16.on hB
  replace B10 := boxOn B10 hB S10
  replace S10 := Nat.lt_of_lt_of_le S10 hB.size
  replace B11 := boxOn B11 hB S11
  replace S11 := Nat.lt_of_lt_of_le S11 hB.size
  replace B12 := boxOn B12 hB S12
  replace S12 := Nat.lt_of_lt_of_le S12 hB.size
  replace B13 := boxOn B13 hB S13
  replace S13 := Nat.lt_of_lt_of_le S13 hB.size
  replace I0 := ints_on I0 hB
  replace I1 := ints_on I1 hB
  replace I2 := ints_on I2 hB
  replace I3 := ints_on I3 hB
  have J4 := ints_all hI
  try clear hw
  clear hB a16 hI
  go_wp2_with fail
  refine (Of_any w17 2 (by decide) (by decide) false 2 rfl rfl).mono ?_
  rintro e' w18 ⟨Y4, ny4, rfl, hB, hI⟩
  have a18 := a17.on hB
  replace B10 := boxOn B10 hB S10
  replace S10 := Nat.lt_of_lt_of_le S10 hB.size
  replace B11 := boxOn B11 hB S11
  replace S11 := Nat.lt_of_lt_of_le S11 hB.size
  replace B12 := boxOn B12 hB S12
  replace S12 := Nat.lt_of_lt_of_le S12 hB.size
  replace B13 := boxOn B13 hB S13
  replace S13 := Nat.lt_of_lt_of_le S13 hB.size
  replace I0 := ints_on I0 hB
  replace I1 := ints_on I1 hB
  replace I2 := ints_on I2 hB
  replace I3 := ints_on I3 hB
  replace J4 := ints_on J4 hB
  have K4 := ints_all hI
  try clear hw
  clear hB a17 hI
  go_wp2_with fail
  refine (near_all w18 false false X4 Y4 nx4 nx4 ny4 ny4 _ _ 0 0 J4 K4 (⟨false, 3, 0⟩ : Dn) 0 R4.out).mono ?_
  rintro e' w19 ⟨G4, m4, o4, rfl, hc4, hB, hI⟩
  have a19 := a18.on hB
  replace B10 := boxOn B10 hB S10
  replace S10 := Nat.lt_of_lt_of_le S10 hB.size
  replace B11 := boxOn B11 hB S11
  replace S11 := Nat.lt_of_lt_of_le S11 hB.size
  replace B12 := boxOn B12 hB S12
  replace S12 := Nat.lt_of_lt_of_le S12 hB.size
  replace B13 := boxOn B13 hB S13
  replace S13 := Nat.lt_of_lt_of_le S13 hB.size
  replace I0 := ints_on I0 hB
  replace I1 := ints_on I1 hB
  replace I2 := ints_on I2 hB
  replace I3 := ints_on I3 hB
  replace J4 := ints_on J4 hB
  replace K4 := ints_on K4 hB
  have I4 := ints_all hI
  try clear hw
  clear hB a18 hI
  clear J4 K4 hc4
  have hB := (Below.refl w19.heap.size w19).alloc (Nat.le_refl _) (.cells #[.bool false, .slice G4 m4 o4, .int .i64 0] 24)
  have B14 := heap_alloc_last w19 (.cells #[.bool false, .slice G4 m4 o4, .int .i64 0] 24)
  have S14 : w19.heap.size < (w19.alloc (.cells #[.bool false, .slice G4 m4 o4, .int .i64 0] 24)).heap.size := by simp
  have a20 := a19.on hB
  replace B10 := boxOn B10 hB S10
  replace S10 := Nat.lt_of_lt_of_le S10 hB.size
  replace B11 := boxOn B11 hB S11
  replace S11 := Nat.lt_of_lt_of_le S11 hB.size
  replace B12 := boxOn B12 hB S12
  replace S12 := Nat.lt_of_lt_of_le S12 hB.size
  replace B13 := boxOn B13 hB S13
  replace S13 := Nat.lt_of_lt_of_le S13 hB.size
  replace I0 := ints_on I0 hB
  replace I1 := ints_on I1 hB
  replace I2 := ints_on I2 hB
  replace I3 := ints_on I3 hB
  replace I4 := ints_on I4 hB
  go_wp2_with fail
  generalize hw : (w19.alloc (.cells #[.bool false, .slice G4 m4 o4, .int .i64 0] 24)) = w20 at *
  clear hw
  clear hB a19
  refine (Of_any w20 (7) (by decide) (by decide) false 7 rfl rfl).mono ?_
  rintro e' w21 ⟨X5, nx5, rfl, hB, hI⟩
  have a21 := a20.on hB
  replace B10 := boxOn B10 hB S10
  replace S10 := Nat.lt_of_lt_of_le S10 hB.size
  replace B11 := boxOn B11 hB S11
  replace S11 := Nat.lt_of_lt_of_le S11 hB.size
  replace B12 := boxOn B12 hB S12
  replace S12 := Nat.lt_of_lt_of_le S12 hB.size
  replace B13 := boxOn B13 hB S13
  replace S13 := Nat.lt_of_lt_of_le S13 hB.size
  replace B14 := boxOn B14 hB S14
  replace S14 := Nat.lt_of_lt_of_le S14 hB.size
  replace I0 := ints_on I0 hB
  replace I1 := ints_on I1 hB
  replace I2 := ints_on I2 hB
  replace I3 := ints_on I3 hB
  replace I4 := ints_on I4 hB
  have J5 := ints_all hI
  try clear hw
  clear hB a20 hI
  go_wp2_with fail
  refine (Of_any w21 3 (by decide) (by decide) false 3 rfl rfl).mono ?_
  rintro e' w22 ⟨Y5, ny5, rfl, hB, hI⟩
  have a22 := a21.on hB
  replace B10 := boxOn B10 hB S10
  replace S10 := Nat.lt_of_lt_of_le S10 hB.size
  replace B11 := boxOn B11 hB S11
  replace S11 := Nat.lt_of_lt_of_le S11 hB.size
  replace B12 := boxOn B12 hB S12
  replace S12 := Nat.lt_of_lt_of_le S12 hB.size
  replace B13 := boxOn B13 hB S13
  replace S13 := Nat.lt_of_lt_of_le S13 hB.size
  replace B14 := boxOn B14 hB S14
  replace S14 := Nat.lt_of_lt_of_le S14 hB.size
  replace I0 := ints_on I0 hB
  replace I1 := ints_on I1 hB
  replace I2 := ints_on I2 hB
  replace I3 := ints_on I3 hB
  replace I4 := ints_on I4 hB
  replace J5 := ints_on J5 hB
  have K5 := ints_all hI
  try clear hw
  clear hB a21 hI
  go_wp2_with fail
  refine (near_all w22 false false X5 Y5 nx5 nx5 ny5 ny5 _ _ 0 0 J5 K5 (⟨false, 2, 0⟩ : Dn) 0 R5.out).mono ?_
  rintro e' w23 ⟨G5, m5, o5, rfl, hc5, hB, hI⟩
  have a23 := a22.on hB
  replace B10 := boxOn B10 hB S10
  replace S10 := Nat.lt_of_lt_of_le S10 hB.size
  replace B11 := boxOn B11 hB S11
  replace S11 := Nat.lt_of_lt_of_le S11 hB.size
  replace B12 := boxOn B12 hB S12
  replace S12 := Nat.lt_of_lt_of_le S12 hB.size
  replace B13 := boxOn B13 hB S13
  replace S13 := Nat.lt_of_lt_of_le S13 hB.size
  replace B14 := boxOn B14 hB S14
  replace S14 := Nat.lt_of_lt_of_le S14 hB.size
  replace I0 := ints_on I0 hB
  replace I1 := ints_on I1 hB
  replace I2 := ints_on I2 hB
  replace I3 := ints_on I3 hB
  replace I4 := ints_on I4 hB
  replace J5 := ints_on J5 hB
  replace K5 := ints_on K5 hB
  have I5 := ints_all hI
  try clear hw
  clear hB a22 hI
  clear J5 K5 hc5
  have hB := (Below.refl w23.heap.size w23).alloc (Nat.le_refl _) (.cells #[.bool false, .slice G5 m5 o5, .int .i64 0] 24)
  have B15 := heap_alloc_last w23 (.cells #[.bool false, .slice G5 m5 o5, .int .i64 0] 24)
  have S15 : w23.heap.size < (w23.alloc (.cells #[.bool false, .slice G5 m5 o5, .int .i64 0] 24)).heap.size := by simp
  have a24 := a23.on hB
  replace B10 := boxOn B10 hB S10
  replace S10 := Nat.lt_of_lt_of_le S10 hB.size
  replace B11 := boxOn B11 hB S11
  replace S11 := Nat.lt_of_lt_of_le S11 hB.size
  replace B12 := boxOn B12 hB S12
  replace S12 := Nat.lt_of_lt_of_le S12 hB.size
  replace B13 := boxOn B13 hB S13
  replace S13 := Nat.lt_of_lt_of_le S13 hB.size
  replace B14 := boxOn B14 hB S14
  replace S14 := Nat.lt_of_lt_of_le S14 hB.size
  replace I0 := ints_on I0 hB
  replace I1 := ints_on I1 hB
  replace I2 := ints_on I2 hB
  replace I3 := ints_on I3 hB
  replace I4 := ints_on I4 hB
  replace I5 := ints_on I5 hB
  go_upto_region 7 with fail
  generalize hw : (w23.alloc (.cells #[.bool false, .slice G5 m5 o5, .int .i64 0] 24)) = w24 at *
  clear hw
  clear hB a23
  obtain ⟨⟨p10, q10, r10⟩, u10, v10, x10⟩ := boxD B10
  go_wp2_with fail
  refine (is_yes w24 false G0 m0 o0 1 2 I0 (1) (by decide) (by decide) rfl rfl).mono ?_
  rintro e' w25 ⟨rfl, hB⟩
  have a25 := a24.on hB
  replace B10 := boxOn B10 hB S10
  replace S10 := Nat.lt_of_lt_of_le S10 hB.size
  replace B11 := boxOn B11 hB S11
  replace S11 := Nat.lt_of_lt_of_le S11 hB.size
  replace B12 := boxOn B12 hB S12
  replace S12 := Nat.lt_of_lt_of_le S12 hB.size
  replace B13 := boxOn B13 hB S13
  replace S13 := Nat.lt_of_lt_of_le S13 hB.size
  replace B14 := boxOn B14 hB S14
  replace S14 := Nat.lt_of_lt_of_le S14 hB.size
  replace B15 := boxOn B15 hB S15
  replace S15 := Nat.lt_of_lt_of_le S15 hB.size
  replace I0 := ints_on I0 hB
  replace I1 := ints_on I1 hB
  replace I2 := ints_on I2 hB
  replace I3 := ints_on I3 hB
  replace I4 := ints_on I4 hB
  replace I5 := ints_on I5 hB
  clear p10 q10 r10 u10 v10 x10
  try clear hw
  clear hB a24
  clear B10 S10 I0
  obtain ⟨⟨p11, q11, r11⟩, u11, v11, x11⟩ := boxD B11
  go_wp2_with fail
  refine (is_yes w25 false G1 m1 o1 1 1 I1 (1) (by decide) (by decide) rfl rfl).mono ?_
  rintro e' w26 ⟨rfl, hB⟩
  have a26 := a25.on hB
  replace B11 := boxOn B11 hB S11
  replace S11 := Nat.lt_of_lt_of_le S11 hB.size
  replace B12 := boxOn B12 hB S12
  replace S12 := Nat.lt_of_lt_of_le S12 hB.size
  replace B13 := boxOn B13 hB S13
  replace S13 := Nat.lt_of_lt_of_le S13 hB.size
  replace B14 := boxOn B14 hB S14
  replace S14 := Nat.lt_of_lt_of_le S14 hB.size
  replace B15 := boxOn B15 hB S15
  replace S15 := Nat.lt_of_lt_of_le S15 hB.size
  replace I1 := ints_on I1 hB
  replace I2 := ints_on I2 hB
  replace I3 := ints_on I3 hB
  replace I4 := ints_on I4 hB
  replace I5 := ints_on I5 hB
  clear p11 q11 r11 u11 v11 x11
  try clear hw
  clear hB a25
  clear B11 S11 I1
  obtain ⟨⟨p12, q12, r12⟩, u12, v12, x12⟩ := boxD B12
  go_wp2_with fail
  refine (is_yes w26 true G2 m2 o2 1 0 I2 (-1) (by decide) (by decide) rfl rfl).mono ?_
  rintro e' w27 ⟨rfl, hB⟩
  have a27 := a26.on hB
  replace B12 := boxOn B12 hB S12
  replace S12 := Nat.lt_of_lt_of_le S12 hB.size
  replace B13 := boxOn B13 hB S13
  replace S13 := Nat.lt_of_lt_of_le S13 hB.size
  replace B14 := boxOn B14 hB S14
  replace S14 := Nat.lt_of_lt_of_le S14 hB.size
  replace B15 := boxOn B15 hB S15
  replace S15 := Nat.lt_of_lt_of_le S15 hB.size
  replace I2 := ints_on I2 hB
  replace I3 := ints_on I3 hB
  replace I4 := ints_on I4 hB
  replace I5 := ints_on I5 hB
  clear p12 q12 r12 u12 v12 x12
  try clear hw
  clear hB a26
  clear B12 S12 I2
  obtain ⟨⟨p13, q13, r13⟩, u13, v13, x13⟩ := boxD B13
  go_wp2_with fail
  refine (is_yes w27 false G3 m3 o3 0 0 I3 (0) (by decide) (by decide) rfl rfl).mono ?_
  rintro e' w28 ⟨rfl, hB⟩
  have a28 := a27.on hB
  replace B13 := boxOn B13 hB S13
  replace S13 := Nat.lt_of_lt_of_le S13 hB.size
  replace B14 := boxOn B14 hB S14
  replace S14 := Nat.lt_of_lt_of_le S14 hB.size
  replace B15 := boxOn B15 hB S15
  replace S15 := Nat.lt_of_lt_of_le S15 hB.size
  replace I3 := ints_on I3 hB
  replace I4 := ints_on I4 hB
  replace I5 := ints_on I5 hB
  clear p13 q13 r13 u13 v13 x13
  try clear hw
  clear hB a27
  clear B13 S13 I3
  obtain ⟨⟨p14, q14, r14⟩, u14, v14, x14⟩ := boxD B14
  go_wp2_with fail
  refine (is_yes w28 false G4 m4 o4 3 0 I4 (3) (by decide) (by decide) rfl rfl).mono ?_
  rintro e' w29 ⟨rfl, hB⟩
  have a29 := a28.on hB
  replace B14 := boxOn B14 hB S14
  replace S14 := Nat.lt_of_lt_of_le S14 hB.size
  replace B15 := boxOn B15 hB S15
  replace S15 := Nat.lt_of_lt_of_le S15 hB.size
  replace I4 := ints_on I4 hB
  replace I5 := ints_on I5 hB
  clear p14 q14 r14 u14 v14 x14
  try clear hw
  clear hB a28
  clear B14 S14 I4
  obtain ⟨⟨p15, q15, r15⟩, u15, v15, x15⟩ := boxD B15
  go_wp2_with fail
  refine (is_yes w29 false G5 m5 o5 2 0 I5 (2) (by decide) (by decide) rfl rfl).mono ?_
  rintro e' w30 ⟨rfl, hB⟩
  have a30 := a29.on hB
  replace B15 := boxOn B15 hB S15
  replace S15 := Nat.lt_of_lt_of_le S15 hB.size
  replace I5 := ints_on I5 hB
  clear p15 q15 r15 u15 v15 x15
  try clear hw
  clear hB a29
  clear B15 S15 I5
  go_wp2
  go_ret
  exact ⟨rfl, a30.below⟩
end Dy
end Go.Proofs.YtbbnbgllgomolaaDoor
namespace Go.Proofs.YtbbnbgllgomolaaDoor
open Go.RowKit
namespace Dy
open Dp
set_option maxHeartbeats 6400000 in
set_option maxRecDepth 100000 in
/-- dyad.Cmp: dyads that may be. -/
theorem Cmp_ok (w : World) (a b : Dn) (ha : a.May) (hb : b.May) (A1 : Option Addr) (n1 c1 : Nat) (h1 : Ints w 0 w.heap.size .u32 A1 n1 (canon 4294967296 a.m)) (A2 : Option Addr) (n2 c2 : Nat) (h2 : Ints w 0 w.heap.size .u32 A2 n2 (canon 4294967296 b.m)) (hT : Tab w) (z : Int) (h : cmpD a b = z) :
    Calls Tryd.prog 27 #[.agg #[.bool a.neg, .slice A1 n1 c1, .int .i64 a.e], .agg #[.bool b.neg, .slice A2 n2 c2, .int .i64 b.e]] w fun e w' => e = .returned (.tuple #[.int .i64 z, .int .i64 0]) ∧ Below w.heap.size w w' := by
  have hn1 := ints_may h1 ha
  have hn2 := ints_may h2 hb
  have HM1 := Lib.hid (dn_may ha)
  have HM2 := Lib.hid (dn_may hb)
  have hae := ha.2.1
  have hbe := hb.2.1
  obtain ⟨sd1, _, sn1⟩ := canon_spec 4294967296 a.m (by decide)
  obtain ⟨sd2, _, sn2⟩ := canon_spec 4294967296 b.m (by decide)
  have SN1 := Lib.hid sn1
  have SN2 := Lib.hid sn2
  have H := Lib.hid h
  obtain ⟨M, hK⟩ : ∃ M, max a.e b.e = M := ⟨_, rfl⟩
  have HK := Lib.hid hK
  have hK1 : a.e ≤ M := by omega
  have hK2 : b.e ≤ M := by omega
  have hK3 : M ≤ 1024 := by omega
  have hkab : (a.e < b.e ∧ M = b.e) ∨ (¬ a.e < b.e ∧ M = a.e) := by omega
  generalize hm1 : canon 4294967296 a.m = xs1 at *
  generalize hm2 : canon 4294967296 b.m = xs2 at *
  clear h sn1 sn2 hK hm1 hm2
  generalize hw1 : (w.alloc (.cells #[.bool a.neg, .slice A1 n1 c1, .int .i64 a.e] 24)).alloc (.cells #[.bool b.neg, .slice A2 n2 c2, .int .i64 b.e] 24) = w1
  have hs1 : w1.heap.size = w.heap.size + 2 := by rw [← hw1]; simp
  have HS1 := Lib.hid hs1
  have hB1 : Below w.heap.size w w1 := by rw [← hw1]; exact ((Below.refl _ w).alloc (Nat.le_refl _) _).alloc (by simp) _
  have hb1 : w1.heap[w.heap.size]? = some (.cells #[.bool a.neg, .slice A1 n1 c1, .int .i64 a.e] 24 (0, 0)) := by
    rw [← hw1, Below.heap_alloc _ _ _ (by simp)]
    exact heap_alloc_last _ _
  have hb2 : w1.heap[w.heap.size + 1]? = some (.cells #[.bool b.neg, .slice A2 n2 c2, .int .i64 b.e] 24 (0, 0)) := by
    rw [← hw1]
    exact heap_alloc2_new _ _ _
  have g1 := h1.below hB1 (Nat.le_refl _)
  have g2 := h2.below hB1 (Nat.le_refl _)
  have hT1 := hT.below hB1 hT.lt
  have h0 := hT.lt
  clear hs1
  obtain ⟨⟨p0, p1, p2⟩, p3, p4, p5⟩ := boxD hb1
  obtain ⟨⟨q0, q1, q2⟩, q3, q4, q5⟩ := boxD hb2
  go_enter Tryd.func27, Tryd.ntmps27
  go_wp2_with fail
  refine (Check_ok w1 0 w.heap.size a.neg A1 n1 c1 xs1 a.e g1 (by have := HS1.out; omega) HM1.out).mono ?_
  rintro e w2 ⟨rfl, hB2⟩
  have hs2 := hB2.size
  replace g1 := g1.below hB2 (by have := HS1.out; omega)
  replace g2 := g2.below hB2 (by have := HS1.out; omega)
  replace hT1 := hT1.below hB2 (by have := HS1.out; omega)
  replace hb1 := (hB2.block _ (by have := HS1.out; omega)).trans hb1
  replace hb2 := (hB2.block _ (by have := HS1.out; omega)).trans hb2
  replace hB1 := hB1.trans (hB2.mono (by have := HS1.out; omega))
  clear hB2 p0 p1 p2 p3 p4 p5 q0 q1 q2 q3 q4 q5 hw1
  obtain ⟨⟨p0, p1, p2⟩, p3, p4, p5⟩ := boxD hb1
  obtain ⟨⟨q0, q1, q2⟩, q3, q4, q5⟩ := boxD hb2
  go_wp2_with fail
  refine (Check_ok w2 0 w.heap.size b.neg A2 n2 c2 xs2 b.e g2 (by have := HS1.out; omega) HM2.out).mono ?_
  rintro e w3 ⟨rfl, hB2⟩
  have hs3 := hB2.size
  replace g1 := g1.below hB2 (by have := HS1.out; omega)
  replace g2 := g2.below hB2 (by have := HS1.out; omega)
  replace hT1 := hT1.below hB2 (by have := HS1.out; omega)
  replace hb1 := (hB2.block _ (by have := HS1.out; omega)).trans hb1
  replace hb2 := (hB2.block _ (by have := HS1.out; omega)).trans hb2
  replace hB1 := hB1.trans (hB2.mono (by have := HS1.out; omega))
  clear hB2 p0 p1 p2 p3 p4 p5 q0 q1 q2 q3 q4 q5
  obtain ⟨⟨p0, p1, p2⟩, p3, p4, p5⟩ := boxD hb1
  obtain ⟨⟨q0, q1, q2⟩, q3, q4, q5⟩ := boxD hb2
  rcases hkab with ⟨hkl, hke⟩ | ⟨hkl, hke⟩
  · have HKE := Lib.hid hke
    clear hke
    go_wp2_with fail
    refine (of_any w3 0 w.heap.size a.neg A1 n1 c1 xs1 a.e (M - a.e) g1 (by have := HS1.out; omega) sd1 hn1 (by omega) (by omega) _ (by have := HKE.out; omega)).mono ?_
    rintro e w4 ⟨g, ws, rfl, hB4, hg1, hg2, hS4, hnw⟩
    have hs4 := hB4.size
    replace g1 := g1.below hB4 (by have := HS1.out; omega)
    replace g2 := g2.below hB4 (by have := HS1.out; omega)
    replace hT1 := hT1.below hB4 (by have := HS1.out; omega)
    replace hb1 := (hB4.block _ (by have := HS1.out; omega)).trans hb1
    replace hb2 := (hB4.block _ (by have := HS1.out; omega)).trans hb2
    replace hB1 := hB1.trans (hB4.mono (by have := HS1.out; omega))
    have HNW := Lib.hid hnw
    clear hB4 p0 p1 p2 p3 p4 p5 q0 q1 q2 q3 q4 q5 hnw
    go_wp2_with fail
    have hSS : w4.drew.heap[w.heap.size + 1]? = w4.heap[w.heap.size + 1]? := rfl
    refine region_E (fun w' => w'.heap[w.heap.size + 1]? = w4.heap[w.heap.size + 1]?) [] (m := 8) (L := #[false, false, false, false, false, false, false, false]) (by kernel_rfl) (by rfl) (by rfl) ?_
    refine pureE (i := 0) (L := #[true, false, false, false, false, false, false, false]) (v := ?_) rfl (by rfl) (by kernel_rfl) (by kernel_rfl) (by kernel_rfl) (fun _ _ _ h => h) (by rfl) ?hy1 ?rest1
    case hy1 => intro w; go_simp; (try with_reducible rfl)
    try simp only [Act.put, List.setIfInBounds_toArray, List.set_cons_zero, List.set_cons_succ]
    refine pureE (i := 1) (L := #[true, true, false, false, false, false, false, false]) (v := ?_) rfl (by rfl) (by kernel_rfl) (by kernel_rfl) (by kernel_rfl) (fun _ _ _ h => h) (by rfl) ?hy2 ?rest2
    case hy2 => intro w; go_simp; (try with_reducible rfl)
    try simp only [Act.put, List.setIfInBounds_toArray, List.set_cons_zero, List.set_cons_succ]
    refine readE (i := 2) (L := #[true, true, true, false, false, false, false, false]) (v := .bool b.neg) rfl (by rfl) (by kernel_rfl) (by kernel_rfl) (by kernel_rfl) (fun _ _ _ h => h) (by assumption) (by rfl) ?hyA1 ?restA1
    case hyA1 =>
      intro w' h1
      have k := (boxD (h1.trans hb2)).1.1
      go_simp
    try simp only [Act.put, List.setIfInBounds_toArray, List.set_cons_zero, List.set_cons_succ]
    refine pureE (i := 3) (L := #[true, true, true, true, false, false, false, false]) (v := ?_) rfl (by rfl) (by kernel_rfl) (by kernel_rfl) (by kernel_rfl) (fun _ _ _ h => h) (by rfl) ?hy4 ?rest4
    case hy4 => intro w; go_simp; (try with_reducible rfl)
    try simp only [Act.put, List.setIfInBounds_toArray, List.set_cons_zero, List.set_cons_succ]
    refine readE (i := 4) (L := #[true, true, true, true, true, false, false, false]) (v := .agg #[.bool b.neg, .slice A2 n2 c2, .int .i64 b.e]) rfl (by rfl) (by kernel_rfl) (by kernel_rfl) (by kernel_rfl) (fun _ _ _ h => h) (by assumption) (by rfl) ?hyB1 ?restB1
    case hyB1 =>
      intro w' h1
      obtain ⟨⟨k1, k2, k3⟩, _⟩ := boxD (h1.trans hb2)
      go_simp
    try simp only [Act.put, List.setIfInBounds_toArray, List.set_cons_zero, List.set_cons_succ]
    refine pureE (i := 5) (L := #[true, true, true, true, true, true, false, false]) (v := ?_) rfl (by rfl) (by kernel_rfl) (by kernel_rfl) (by kernel_rfl) (fun _ _ _ h => h) (by rfl) ?hy6 ?rest6
    case hy6 => intro w; go_simp; (try with_reducible rfl)
    try simp only [Act.put, List.setIfInBounds_toArray, List.set_cons_zero, List.set_cons_succ]
    refine stepK (i := 6) (L := #[true, true, true, true, true, true, true, false]) rfl (by rfl) (by kernel_rfl) (by rfl) (fun K hK => ?_)
    go_simp
    go_at_call 55
    refine (widen_any w4.drew 0 w.heap.size b.neg A2 n2 c2 xs2 b.e (M - b.e) (g2.drewN 1) (by show w.heap.size ≤ w4.heap.size; have := HS1.out; omega) sd2 hn2 (by omega) (by omega) _ (by have := HKE.out; omega)).mono ?_
    rintro e w5 ⟨us, rfl, hB5', hul, hud, hnu⟩
    have hB5 : Below w4.heap.size w4 w5 := (Below.refl _ w4).drew.trans hB5'
    clear hB5'
    have hs5 := hB5.size
    replace g1 := g1.below hB5 (by have := HS1.out; omega)
    replace hT1 := hT1.below hB5 (by have := HS1.out; omega)
    have hb2' := hB5.block (w.heap.size + 1) (by have := HS1.out; omega)
    replace hB1 := hB1.trans (hB5.mono (by have := HS1.out; omega))
    have hS5 := hS4.of_heap (hB5.block g hg2)
    have HNU := Lib.hid hnu
    clear hB5 hnu hS4
    refine hK _ _ ⟨fun _ _ => hb2', ?_⟩
    clear hK K
    try simp only [Act.put, List.setIfInBounds_toArray, List.set_cons_zero, List.set_cons_succ]
    obtain ⟨sr, mr, hpl⟩ : ∃ sr mr, plusS a.neg (num 4294967296 ws) (!b.neg) (num 4294967296 us) = (sr, mr) := ⟨_, _, rfl⟩
    have hroom : num 4294967296 ws + num 4294967296 us < 4294967296 ^ 74 := by
      rw [HNW.out, HNU.out, SN1.out, SN2.out]
      exact sum_room (shift_lt ha.1 (by omega)) (shift_lt hb.1 (by omega))
    have hcmp : z = if mr = 0 then 0 else if sr then -1 else 1 := by
      rw [← H.out]
      refine cmp_by a b (!b.neg) (fun _ => rfl) sr mr ?_
      rw [HK.out]
      rw [HNW.out, HNU.out, SN1.out, SN2.out] at hpl
      exact hpl
    have HPL := Lib.hid hpl
    have HR := Lib.hid hroom
    have HF := Lib.hid hcmp
    clear hpl hroom hcmp
    refine stepK (i := 7) (L := #[true, true, true, true, true, true, true, true]) rfl (by rfl) (by kernel_rfl) (by rfl) (fun K hK => ?_)
    go_simp
    go_at_call 54
    refine (add_any w5 g a.neg (!b.neg) _ _ ws us hS5 (by omega) hul hud HR.out sr mr HPL.out).mono ?_
    rintro e w6 ⟨rfl, hO6, vs, hS6, hnv⟩
    have hs6 := hO6.size
    replace g1 := g1
    have hB6 := hO6.below hB1 (by have := HS1.out; omega) (by have := HS1.out; omega)
    refine hK _ _ ⟨fun _ h => (hO6.block _ (by have := HS1.out; omega) (by have := HS1.out; omega)).trans h, ?_⟩
    clear hK K hO6 g1 hT1 hB1 hS5
    try simp only [Act.put, List.setIfInBounds_toArray, List.set_cons_zero, List.set_cons_succ]
    refine doneE (by kernel_rfl) ?_ _
    have hvl := hS6.len
    obtain ⟨⟨y0, y1, y2⟩, y3⟩ := And.intro hS6.head (hS6.free 0)
    by_cases hm0 : mr = 0
    · have hz0 : z = 0 := by rw [HF.out, if_pos hm0]
      subst hz0
      have heq := eql_zero w6 vs hvl hS6.dig true (by simp [hnv, hm0])
      go_wp2_with (first
        | (refine wpList_load_wide rfl (.tmp 34) rfl g 3 rfl vs hS6.row ?_)
        | (refine wpList_build0 rfl rfl ?_))
      go_ret2
      exact ⟨rfl, hB6⟩
    · have heq := eql_zero w6 vs hvl hS6.dig false (by simp [hnv, hm0])
      cases sr
      · have hz0 : z = 1 := by rw [HF.out, if_neg hm0]; rfl
        subst hz0
        go_wp2_with (first
          | (refine wpList_load_wide rfl (.tmp 34) rfl g 3 rfl vs hS6.row ?_)
          | (refine wpList_build0 rfl rfl ?_))
        go_ret2
        exact ⟨rfl, hB6⟩
      · have hz0 : z = -1 := by rw [HF.out, if_neg hm0]; rfl
        subst hz0
        go_wp2_with (first
          | (refine wpList_load_wide rfl (.tmp 34) rfl g 3 rfl vs hS6.row ?_)
          | (refine wpList_build0 rfl rfl ?_))
        go_ret2
        exact ⟨rfl, hB6⟩
  · have HKE := Lib.hid hke
    clear hke
    go_wp2_with fail
    refine (of_any w3 0 w.heap.size a.neg A1 n1 c1 xs1 a.e (M - a.e) g1 (by have := HS1.out; omega) sd1 hn1 (by omega) (by omega) _ (by have := HKE.out; omega)).mono ?_
    rintro e w4 ⟨g, ws, rfl, hB4, hg1, hg2, hS4, hnw⟩
    have hs4 := hB4.size
    replace g1 := g1.below hB4 (by have := HS1.out; omega)
    replace g2 := g2.below hB4 (by have := HS1.out; omega)
    replace hT1 := hT1.below hB4 (by have := HS1.out; omega)
    replace hb1 := (hB4.block _ (by have := HS1.out; omega)).trans hb1
    replace hb2 := (hB4.block _ (by have := HS1.out; omega)).trans hb2
    replace hB1 := hB1.trans (hB4.mono (by have := HS1.out; omega))
    have HNW := Lib.hid hnw
    clear hB4 p0 p1 p2 p3 p4 p5 q0 q1 q2 q3 q4 q5 hnw
    go_wp2_with fail
    have hSS : w4.drew.heap[w.heap.size + 1]? = w4.heap[w.heap.size + 1]? := rfl
    refine region_E (fun w' => w'.heap[w.heap.size + 1]? = w4.heap[w.heap.size + 1]?) [] (m := 8) (L := #[false, false, false, false, false, false, false, false]) (by kernel_rfl) (by rfl) (by rfl) ?_
    refine pureE (i := 0) (L := #[true, false, false, false, false, false, false, false]) (v := ?_) rfl (by rfl) (by kernel_rfl) (by kernel_rfl) (by kernel_rfl) (fun _ _ _ h => h) (by rfl) ?hy9 ?rest9
    case hy9 => intro w; go_simp; (try with_reducible rfl)
    try simp only [Act.put, List.setIfInBounds_toArray, List.set_cons_zero, List.set_cons_succ]
    refine pureE (i := 1) (L := #[true, true, false, false, false, false, false, false]) (v := ?_) rfl (by rfl) (by kernel_rfl) (by kernel_rfl) (by kernel_rfl) (fun _ _ _ h => h) (by rfl) ?hy10 ?rest10
    case hy10 => intro w; go_simp; (try with_reducible rfl)
    try simp only [Act.put, List.setIfInBounds_toArray, List.set_cons_zero, List.set_cons_succ]
    refine readE (i := 2) (L := #[true, true, true, false, false, false, false, false]) (v := .bool b.neg) rfl (by rfl) (by kernel_rfl) (by kernel_rfl) (by kernel_rfl) (fun _ _ _ h => h) (by assumption) (by rfl) ?hyA2 ?restA2
    case hyA2 =>
      intro w' h1
      have k := (boxD (h1.trans hb2)).1.1
      go_simp
    try simp only [Act.put, List.setIfInBounds_toArray, List.set_cons_zero, List.set_cons_succ]
    refine pureE (i := 3) (L := #[true, true, true, true, false, false, false, false]) (v := ?_) rfl (by rfl) (by kernel_rfl) (by kernel_rfl) (by kernel_rfl) (fun _ _ _ h => h) (by rfl) ?hy12 ?rest12
    case hy12 => intro w; go_simp; (try with_reducible rfl)
    try simp only [Act.put, List.setIfInBounds_toArray, List.set_cons_zero, List.set_cons_succ]
    refine readE (i := 4) (L := #[true, true, true, true, true, false, false, false]) (v := .agg #[.bool b.neg, .slice A2 n2 c2, .int .i64 b.e]) rfl (by rfl) (by kernel_rfl) (by kernel_rfl) (by kernel_rfl) (fun _ _ _ h => h) (by assumption) (by rfl) ?hyB2 ?restB2
    case hyB2 =>
      intro w' h1
      obtain ⟨⟨k1, k2, k3⟩, _⟩ := boxD (h1.trans hb2)
      go_simp
    try simp only [Act.put, List.setIfInBounds_toArray, List.set_cons_zero, List.set_cons_succ]
    refine pureE (i := 5) (L := #[true, true, true, true, true, true, false, false]) (v := ?_) rfl (by rfl) (by kernel_rfl) (by kernel_rfl) (by kernel_rfl) (fun _ _ _ h => h) (by rfl) ?hy14 ?rest14
    case hy14 => intro w; go_simp; (try with_reducible rfl)
    try simp only [Act.put, List.setIfInBounds_toArray, List.set_cons_zero, List.set_cons_succ]
    refine stepK (i := 6) (L := #[true, true, true, true, true, true, true, false]) rfl (by rfl) (by kernel_rfl) (by rfl) (fun K hK => ?_)
    go_simp
    go_at_call 55
    refine (widen_any w4.drew 0 w.heap.size b.neg A2 n2 c2 xs2 b.e (M - b.e) (g2.drewN 1) (by show w.heap.size ≤ w4.heap.size; have := HS1.out; omega) sd2 hn2 (by omega) (by omega) _ (by have := HKE.out; omega)).mono ?_
    rintro e w5 ⟨us, rfl, hB5', hul, hud, hnu⟩
    have hB5 : Below w4.heap.size w4 w5 := (Below.refl _ w4).drew.trans hB5'
    clear hB5'
    have hs5 := hB5.size
    replace g1 := g1.below hB5 (by have := HS1.out; omega)
    replace hT1 := hT1.below hB5 (by have := HS1.out; omega)
    have hb2' := hB5.block (w.heap.size + 1) (by have := HS1.out; omega)
    replace hB1 := hB1.trans (hB5.mono (by have := HS1.out; omega))
    have hS5 := hS4.of_heap (hB5.block g hg2)
    have HNU := Lib.hid hnu
    clear hB5 hnu hS4
    refine hK _ _ ⟨fun _ _ => hb2', ?_⟩
    clear hK K
    try simp only [Act.put, List.setIfInBounds_toArray, List.set_cons_zero, List.set_cons_succ]
    obtain ⟨sr, mr, hpl⟩ : ∃ sr mr, plusS a.neg (num 4294967296 ws) (!b.neg) (num 4294967296 us) = (sr, mr) := ⟨_, _, rfl⟩
    have hroom : num 4294967296 ws + num 4294967296 us < 4294967296 ^ 74 := by
      rw [HNW.out, HNU.out, SN1.out, SN2.out]
      exact sum_room (shift_lt ha.1 (by omega)) (shift_lt hb.1 (by omega))
    have hcmp : z = if mr = 0 then 0 else if sr then -1 else 1 := by
      rw [← H.out]
      refine cmp_by a b (!b.neg) (fun _ => rfl) sr mr ?_
      rw [HK.out]
      rw [HNW.out, HNU.out, SN1.out, SN2.out] at hpl
      exact hpl
    have HPL := Lib.hid hpl
    have HR := Lib.hid hroom
    have HF := Lib.hid hcmp
    clear hpl hroom hcmp
    refine stepK (i := 7) (L := #[true, true, true, true, true, true, true, true]) rfl (by rfl) (by kernel_rfl) (by rfl) (fun K hK => ?_)
    go_simp
    go_at_call 54
    refine (add_any w5 g a.neg (!b.neg) _ _ ws us hS5 (by omega) hul hud HR.out sr mr HPL.out).mono ?_
    rintro e w6 ⟨rfl, hO6, vs, hS6, hnv⟩
    have hs6 := hO6.size
    replace g1 := g1
    have hB6 := hO6.below hB1 (by have := HS1.out; omega) (by have := HS1.out; omega)
    refine hK _ _ ⟨fun _ h => (hO6.block _ (by have := HS1.out; omega) (by have := HS1.out; omega)).trans h, ?_⟩
    clear hK K hO6 g1 hT1 hB1 hS5
    try simp only [Act.put, List.setIfInBounds_toArray, List.set_cons_zero, List.set_cons_succ]
    refine doneE (by kernel_rfl) ?_ _
    have hvl := hS6.len
    obtain ⟨⟨y0, y1, y2⟩, y3⟩ := And.intro hS6.head (hS6.free 0)
    by_cases hm0 : mr = 0
    · have hz0 : z = 0 := by rw [HF.out, if_pos hm0]
      subst hz0
      have heq := eql_zero w6 vs hvl hS6.dig true (by simp [hnv, hm0])
      go_wp2_with (first
        | (refine wpList_load_wide rfl (.tmp 34) rfl g 3 rfl vs hS6.row ?_)
        | (refine wpList_build0 rfl rfl ?_))
      go_ret2
      exact ⟨rfl, hB6⟩
    · have heq := eql_zero w6 vs hvl hS6.dig false (by simp [hnv, hm0])
      cases sr
      · have hz0 : z = 1 := by rw [HF.out, if_neg hm0]; rfl
        subst hz0
        go_wp2_with (first
          | (refine wpList_load_wide rfl (.tmp 34) rfl g 3 rfl vs hS6.row ?_)
          | (refine wpList_build0 rfl rfl ?_))
        go_ret2
        exact ⟨rfl, hB6⟩
      · have hz0 : z = -1 := by rw [HF.out, if_neg hm0]; rfl
        subst hz0
        go_wp2_with (first
          | (refine wpList_load_wide rfl (.tmp 34) rfl g 3 rfl vs hS6.row ?_)
          | (refine wpList_build0 rfl rfl ?_))
        go_ret2
        exact ⟨rfl, hB6⟩
end Dy
end Go.Proofs.YtbbnbgllgomolaaDoor
namespace Go.Proofs.YtbbnbgllgomolaaDoor
open Go.RowKit
namespace Dy
open Dp
open Classical in
noncomputable def subX (s1 : Bool) (xs1 : List Int) (e1 : Int) (s2 : Bool) (xs2 : List Int) (e2 : Int) : Dn × Int := if MayD s1 xs1 e1 ∧ MayD s2 xs2 e2 then subD (dn s1 xs1 e1) (dn s2 xs2 e2) else (Dn.zero, 8)
open Classical in
noncomputable def halfX (s1 : Bool) (xs1 : List Int) (e1 : Int) : Dn × Int := if MayD s1 xs1 e1 then halfD (dn s1 xs1 e1) else (Dn.zero, 8)
theorem bad_formed {w : World} {e : Ending} {w' : World} (h : Bad w e w') : Formed w Dn.zero 8 e w' := ⟨none, 0, 0, h.1, Nat.le_refl _, h.2, Ints.nil_ ..⟩
theorem Sub_all (w : World) (s1 s2 : Bool) (A1 A2 : Option Addr) (n1 c1 n2 c2 : Nat) (xs1 xs2 : List Int) (e1 e2 : Int) (h1 : Ints w 0 w.heap.size .u32 A1 n1 xs1) (h2 : Ints w 0 w.heap.size .u32 A2 n2 xs2) (hT : Tab w) (r : Dn) (code : Int) (h : subX s1 xs1 e1 s2 xs2 e2 = (r, code)) :
    Calls Tryd.prog 26 #[.agg #[.bool s1, .slice A1 n1 c1, .int .i64 e1], .agg #[.bool s2, .slice A2 n2 c2, .int .i64 e2]] w (Formed w r code) := by
  unfold subX at h
  split at h
  · rename_i hm
    exact Sub_raw w s1 s2 A1 A2 n1 c1 n2 c2 xs1 xs2 e1 e2 h1 h2 hm.1 hm.2 hT r code h
  · rename_i hm
    injection h with h3 h4
    subst h3 h4
    exact (Sub_bad w s1 s2 A1 A2 n1 c1 n2 c2 xs1 xs2 e1 e2 h1 h2 (Classical.not_and_iff_not_or_not.1 hm)).mono fun _ _ k => bad_formed k
theorem Half_all (w : World) (s1 : Bool) (A1 : Option Addr) (n1 c1 : Nat) (xs1 : List Int) (e1 : Int) (h1 : Ints w 0 w.heap.size .u32 A1 n1 xs1) (hT : Tab w) (r : Dn) (code : Int) (h : halfX s1 xs1 e1 = (r, code)) :
    Calls Tryd.prog 21 #[.agg #[.bool s1, .slice A1 n1 c1, .int .i64 e1]] w (Formed w r code) := by
  unfold halfX at h
  split at h
  · rename_i hm
    exact Half_raw w s1 A1 n1 c1 xs1 e1 h1 hm hT r code h
  · rename_i hm
    injection h with h3 h4
    subst h3 h4
    exact (Half_bad w s1 A1 n1 c1 xs1 e1 h1 hm).mono fun _ _ k => bad_formed k
end Dy
end Go.Proofs.YtbbnbgllgomolaaDoor
namespace Go.Proofs.YtbbnbgllgomolaaDoor
open Go.RowKit
namespace Dy
open Dp
set_option maxHeartbeats 1600000 in
set_option maxRecDepth 100000 in
/-- dyad.Cmp: dyads that may not be. -/
theorem Cmp_bad (w : World) (s1 s2 : Bool) (A1 A2 : Option Addr) (n1 c1 n2 c2 : Nat) (xs1 xs2 : List Int) (e1 e2 : Int) (h1 : Ints w 0 w.heap.size .u32 A1 n1 xs1) (h2 : Ints w 0 w.heap.size .u32 A2 n2 xs2) (h : ¬ MayD s1 xs1 e1 ∨ ¬ MayD s2 xs2 e2) :
    Calls Tryd.prog 27 #[.agg #[.bool s1, .slice A1 n1 c1, .int .i64 e1], .agg #[.bool s2, .slice A2 n2 c2, .int .i64 e2]] w fun e w' => e = .returned (.tuple #[.int .i64 0, .int .i64 8]) ∧ Below w.heap.size w w' := by
  generalize hw1 : (w.alloc (.cells #[.bool s1, .slice A1 n1 c1, .int .i64 e1] 24)).alloc (.cells #[.bool s2, .slice A2 n2 c2, .int .i64 e2] 24) = w1
  have hs1 : w1.heap.size = w.heap.size + 2 := by rw [← hw1]; simp
  have HS1 := Lib.hid hs1
  have hB1 : Below w.heap.size w w1 := by rw [← hw1]; exact ((Below.refl _ w).alloc (Nat.le_refl _) _).alloc (by simp) _
  have hb1 : w1.heap[w.heap.size]? = some (.cells #[.bool s1, .slice A1 n1 c1, .int .i64 e1] 24 (0, 0)) := by
    rw [← hw1, Below.heap_alloc _ _ _ (by simp)]
    exact heap_alloc_last _ _
  have hb2 : w1.heap[w.heap.size + 1]? = some (.cells #[.bool s2, .slice A2 n2 c2, .int .i64 e2] 24 (0, 0)) := by
    rw [← hw1]
    exact heap_alloc2_new _ _ _
  have g1 := h1.below hB1 (Nat.le_refl _)
  have g2 := h2.below hB1 (Nat.le_refl _)
  clear hs1
  obtain ⟨⟨p0, p1, p2⟩, p3, p4, p5⟩ := boxD hb1
  obtain ⟨⟨q0, q1, q2⟩, q3, q4, q5⟩ := boxD hb2
  by_cases hm : MayD s1 xs1 e1
  · have hm2 := h.resolve_left (fun k => k hm)
    clear h
    go_enter Tryd.func27, Tryd.ntmps27
    go_wp2_with fail
    refine (Check_ok w1 0 w.heap.size s1 A1 n1 c1 xs1 e1 g1 (by have := HS1.out; omega) hm).mono ?_
    rintro e w2 ⟨rfl, hB2⟩
    have hs2 := hB2.size
    replace g2 := g2.below hB2 (by have := HS1.out; omega)
    replace hb2 := (hB2.block _ (by have := HS1.out; omega)).trans hb2
    replace hB1 := hB1.trans (hB2.mono (by have := HS1.out; omega))
    clear hB2 p0 p1 p2 p3 p4 p5 q0 q1 q2 q3 q4 q5 hw1 hm
    obtain ⟨⟨q0, q1, q2⟩, q3, q4, q5⟩ := boxD hb2
    go_wp2_with fail
    refine (Check_bad w2 0 w.heap.size s2 A2 n2 c2 xs2 e2 g2 (by have := HS1.out; omega) hm2).mono ?_
    rintro e w3 ⟨rfl, hB2⟩
    replace hB1 := hB1.trans (hB2.mono (by have := HS1.out; omega))
    clear hB2 q0 q1 q2 q3 q4 q5 hm2
    go_wp2
    go_ret2
    exact ⟨rfl, hB1⟩
  · clear h
    go_enter Tryd.func27, Tryd.ntmps27
    go_wp2_with fail
    refine (Check_bad w1 0 w.heap.size s1 A1 n1 c1 xs1 e1 g1 (by have := HS1.out; omega) hm).mono ?_
    rintro e w2 ⟨rfl, hB2⟩
    replace hB1 := hB1.trans (hB2.mono (by have := HS1.out; omega))
    clear hB2 p0 p1 p2 p3 p4 p5 q0 q1 q2 q3 q4 q5 hw1 hm
    go_wp2
    go_ret2
    exact ⟨rfl, hB1⟩
open Classical in
noncomputable def cmpX (s1 : Bool) (xs1 : List Int) (e1 : Int) (s2 : Bool) (xs2 : List Int) (e2 : Int) : Int × Int := if MayD s1 xs1 e1 ∧ MayD s2 xs2 e2 then (cmpD (dn s1 xs1 e1) (dn s2 xs2 e2), 0) else (0, 8)
theorem Cmp_all (w : World) (s1 s2 : Bool) (A1 A2 : Option Addr) (n1 c1 n2 c2 : Nat) (xs1 xs2 : List Int) (e1 e2 : Int) (h1 : Ints w 0 w.heap.size .u32 A1 n1 xs1) (h2 : Ints w 0 w.heap.size .u32 A2 n2 xs2) (hT : Tab w) (z code : Int) (h : cmpX s1 xs1 e1 s2 xs2 e2 = (z, code)) :
    Calls Tryd.prog 27 #[.agg #[.bool s1, .slice A1 n1 c1, .int .i64 e1], .agg #[.bool s2, .slice A2 n2 c2, .int .i64 e2]] w fun e w' => e = .returned (.tuple #[.int .i64 z, .int .i64 code]) ∧ Below w.heap.size w w' := by
  unfold cmpX at h
  split at h
  · rename_i hm
    injection h with h3 h4
    subst h4
    obtain ⟨y1, c1', k1⟩ := dn_ok (dig_ints h1) hm.1
    obtain ⟨y2, c2', k2⟩ := dn_ok (dig_ints h2) hm.2
    have := Cmp_ok w (dn s1 xs1 e1) (dn s2 xs2 e2) y1 y2 A1 n1 c1 (by rw [c1']; exact h1) A2 n2 c2 (by rw [c2']; exact h2) hT z h3
    rw [k1, k2] at this
    exact this
  · rename_i hm
    injection h with h3 h4
    subst h3 h4
    exact Cmp_bad w s1 s2 A1 A2 n1 c1 n2 c2 xs1 xs2 e1 e2 h1 h2 (Classical.not_and_iff_not_or_not.1 hm)
end Dy
end Go.Proofs.YtbbnbgllgomolaaDoor
namespace Go.Proofs.YtbbnbgllgomolaaDoor
namespace Dp
theorem floor_neg {M B : Nat} (hB : 0 < B) : (-(M : Int)) / (B : Int) = -((M / B + (if M % B ≠ 0 then 1 else 0) : Nat) : Int) := by
  have h1 : B * (M / B) + M % B = M := Nat.div_add_mod M B
  have h2 := Nat.mod_lt M hB
  have h3 : ((B : Int) * ((M / B : Nat) : Int)) + ((M % B : Nat) : Int) = M := by exact_mod_cast h1
  generalize M / B = q at *
  generalize M % B = r at *
  split
  · refine ((Int.ediv_emod_unique (r := (B : Int) - r) (by omega)).2 ⟨?_, by omega, by omega⟩).1
    rw [Int.natCast_add, Int.mul_neg, Int.mul_add]
    simp only [Int.natCast_one, Int.mul_one]
    omega
  · refine ((Int.ediv_emod_unique (r := 0) (by omega)).2 ⟨?_, by omega, by omega⟩).1
    rw [Nat.add_zero, Int.mul_neg]
    omega
theorem quo_at (a b : Dn) (k : Nat) {K : Nat} (hK : a.e + b.e ≤ K) : (quoN a b k).1 = (a.m * 2 ^ (K - a.e) * 2 ^ k) / (b.m * 2 ^ (K - b.e)) ∧ ((quoN a b k).2 = 0 ↔ (a.m * 2 ^ (K - a.e) * 2 ^ k) % (b.m * 2 ^ (K - b.e)) = 0) := by
  obtain ⟨h1, h2⟩ := quo_shift (a.m * 2 ^ (b.e + k)) (b.m * 2 ^ a.e) (K - a.e - b.e)
  have e1 : a.m * 2 ^ (b.e + k) * 2 ^ (K - a.e - b.e) = a.m * 2 ^ (K - a.e) * 2 ^ k := by
    rw [Nat.mul_assoc, Nat.mul_assoc, ← Nat.pow_add, ← Nat.pow_add]
    congr 2
    omega
  have e2 : b.m * 2 ^ a.e * 2 ^ (K - a.e - b.e) = b.m * 2 ^ (K - b.e) := by
    rw [Nat.mul_assoc, ← Nat.pow_add]
    congr 2
    omega
  rw [e1, e2] at h1 h2
  exact ⟨h1.symm, h2.symm⟩
theorem vl_pos {b : Dn} (hn : b.neg = false) (h0 : b.m ≠ 0) (K : Nat) : vl b K = ((b.m * 2 ^ (K - b.e) : Nat) : Int) ∧ 0 < b.m * 2 ^ (K - b.e) := by
  unfold vl sg
  rw [hn]
  exact ⟨rfl, Nat.mul_pos (Nat.pos_of_ne_zero h0) (Nat.pow_pos (by decide))⟩
theorem pos_vl {b : Dn} {K : Nat} (h : 0 < vl b K) : b.neg = false ∧ b.m ≠ 0 := by
  unfold vl sg at h
  cases hn : b.neg
  · refine ⟨rfl, fun h0 => ?_⟩
    rw [hn, h0] at h
    simp at h
  · rw [hn] at h
    simp only [if_true] at h
    omega
theorem vl_scaled (a : Dn) (K k : Nat) : vl a K * (2 : Int) ^ k = sg a.neg (a.m * 2 ^ (K - a.e) * 2 ^ k) := by
  unfold vl
  rw [sg_mul _ _ (2 ^ k)]
  norm_cast
/-- Down. -/
theorem toD_floor {a b : Dn} (hn : b.neg = false) (h0 : b.m ≠ 0) (k : Nat) {K : Nat} (hK : a.e + b.e ≤ K) :
    ∃ N, toD a b k a.neg = formed a.neg N k ∧ sg a.neg N = vl a K * 2 ^ k / vl b K := by
  obtain ⟨q1, q2⟩ := quo_at a b k hK
  obtain ⟨b1, b2⟩ := vl_pos hn h0 K
  refine ⟨_, rfl, ?_⟩
  rw [vl_scaled, b1]
  generalize a.m * 2 ^ (K - a.e) * 2 ^ k = M at *
  generalize b.m * 2 ^ (K - b.e) = B at *
  cases a.neg
  · rw [if_neg (fun h => by cases h.2), Nat.add_zero, q1]
    exact Int.natCast_ediv M B
  · show -(((_ : Nat)) : Int) = (-(M : Int)) / (B : Int)
    rw [floor_neg b2, q1]
    congr 2
    by_cases h : M % B = 0
    · simp [q2.2 h, h]
    · simp [mt q2.1 h, h]
/-- Up. -/
theorem toD_ceil {a b : Dn} (hn : b.neg = false) (h0 : b.m ≠ 0) (k : Nat) {K : Nat} (hK : a.e + b.e ≤ K) :
    ∃ N, toD a b k (!a.neg) = formed a.neg N k ∧ sg a.neg N = -(-(vl a K * 2 ^ k) / vl b K) := by
  obtain ⟨q1, q2⟩ := quo_at a b k hK
  obtain ⟨b1, b2⟩ := vl_pos hn h0 K
  refine ⟨_, rfl, ?_⟩
  rw [vl_scaled, b1]
  generalize a.m * 2 ^ (K - a.e) * 2 ^ k = M at *
  generalize b.m * 2 ^ (K - b.e) = B at *
  cases a.neg
  · show (((_ : Nat)) : Int) = -(-(M : Int) / (B : Int))
    rw [floor_neg b2, q1, Int.neg_neg]
    congr 2
    by_cases h : M % B = 0
    · simp [q2.2 h, h]
    · simp [mt q2.1 h, h]
  · rw [if_neg (fun h => by cases h.2), Nat.add_zero, q1]
    show -((M / B : Nat) : Int) = -(-(-(M : Int)) / (B : Int))
    rw [Int.neg_neg]
    rw [Int.natCast_ediv M B]
theorem formed_sg {s t : Bool} {m n : Nat} (h : sg s m = sg t n) (k : Nat) : formed s m k = formed t n k := by
  by_cases h0 : m = 0
  · subst h0
    rw [sg_zero] at h
    have := sg_nil h.symm
    subst this
    simp [formed]
  · obtain ⟨h1, h2⟩ := sg_inj h h0
    rw [h1, h2]
/-- A digit more. -/
theorem formed_next {s : Bool} {N k : Nat} {x : Dn} (h : formed s N k = (x, 0)) (hk : k < 1024) : formed s N (k + 1) = halfD x ∧ (halfD x).2 = 0 := by
  have hm := formed_may s N k
  obtain ⟨h1, h2⟩ := formed_vl (s := s) (m := N) (k := k) (by rw [h])
  rw [h] at hm h1 h2
  have h3 := h2 (k + 1) (by omega)
  have hc : (halfD x).2 = 0 := by
    by_cases hc : (halfD x).2 = 0
    · exact hc
    · have := (half_over hm hc).2
      have : x.e ≤ k := h1
      omega
  obtain ⟨g1, g2⟩ := half_vl hc
  have g3 := g2 (k + 1) (by have : x.e ≤ k := h1; omega)
  refine ⟨?_, hc⟩
  rw [formed_of (r := (halfD x).1) (K := k + 1) (half_may x) (by have : x.e ≤ k := h1; omega) (Nat.le_refl _) ?_]
  · exact Prod.ext rfl hc.symm
  · have e : k + 1 - k = 1 := by omega
    rw [h3, e, Nat.pow_one, sg_mul _ _ 2] at g3
    rw [Nat.sub_self, Nat.pow_zero, Nat.mul_one]
    omega
/-- Both halved. -/
theorem scale_same {a b : Dn} (hn : b.neg = false) (h0 : b.m ≠ 0) (h1 : (halfD a).2 = 0) (h2 : (halfD b).2 = 0) (k : Nat) :
    ((halfD b).1.neg = false ∧ (halfD b).1.m ≠ 0) ∧ toD (halfD a).1 (halfD b).1 k (halfD a).1.neg = toD a b k a.neg ∧ ∃ N, toD a b k a.neg = formed a.neg N k ∧ toD (halfD a).1 b (k + 1) (halfD a).1.neg = formed a.neg N (k + 1) := by
  obtain ⟨a1, a2⟩ := half_vl h1
  obtain ⟨b1, b2⟩ := half_vl h2
  obtain ⟨K, hK⟩ : ∃ K, a.e + b.e + 2 ≤ K := ⟨_, Nat.le_refl _⟩
  have a3 := a2 K (by omega)
  have b3 := b2 K (by omega)
  obtain ⟨p1, p2⟩ := vl_pos hn h0 K
  generalize hc : (halfD a).1 = c at *
  generalize hd : (halfD b).1 = d at *
  have dp : 0 < vl d K := by omega
  obtain ⟨d1, d2⟩ := pos_vl dp
  refine ⟨⟨d1, d2⟩, ?_⟩
  obtain ⟨N, hN, sN⟩ := toD_floor hn h0 k (a := a) (K := K) (by omega)
  obtain ⟨N2, hN2, sN2⟩ := toD_floor d1 d2 k (a := c) (K := K) (by omega)
  obtain ⟨N3, hN3, sN3⟩ := toD_floor hn h0 (k + 1) (a := c) (K := K) (by omega)
  have e2 : sg c.neg N2 = sg a.neg N := by
    rw [sN, sN2, ← a3, ← b3, Int.mul_assoc, Int.mul_ediv_mul_of_pos _ _ (by decide)]
  have e3 : sg c.neg N3 = sg a.neg N := by
    rw [sN, sN3, ← a3, Int.pow_succ, Int.mul_comm _ 2, ← Int.mul_assoc, Int.mul_comm _ 2]
  exact ⟨by rw [hN, hN2]; exact formed_sg e2 k, N, hN, by rw [hN3]; exact formed_sg e3 (k + 1)⟩
/-- What is between: the integers. -/
theorem band_ints (Z B : Int) (hB : 0 < B) : (-(-Z / B) - Z / B = 0 ∨ -(-Z / B) - Z / B = 1) ∧ 2 * (Z / B) ≤ Z * 2 / B ∧ -(-(Z * 2) / B) ≤ 2 * -(-Z / B) ∧ (-(-Z / B) = Z / B → Z * 2 / B = 2 * (Z / B) ∧ -(-(Z * 2) / B) = 2 * (Z / B)) := by
  have f : ∀ X : Int, X / B * B ≤ X ∧ X < X / B * B + B := fun X => by
    have h1 := Int.mul_ediv_add_emod X B
    have h2 := Int.emod_nonneg X (show B ≠ 0 by omega)
    have h3 := Int.emod_lt_of_pos X hB
    rw [Int.mul_comm] at h1
    omega
  have g : ∀ X q : Int, q * B ≤ X → X < q * B + B → X / B = q := fun X q h1 h2 => by
    refine ((Int.ediv_emod_unique (r := X - q * B) hB).2 ⟨?_, by omega, by omega⟩).1
    rw [Int.mul_comm B]
    omega
  have mono : ∀ p q : Int, p * B < q * B + B → p ≤ q := fun p q h => by
    have : p * B < (q + 1) * B := by rw [Int.add_mul, Int.one_mul]; exact h
    have := Int.lt_of_mul_lt_mul_right this (Int.le_of_lt hB)
    omega
  obtain ⟨z1, z2⟩ := f Z
  obtain ⟨n1, n2⟩ := f (-Z)
  obtain ⟨t1, t2⟩ := f (Z * 2)
  obtain ⟨m1, m2⟩ := f (-(Z * 2))
  generalize Z / B = q at *
  generalize -Z / B = n at *
  generalize Z * 2 / B = t at *
  generalize -(Z * 2) / B = m at *
  have en : (-n) * B = -(n * B) := Int.neg_mul ..
  have e2 : (2 * q) * B = 2 * (q * B) := Int.mul_assoc ..
  have e2n : (2 * n) * B = 2 * (n * B) := Int.mul_assoc ..
  have en1 : (-n - 1) * B = -(n * B) - B := by rw [Int.sub_mul, Int.one_mul, en]
  have eq1 : (q + 1) * B = q * B + B := by rw [Int.add_mul, Int.one_mul]
  have a1 : q ≤ -n := mono _ _ (by omega)
  have a2 : -n - 1 ≤ q := mono _ _ (by omega)
  have a3 : 2 * q ≤ t := mono _ _ (by omega)
  have a4 : 2 * n ≤ m := mono _ _ (by omega)
  refine ⟨by omega, a3, by omega, fun h => ?_⟩
  have hq : Z = q * B := by
    have : -n = q := h
    rw [this] at en
    omega
  have ht : t = 2 * q := by
    have : t * B < (2 * q) * B + B := by omega
    have := mono _ _ this
    omega
  have hm : m = -(2 * q) := by
    have e5 : (-(2 * q)) * B = -(2 * (q * B)) := by rw [Int.neg_mul, e2]
    have : m * B < (-(2 * q)) * B + B := by omega
    have := mono _ _ this
    have : 2 * n ≤ m := a4
    omega
  omega
end Dp
end Go.Proofs.YtbbnbgllgomolaaDoor
namespace Go.Proofs.YtbbnbgllgomolaaDoor
namespace Dy
open Dp
theorem halfX_zero {s : Bool} {xs : List Int} {e : Int} {c : Dn} (h : halfX s xs e = (c, 0)) : MayD s xs e ∧ halfD (dn s xs e) = (c, 0) := by
  unfold halfX at h
  split at h
  · rename_i hm
    exact ⟨hm, h⟩
  · have := congrArg Prod.snd h
    exact absurd this (by show ¬ ((8 : Int) = 0); decide)
theorem toX_zero {s1 : Bool} {xs1 : List Int} {e1 : Int} {s2 : Bool} {xs2 : List Int} {e2 k : Int} {away : Bool} {x : Dn} (h : toX s1 xs1 e1 s2 xs2 e2 k away = (x, 0)) :
    (MayD s1 xs1 e1 ∧ MayD s2 xs2 e2 ∧ s2 = false ∧ xs2 ≠ [] ∧ 0 ≤ k ∧ k ≤ 64) ∧ toD (dn s1 xs1 e1) (dn s2 xs2 e2) k.toNat away = (x, 0) := by
  unfold toX at h
  split at h
  · rename_i hm
    exact ⟨ask_zero hm, h⟩
  · rename_i hm
    exact absurd (congrArg Prod.snd h) hm
theorem dn_ne {s : Bool} {xs : List Int} {e : Int} (hd : Dig 4294967296 xs) (h : MayD s xs e) (hx : xs ≠ []) : (dn s xs e).m ≠ 0 := fun h0 => hx (by rw [← (dn_ok hd h).2.1, h0]; rfl)
theorem halfX_dn {x : Dn} (h : x.May) : halfX x.neg (canon 4294967296 x.m) x.e = halfD x := by
  unfold halfX
  rw [if_pos (dn_may h), dn_of]
theorem cmpX_dn {x y : Dn} (hx : x.May) (hy : y.May) : cmpX x.neg (canon 4294967296 x.m) x.e y.neg (canon 4294967296 y.m) y.e = (cmpD x y, 0) := by
  unfold cmpX
  rw [if_pos ⟨dn_may hx, dn_may hy⟩, dn_of, dn_of]
theorem subX_dn {x y : Dn} (hx : x.May) (hy : y.May) : subX x.neg (canon 4294967296 x.m) x.e y.neg (canon 4294967296 y.m) y.e = subD x y := by
  unfold subX
  rw [if_pos ⟨dn_may hx, dn_may hy⟩, dn_of, dn_of]
/-- Codes of quotients. -/
theorem toX_code {s1 : Bool} {xs1 : List Int} {e1 : Int} {s2 : Bool} {xs2 : List Int} {e2 k : Int} {away : Bool} {x : Dn} {c : Int} (h : toX s1 xs1 e1 s2 xs2 e2 k away = (x, c)) : (askX s1 xs1 e1 s2 xs2 e2 k = 0 ∧ (c = 0 ∨ c = 10)) ∨ (askX s1 xs1 e1 s2 xs2 e2 k = c ∧ c ≠ 0) := by
  unfold toX at h
  split at h
  · rename_i hm
    rcases formed_cases (dn s1 xs1 e1).neg ((quoN (dn s1 xs1 e1) (dn s2 xs2 e2) k.toNat).1 + if (quoN (dn s1 xs1 e1) (dn s2 xs2 e2) k.toNat).2 ≠ 0 ∧ away = true then 1 else 0) k.toNat with hc | hc
    · have h2 := congrArg Prod.snd h
      exact .inl ⟨hm, .inl (h2.symm.trans hc)⟩
    · have h2 := congrArg Prod.snd h
      exact .inl ⟨hm, .inr (h2.symm.trans (congrArg Prod.snd hc))⟩
  · rename_i hm
    have := congrArg Prod.snd h
    exact .inr ⟨this, fun e => hm (this.trans e)⟩
theorem ask_more {s1 : Bool} {xs1 : List Int} {e1 : Int} {s2 : Bool} {xs2 : List Int} {e2 k : Int} (h : askX s1 xs1 e1 s2 xs2 e2 k = 0) (hk : k < 64) : askX s1 xs1 e1 s2 xs2 e2 (k + 1) = 0 := by
  obtain ⟨m1, m2, hs, hx, k0, k1⟩ := ask_zero h
  unfold askX
  rw [if_pos ⟨m1, m2⟩, if_neg]
  rintro (h | h | h | h)
  · rw [hs] at h
    cases h
  · exact hx h
  · omega
  · omega
/-- RatioScales. -/
theorem scales_law {s1 : Bool} {xs1 : List Int} {e1 : Int} {s2 : Bool} {xs2 : List Int} {e2 k : Int} (d1 : Dig 4294967296 xs1) (d2 : Dig 4294967296 xs2) {c d x : Dn}
    (hc : halfX s1 xs1 e1 = (c, 0)) (hd : halfX s2 xs2 e2 = (d, 0)) (hx : toX s1 xs1 e1 s2 xs2 e2 k s1 = (x, 0)) :
    toX c.neg (canon 4294967296 c.m) c.e d.neg (canon 4294967296 d.m) d.e k c.neg = (x, 0) ∧ (¬ 63 < k → ∃ z, toX c.neg (canon 4294967296 c.m) c.e s2 xs2 e2 (k + 1) c.neg = (z, 0) ∧ halfX x.neg (canon 4294967296 x.m) x.e = (z, 0)) := by
  obtain ⟨⟨m1, m2, hs, hn, k0, k1⟩, hX⟩ := toX_zero hx
  obtain ⟨_, hC⟩ := halfX_zero hc
  obtain ⟨_, hD⟩ := halfX_zero hd
  obtain ⟨y1, c1', t1⟩ := dn_ok d1 m1
  obtain ⟨y2, c2', t2⟩ := dn_ok d2 m2
  have b0 := dn_ne d2 m2 hn
  obtain ⟨kn, rfl⟩ : ∃ kn : Nat, k = kn := ⟨k.toNat, by omega⟩
  have hbn : (dn s2 xs2 e2).neg = false := hs
  obtain ⟨⟨g1, g2⟩, g3, N, g4, g5⟩ := scale_same hbn b0 (a := dn s1 xs1 e1) (b := dn s2 xs2 e2) (by rw [hC]) (by rw [hD]) kn
  have mc := half_may (dn s1 xs1 e1)
  have md := half_may (dn s2 xs2 e2)
  rw [Int.toNat_natCast] at hX
  have hX' : toD (dn s1 xs1 e1) (dn s2 xs2 e2) kn (dn s1 xs1 e1).neg = (x, 0) := hX
  rw [hC] at g3 g5 mc
  rw [hD] at g1 g2 g3 md
  refine ⟨by rw [toX_dn mc md g1 g2 (by omega), g3, hX'], fun hk => ?_⟩
  have hf : formed (dn s1 xs1 e1).neg N kn = (x, 0) := by rw [← g4, hX']
  have hxm : x.May := by have := formed_may (dn s1 xs1 e1).neg N kn; rw [hf] at this; exact this
  obtain ⟨n1, n2⟩ := formed_next hf (by omega)
  refine ⟨(halfD x).1, ?_, ?_⟩
  · have := toX_dn mc y2 hbn b0 (k := kn + 1) (by omega) c.neg
    rw [c2', t2] at this
    rw [show ((kn : Int) + 1) = ((kn + 1 : Nat) : Int) by omega]
    refine this.trans ?_
    rw [g5, n1]
    exact Prod.ext rfl n2
  · rw [halfX_dn hxm]
    exact Prod.ext rfl n2
/-- The part of so many digits. -/
def partD (k : Nat) : Dn := ⟨false, 1, k⟩
theorem part_may {k : Nat} (h : k ≤ 1024) : (partD k).May := may_small _ _ _ (by decide) (by decide) h (fun _ => rfl)
theorem half_part {k : Nat} (h : k < 1024) : halfX false (canon 4294967296 1) k = (partD (k + 1), 0) := by
  have := halfX_dn (part_may (k := k) (by omega))
  refine this.trans (formed_of (K := k + 1) (part_may (by omega)) (Nat.le_refl _) (Nat.le_refl _) ?_)
  simp [vl, partD]
/-- RatioBand. -/
theorem band_law {s1 : Bool} {xs1 : List Int} {e1 : Int} {s2 : Bool} {xs2 : List Int} {e2 k : Int} (_d1 : Dig 4294967296 xs1) (d2 : Dig 4294967296 xs2) {x y : Dn}
    (hx : toX s1 xs1 e1 s2 xs2 e2 k s1 = (x, 0)) (hy : toX s1 xs1 e1 s2 xs2 e2 k (!s1) = (y, 0)) :
    0 ≤ k ∧ k ≤ 64 ∧ (∃ d, subX y.neg (canon 4294967296 y.m) y.e x.neg (canon 4294967296 x.m) x.e = (d, 0) ∧ (d = Dn.zero ∨ d = partD k.toNat)) ∧
    ∀ p q : Dn, toX s1 xs1 e1 s2 xs2 e2 (k + 1) s1 = (p, 0) → toX s1 xs1 e1 s2 xs2 e2 (k + 1) (!s1) = (q, 0) →
      ∃ n m, cmpX x.neg (canon 4294967296 x.m) x.e p.neg (canon 4294967296 p.m) p.e = (n, 0) ∧ cmpX q.neg (canon 4294967296 q.m) q.e y.neg (canon 4294967296 y.m) y.e = (m, 0) ∧ n ≤ 0 ∧ m ≤ 0 ∧ (x = y → p = q ∧ p = x) := by
  obtain ⟨⟨m1, m2, hs, hn, k0, k1⟩, hX⟩ := toX_zero hx
  obtain ⟨_, hY⟩ := toX_zero hy
  have b0 := dn_ne d2 m2 hn
  have hbn : (dn s2 xs2 e2).neg = false := hs
  obtain ⟨kn, rfl⟩ : ∃ kn : Nat, k = kn := ⟨k.toNat, by omega⟩
  rw [Int.toNat_natCast] at hX hY
  refine ⟨k0, k1, ?_⟩
  obtain ⟨a, ha⟩ : ∃ a, dn s1 xs1 e1 = a := ⟨_, rfl⟩
  have han : a.neg = s1 := by rw [← ha]; rfl
  obtain ⟨b, hb⟩ : ∃ b, dn s2 xs2 e2 = b := ⟨_, rfl⟩
  rw [hb] at hbn b0
  rw [ha, hb, ← han] at hX hY
  obtain ⟨K, hK⟩ : ∃ K, a.e + b.e ≤ K := ⟨_, Nat.le_refl _⟩
  obtain ⟨B1, B2⟩ := vl_pos hbn b0 K
  have hB : 0 < vl b K := by omega
  obtain ⟨N, f1, f2⟩ := toD_floor hbn b0 kn hK
  obtain ⟨M, g1, g2⟩ := toD_ceil hbn b0 kn hK
  rw [f1] at hX
  rw [g1] at hY
  have mx : x.May := by have := formed_may a.neg N kn; rw [hX] at this; exact this
  have my : y.May := by have := formed_may a.neg M kn; rw [hY] at this; exact this
  obtain ⟨vx1, vx2⟩ := formed_vl (s := a.neg) (m := N) (k := kn) (by rw [hX])
  obtain ⟨vy1, vy2⟩ := formed_vl (s := a.neg) (m := M) (k := kn) (by rw [hY])
  rw [hX] at vx1 vx2
  rw [hY] at vy1 vy2
  replace vx1 : x.e ≤ kn := vx1
  replace vy1 : y.e ≤ kn := vy1
  obtain ⟨i1, i2, i3, i4⟩ := band_ints (vl a K * 2 ^ kn) (vl b K) hB
  have ux := vx2 kn (Nat.le_refl _)
  have uy := vy2 kn (Nat.le_refl _)
  rw [Nat.sub_self, Nat.pow_zero, Nat.mul_one] at ux uy
  rw [f2] at ux
  rw [g2] at uy
  replace ux : vl x kn = vl a K * 2 ^ kn / vl b K := ux
  replace uy : vl y kn = -(-(vl a K * 2 ^ kn) / vl b K) := uy
  rw [← ux, ← uy] at i1
  refine ⟨?_, ?_⟩
  · rw [subX_dn my mx]
    rcases i1 with i1 | i1
    · exact ⟨Dn.zero, sub_of (K := kn) zero_may vy1 vx1 (Nat.zero_le _) (by rw [vl_zero]; omega), .inl rfl⟩
    · exact ⟨partD kn, sub_of (K := kn) (part_may (by omega)) vy1 vx1 (Nat.le_refl _) (by rw [i1]; simp [vl, partD, sg]), .inr (by rw [Int.toNat_natCast])⟩
  · intro p q hp hq
    obtain ⟨_, hP⟩ := toX_zero hp
    obtain ⟨_, hQ⟩ := toX_zero hq
    rw [show ((kn : Int) + 1) = ((kn + 1 : Nat) : Int) by omega, Int.toNat_natCast, ha, hb, ← han] at hP hQ
    obtain ⟨N2, p1, p2⟩ := toD_floor hbn b0 (kn + 1) hK
    obtain ⟨M2, q1, q2⟩ := toD_ceil hbn b0 (kn + 1) hK
    rw [p1] at hP
    rw [q1] at hQ
    have mp : p.May := by have := formed_may a.neg N2 (kn + 1); rw [hP] at this; exact this
    have mq : q.May := by have := formed_may a.neg M2 (kn + 1); rw [hQ] at this; exact this
    obtain ⟨vp1, vp2⟩ := formed_vl (s := a.neg) (m := N2) (k := kn + 1) (by rw [hP])
    obtain ⟨vq1, vq2⟩ := formed_vl (s := a.neg) (m := M2) (k := kn + 1) (by rw [hQ])
    rw [hP] at vp1 vp2
    rw [hQ] at vq1 vq2
    replace vp1 : p.e ≤ kn + 1 := vp1
    replace vq1 : q.e ≤ kn + 1 := vq1
    have up := vp2 (kn + 1) (Nat.le_refl _)
    have uq := vq2 (kn + 1) (Nat.le_refl _)
    rw [Nat.sub_self, Nat.pow_zero, Nat.mul_one] at up uq
    rw [p2, Int.pow_succ, ← Int.mul_assoc] at up
    rw [q2, Int.pow_succ, ← Int.mul_assoc] at uq
    replace up : vl p (kn + 1) = vl a K * 2 ^ kn * 2 / vl b K := up
    replace uq : vl q (kn + 1) = -(-(vl a K * 2 ^ kn * 2) / vl b K) := uq
    have wx := vx2 (kn + 1) (Nat.le_succ _)
    have wy := vy2 (kn + 1) (Nat.le_succ _)
    rw [Nat.add_sub_cancel_left, Nat.pow_one, sg_mul, f2] at wx
    rw [Nat.add_sub_cancel_left, Nat.pow_one, sg_mul, g2] at wy
    replace wx : vl x (kn + 1) = vl a K * 2 ^ kn / vl b K * 2 := wx
    replace wy : vl y (kn + 1) = -(-(vl a K * 2 ^ kn) / vl b K) * 2 := wy
    have cx := cmp_spec x p (K := kn + 1) (by omega) vp1
    have cy := cmp_spec q y (K := kn + 1) vq1 (by omega)
    refine ⟨_, _, cmpX_dn mx mp, cmpX_dn mq my, by omega, by omega, fun hxy => ?_⟩
    rw [hxy] at ux
    obtain ⟨j1, j2⟩ := i4 (by omega)
    exact ⟨vl_inj mp mq (K := kn + 1) vp1 vq1 (by omega), vl_inj mp mx (K := kn + 1) vp1 (by omega) (by omega)⟩
end Dy
end Go.Proofs.YtbbnbgllgomolaaDoor
