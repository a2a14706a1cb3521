/- headcountlaw03.alive: a walk (printed by a program of mine). -/
/- The law RatioWhole: a walk (printed by a program of mine). -/
/- The law RatioNames: a walk (printed by a program of mine). -/
import Derived.Test.YtbbnbgllgomolaaBq12
namespace Go.Proofs.Ytbbnbgllgomolaa
open Go.RowKit
namespace Dy
open Dp
theorem ask_okR {a b : Dn} (ha : a.May) (hb : b.May) (hn : b.neg = false) (h0 : b.m ≠ 0) {k : Nat} (hk : k ≤ 64) : askX a.neg (canon 4294967296 a.m) a.e b.neg (canon 4294967296 b.m) b.e k = 0 := by
  unfold askX
  rw [if_pos ⟨dn_may ha, dn_may hb⟩, if_neg]
  rintro (h | h | h | h)
  · rw [hn] at h
    cases h
  · exact h0 (canon_nil (by decide) h)
  · omega
  · omega
theorem nearX_dnR {a b : Dn} (ha : a.May) (hb : b.May) (hn : b.neg = false) (h0 : b.m ≠ 0) : nearX a.neg (canon 4294967296 a.m) a.e b.neg (canon 4294967296 b.m) b.e = nearD a b := by
  unfold nearX
  have h := ask_okR ha hb hn h0 (k := 0) (by decide)
  rw [show ((0 : Nat) : Int) = 0 from rfl] at h
  rw [if_pos h, dn_of, dn_of]
theorem rb0 : toX false (canon 4294967296 1) 0 false (canon 4294967296 3) 0 2 false = (⟨false, 1, 2⟩, 0) :=
  (toX_dn (a := ⟨false, 1, 0⟩) (b := ⟨false, 3, 0⟩) (may_small _ _ _ (by decide) (by decide) (by decide) (by decide)) (may_small _ _ _ (by decide) (by decide) (by decide) (by decide)) rfl (by decide) (k := 2) (by decide) false).trans (formed_of (K := 2) (may_small _ _ _ (by decide) (by decide) (by decide) (by decide)) (by decide) (by decide) (by decide))
theorem rb1 : toX false (canon 4294967296 1) 0 false (canon 4294967296 3) 0 2 true = (⟨false, 1, 1⟩, 0) :=
  (toX_dn (a := ⟨false, 1, 0⟩) (b := ⟨false, 3, 0⟩) (may_small _ _ _ (by decide) (by decide) (by decide) (by decide)) (may_small _ _ _ (by decide) (by decide) (by decide) (by decide)) rfl (by decide) (k := 2) (by decide) true).trans (formed_of (K := 2) (may_small _ _ _ (by decide) (by decide) (by decide) (by decide)) (by decide) (by decide) (by decide))
theorem rb2 : toX true (canon 4294967296 1) 0 false (canon 4294967296 3) 0 0 true = (⟨true, 1, 0⟩, 0) :=
  (toX_dn (a := ⟨true, 1, 0⟩) (b := ⟨false, 3, 0⟩) (may_small _ _ _ (by decide) (by decide) (by decide) (by decide)) (may_small _ _ _ (by decide) (by decide) (by decide) (by decide)) rfl (by decide) (k := 0) (by decide) true).trans (formed_of (K := 0) (may_small _ _ _ (by decide) (by decide) (by decide) (by decide)) (by decide) (by decide) (by decide))
theorem rb3 : toX true (canon 4294967296 1) 0 false (canon 4294967296 3) 0 0 false = (Dn.zero, 0) :=
  (toX_dn (a := ⟨true, 1, 0⟩) (b := ⟨false, 3, 0⟩) (may_small _ _ _ (by decide) (by decide) (by decide) (by decide)) (may_small _ _ _ (by decide) (by decide) (by decide) (by decide)) rfl (by decide) (k := 0) (by decide) false).trans (formed_of (K := 0) zero_may (by decide) (by decide) (by decide))
theorem rb4 : nearX false (canon 4294967296 5) 0 false (canon 4294967296 2) 0 = (⟨false, 3, 0⟩, 0) :=
  (nearX_dnR (a := ⟨false, 5, 0⟩) (b := ⟨false, 2, 0⟩) (may_small _ _ _ (by decide) (by decide) (by decide) (by decide)) (may_small _ _ _ (by decide) (by decide) (by decide) (by decide)) rfl (by decide)).trans (formed_of (K := 0) (may_small _ _ _ (by decide) (by decide) (by decide) (by decide)) (by decide) (by decide) (by decide))
theorem rb5 : nearX false (canon 4294967296 7) 0 false (canon 4294967296 3) 0 = (⟨false, 2, 0⟩, 0) :=
  (nearX_dnR (a := ⟨false, 7, 0⟩) (b := ⟨false, 3, 0⟩) (may_small _ _ _ (by decide) (by decide) (by decide) (by decide)) (may_small _ _ _ (by decide) (by decide) (by decide) (by decide)) rfl (by decide)).trans (formed_of (K := 0) (may_small _ _ _ (by decide) (by decide) (by decide) (by decide)) (by decide) (by decide) (by decide))
set_option maxHeartbeats 12800000 in
set_option maxRecDepth 100000 in
/-- headcountlaw03.alive. -/
theorem aliveRP_any (w : World) : Calls Try.prog 45 #[] w fun e w' => e = .returned (.bool true) ∧ Below w.heap.size w w' := by
  have R0 := Lib.hid rb0
  have R1 := Lib.hid rb1
  have R2 := Lib.hid rb2
  have R3 := Lib.hid rb3
  have R4 := Lib.hid rb4
  have R5 := Lib.hid rb5
  go_enter Try.func45, Try.ntmps45
  go_wp2_with fail
  refine (Of_any w (1) (by decide) (by decide) false 1 rfl rfl).mono ?_
  rintro e' v1 ⟨X0, nX0, rfl, j2, JX0⟩
  try clear hw
  replace JX0 := ints_all JX0
  go_wp2_with fail
  refine (Of_any v1 (3) (by decide) (by decide) false 3 rfl rfl).mono ?_
  rintro e' v3 ⟨Y0, nY0, rfl, j4, JY0⟩
  try clear hw
  replace JY0 := ints_all JY0
  go_wp2_with fail
  refine (Floor_all v3 false false X0 Y0 nX0 nX0 nY0 nY0 _ _ 0 0 (ints_on JX0 j4) JY0 2 (⟨false, 1, 2⟩ : Dn) 0 R0.out).mono ?_
  rintro e' v5 ⟨G0, m0, o0, rfl, _, j6, I0⟩
  try clear hw
  replace I0 : Ints v5 0 v5.heap.size .u32 G0 m0 (canon 4294967296 1) := ints_all I0
  have j8 := (Below.refl v5.heap.size v5).alloc (Nat.le_refl _) (.cells #[.bool false, .slice G0 m0 o0, .int .i64 2] 25)
  have E0 := heap_alloc_last v5 (.cells #[.bool false, .slice G0 m0 o0, .int .i64 2] 25)
  have s9 : v5.heap.size < (v5.alloc (.cells #[.bool false, .slice G0 m0 o0, .int .i64 2] 25)).heap.size := by simp
  go_wp2_with fail
  generalize hw : v5.alloc (.cells #[.bool false, .slice G0 m0 o0, .int .i64 2] 25) = v7 at *
  clear hw
  refine (Of_any v7 (1) (by decide) (by decide) false 1 rfl rfl).mono ?_
  rintro e' v10 ⟨X1, nX1, rfl, j11, JX1⟩
  try clear hw
  replace JX1 := ints_all JX1
  go_wp2_with fail
  refine (Of_any v10 (3) (by decide) (by decide) false 3 rfl rfl).mono ?_
  rintro e' v12 ⟨Y1, nY1, rfl, j13, JY1⟩
  try clear hw
  replace JY1 := ints_all JY1
  go_wp2_with fail
  refine (Ceil_all v12 false false X1 Y1 nX1 nX1 nY1 nY1 _ _ 0 0 (ints_on JX1 j13) JY1 2 (⟨false, 1, 1⟩ : Dn) 0 R1.out).mono ?_
  rintro e' v14 ⟨G1, m1, o1, rfl, _, j15, I1⟩
  try clear hw
  replace I1 : Ints v14 0 v14.heap.size .u32 G1 m1 (canon 4294967296 1) := ints_all I1
  have j17 := (Below.refl v14.heap.size v14).alloc (Nat.le_refl _) (.cells #[.bool false, .slice G1 m1 o1, .int .i64 1] 25)
  have E1 := heap_alloc_last v14 (.cells #[.bool false, .slice G1 m1 o1, .int .i64 1] 25)
  have s18 : v14.heap.size < (v14.alloc (.cells #[.bool false, .slice G1 m1 o1, .int .i64 1] 25)).heap.size := by simp
  go_wp2_with fail
  generalize hw : v14.alloc (.cells #[.bool false, .slice G1 m1 o1, .int .i64 1] 25) = v16 at *
  clear hw
  refine (Of_any v16 (-1) (by decide) (by decide) true 1 rfl rfl).mono ?_
  rintro e' v19 ⟨X2, nX2, rfl, j20, JX2⟩
  try clear hw
  replace JX2 := ints_all JX2
  go_wp2_with fail
  refine (Of_any v19 (3) (by decide) (by decide) false 3 rfl rfl).mono ?_
  rintro e' v21 ⟨Y2, nY2, rfl, j22, JY2⟩
  try clear hw
  replace JY2 := ints_all JY2
  go_wp2_with fail
  refine (Floor_all v21 true false X2 Y2 nX2 nX2 nY2 nY2 _ _ 0 0 (ints_on JX2 j22) JY2 0 (⟨true, 1, 0⟩ : Dn) 0 R2.out).mono ?_
  rintro e' v23 ⟨G2, m2, o2, rfl, _, j24, I2⟩
  try clear hw
  replace I2 : Ints v23 0 v23.heap.size .u32 G2 m2 (canon 4294967296 1) := ints_all I2
  have j26 := (Below.refl v23.heap.size v23).alloc (Nat.le_refl _) (.cells #[.bool true, .slice G2 m2 o2, .int .i64 0] 25)
  have E2 := heap_alloc_last v23 (.cells #[.bool true, .slice G2 m2 o2, .int .i64 0] 25)
  have s27 : v23.heap.size < (v23.alloc (.cells #[.bool true, .slice G2 m2 o2, .int .i64 0] 25)).heap.size := by simp
  go_wp2_with fail
  generalize hw : v23.alloc (.cells #[.bool true, .slice G2 m2 o2, .int .i64 0] 25) = v25 at *
  clear hw
  refine (Of_any v25 (-1) (by decide) (by decide) true 1 rfl rfl).mono ?_
  rintro e' v28 ⟨X3, nX3, rfl, j29, JX3⟩
  try clear hw
  replace JX3 := ints_all JX3
  go_wp2_with fail
  refine (Of_any v28 (3) (by decide) (by decide) false 3 rfl rfl).mono ?_
  rintro e' v30 ⟨Y3, nY3, rfl, j31, JY3⟩
  try clear hw
  replace JY3 := ints_all JY3
  go_wp2_with fail
  refine (Ceil_all v30 true false X3 Y3 nX3 nX3 nY3 nY3 _ _ 0 0 (ints_on JX3 j31) JY3 0 (⟨false, 0, 0⟩ : Dn) 0 R3.out).mono ?_
  rintro e' v32 ⟨G3, m3, o3, rfl, _, j33, I3⟩
  try clear hw
  replace I3 : Ints v32 0 v32.heap.size .u32 G3 m3 (canon 4294967296 0) := ints_all I3
  have j35 := (Below.refl v32.heap.size v32).alloc (Nat.le_refl _) (.cells #[.bool false, .slice G3 m3 o3, .int .i64 0] 25)
  have E3 := heap_alloc_last v32 (.cells #[.bool false, .slice G3 m3 o3, .int .i64 0] 25)
  have s36 : v32.heap.size < (v32.alloc (.cells #[.bool false, .slice G3 m3 o3, .int .i64 0] 25)).heap.size := by simp
  go_wp2_with fail
  generalize hw : v32.alloc (.cells #[.bool false, .slice G3 m3 o3, .int .i64 0] 25) = v34 at *
  clear hw
  refine (Of_any v34 (5) (by decide) (by decide) false 5 rfl rfl).mono ?_
  rintro e' v37 ⟨X4, nX4, rfl, j38, JX4⟩
  try clear hw
  replace JX4 := ints_all JX4
  go_wp2_with fail
  refine (Of_any v37 (2) (by decide) (by decide) false 2 rfl rfl).mono ?_
  rintro e' v39 ⟨Y4, nY4, rfl, j40, JY4⟩
  try clear hw
  replace JY4 := ints_all JY4
  go_wp2_with fail
  refine (near_all v39 false false X4 Y4 nX4 nX4 nY4 nY4 _ _ 0 0 (ints_on JX4 j40) JY4 (⟨false, 3, 0⟩ : Dn) 0 R4.out).mono ?_
  rintro e' v41 ⟨G4, m4, o4, rfl, _, j42, I4⟩
  try clear hw
  replace I4 : Ints v41 0 v41.heap.size .u32 G4 m4 (canon 4294967296 3) := ints_all I4
  have j44 := (Below.refl v41.heap.size v41).alloc (Nat.le_refl _) (.cells #[.bool false, .slice G4 m4 o4, .int .i64 0] 25)
  have E4 := heap_alloc_last v41 (.cells #[.bool false, .slice G4 m4 o4, .int .i64 0] 25)
  have s45 : v41.heap.size < (v41.alloc (.cells #[.bool false, .slice G4 m4 o4, .int .i64 0] 25)).heap.size := by simp
  go_wp2_with fail
  generalize hw : v41.alloc (.cells #[.bool false, .slice G4 m4 o4, .int .i64 0] 25) = v43 at *
  clear hw
  refine (Of_any v43 (7) (by decide) (by decide) false 7 rfl rfl).mono ?_
  rintro e' v46 ⟨X5, nX5, rfl, j47, JX5⟩
  try clear hw
  replace JX5 := ints_all JX5
  go_wp2_with fail
  refine (Of_any v46 (3) (by decide) (by decide) false 3 rfl rfl).mono ?_
  rintro e' v48 ⟨Y5, nY5, rfl, j49, JY5⟩
  try clear hw
  replace JY5 := ints_all JY5
  go_wp2_with fail
  refine (near_all v48 false false X5 Y5 nX5 nX5 nY5 nY5 _ _ 0 0 (ints_on JX5 j49) JY5 (⟨false, 2, 0⟩ : Dn) 0 R5.out).mono ?_
  rintro e' v50 ⟨G5, m5, o5, rfl, _, j51, I5⟩
  try clear hw
  replace I5 : Ints v50 0 v50.heap.size .u32 G5 m5 (canon 4294967296 2) := ints_all I5
  have j53 := (Below.refl v50.heap.size v50).alloc (Nat.le_refl _) (.cells #[.bool false, .slice G5 m5 o5, .int .i64 0] 25)
  have E5 := heap_alloc_last v50 (.cells #[.bool false, .slice G5 m5 o5, .int .i64 0] 25)
  have s54 : v50.heap.size < (v50.alloc (.cells #[.bool false, .slice G5 m5 o5, .int .i64 0] 25)).heap.size := by simp
  go_upto_region 7 with fail
  generalize hw : v50.alloc (.cells #[.bool false, .slice G5 m5 o5, .int .i64 0] 25) = v52 at *
  clear hw
  obtain ⟨⟨q55_0, q55_1, q55_2⟩, q55_3, q55_4, q55_5⟩ := boxD (box_later E0 (later j11 (later j13 (later j15 (later j17 (later j20 (later j22 (later j24 (later j26 (later j29 (later j31 (later j33 (later j35 (later j38 (later j40 (later j42 (later j44 (later j47 (later j49 (later j51 j53))))))))))))))))))) s9)
  go_wp2_with fail
  refine (is_yes v52 false G0 m0 o0 1 2 (ints_on I0 (later j8 (later j11 (later j13 (later j15 (later j17 (later j20 (later j22 (later j24 (later j26 (later j29 (later j31 (later j33 (later j35 (later j38 (later j40 (later j42 (later j44 (later j47 (later j49 (later j51 j53))))))))))))))))))))) (1) (by decide) (by decide) rfl rfl).mono ?_
  rintro e' v56 ⟨rfl, j57⟩
  clear q55_0 q55_1 q55_2 q55_3 q55_4 q55_5
  try clear hw
  obtain ⟨⟨q58_0, q58_1, q58_2⟩, q58_3, q58_4, q58_5⟩ := boxD (box_later E1 (later j20 (later j22 (later j24 (later j26 (later j29 (later j31 (later j33 (later j35 (later j38 (later j40 (later j42 (later j44 (later j47 (later j49 (later j51 (later j53 j57)))))))))))))))) s18)
  go_wp2_with fail
  refine (is_yes v56 false G1 m1 o1 1 1 (ints_on I1 (later j17 (later j20 (later j22 (later j24 (later j26 (later j29 (later j31 (later j33 (later j35 (later j38 (later j40 (later j42 (later j44 (later j47 (later j49 (later j51 (later j53 j57)))))))))))))))))) (1) (by decide) (by decide) rfl rfl).mono ?_
  rintro e' v59 ⟨rfl, j60⟩
  clear q58_0 q58_1 q58_2 q58_3 q58_4 q58_5
  try clear hw
  obtain ⟨⟨q61_0, q61_1, q61_2⟩, q61_3, q61_4, q61_5⟩ := boxD (box_later E2 (later j29 (later j31 (later j33 (later j35 (later j38 (later j40 (later j42 (later j44 (later j47 (later j49 (later j51 (later j53 (later j57 j60))))))))))))) s27)
  go_wp2_with fail
  refine (is_yes v59 true G2 m2 o2 1 0 (ints_on I2 (later j26 (later j29 (later j31 (later j33 (later j35 (later j38 (later j40 (later j42 (later j44 (later j47 (later j49 (later j51 (later j53 (later j57 j60))))))))))))))) (-1) (by decide) (by decide) rfl rfl).mono ?_
  rintro e' v62 ⟨rfl, j63⟩
  clear q61_0 q61_1 q61_2 q61_3 q61_4 q61_5
  try clear hw
  obtain ⟨⟨q64_0, q64_1, q64_2⟩, q64_3, q64_4, q64_5⟩ := boxD (box_later E3 (later j38 (later j40 (later j42 (later j44 (later j47 (later j49 (later j51 (later j53 (later j57 (later j60 j63)))))))))) s36)
  go_wp2_with fail
  refine (is_yes v62 false G3 m3 o3 0 0 (ints_on I3 (later j35 (later j38 (later j40 (later j42 (later j44 (later j47 (later j49 (later j51 (later j53 (later j57 (later j60 j63)))))))))))) (0) (by decide) (by decide) rfl rfl).mono ?_
  rintro e' v65 ⟨rfl, j66⟩
  clear q64_0 q64_1 q64_2 q64_3 q64_4 q64_5
  try clear hw
  obtain ⟨⟨q67_0, q67_1, q67_2⟩, q67_3, q67_4, q67_5⟩ := boxD (box_later E4 (later j47 (later j49 (later j51 (later j53 (later j57 (later j60 (later j63 j66))))))) s45)
  go_wp2_with fail
  refine (is_yes v65 false G4 m4 o4 3 0 (ints_on I4 (later j44 (later j47 (later j49 (later j51 (later j53 (later j57 (later j60 (later j63 j66))))))))) (3) (by decide) (by decide) rfl rfl).mono ?_
  rintro e' v68 ⟨rfl, j69⟩
  clear q67_0 q67_1 q67_2 q67_3 q67_4 q67_5
  try clear hw
  obtain ⟨⟨q70_0, q70_1, q70_2⟩, q70_3, q70_4, q70_5⟩ := boxD (box_later E5 (later j57 (later j60 (later j63 (later j66 j69)))) s54)
  go_wp2_with fail
  refine (is_yes v68 false G5 m5 o5 2 0 (ints_on I5 (later j53 (later j57 (later j60 (later j63 (later j66 j69)))))) (2) (by decide) (by decide) rfl rfl).mono ?_
  rintro e' v71 ⟨rfl, j72⟩
  clear q70_0 q70_1 q70_2 q70_3 q70_4 q70_5
  try clear hw
  go_wp2
  go_ret
  exact ⟨rfl, (later j2 (later j4 (later j6 (later j8 (later j11 (later j13 (later j15 (later j17 (later j20 (later j22 (later j24 (later j26 (later j29 (later j31 (later j33 (later j35 (later j38 (later j40 (later j42 (later j44 (later j47 (later j49 (later j51 (later j53 (later j57 (later j60 (later j63 (later j66 (later j69 j72)))))))))))))))))))))))))))))⟩
end Dy
end Go.Proofs.Ytbbnbgllgomolaa
namespace Go.Proofs.Ytbbnbgllgomolaa
open Go.RowKit
namespace Dy
open Dp
theorem wholeX (m n : Int) (hm0 : -9223372036854775808 ≤ m) (hm1 : m ≤ 9223372036854775807) (hn : 0 < n) (hn1 : n ≤ 9223372036854775807) (k : Nat) (hk : k ≤ 64) (away : Bool) :
    toX (decide (m < 0)) (canon 4294967296 m.natAbs) 0 (decide (n < 0)) (canon 4294967296 n.natAbs) 0 k away = toD (whole m) (whole n) k away :=
  toX_dn (a := whole m) (b := whole n) (whole_may hm0 hm1) (whole_may (by omega) hn1) (whole_pos hn).1 (whole_pos hn).2 hk away
theorem wholeN (m n : Int) (hm0 : -9223372036854775808 ≤ m) (hm1 : m ≤ 9223372036854775807) (hn : 0 < n) (hn1 : n ≤ 9223372036854775807) :
    nearX (decide (m < 0)) (canon 4294967296 m.natAbs) 0 (decide (n < 0)) (canon 4294967296 n.natAbs) 0 = nearD (whole m) (whole n) :=
  nearX_dnR (a := whole m) (b := whole n) (whole_may hm0 hm1) (whole_may (by omega) hn1) (whole_pos hn).1 (whole_pos hn).2
theorem wrap64_inR (n : Int) (h : -9223372036854775808 ≤ n ∧ n ≤ 9223372036854775807) : wrap64 n = n := by
  unfold wrap64
  omega
theorem div_rng {m n z : Int} (hn : 0 < n) (h : m / n = z) (B : Int) (h0 : -B ≤ m) (h1 : m ≤ B) : -B ≤ z ∧ z ≤ B := by
  have e1 := Int.mul_ediv_add_emod m n
  have e2 := Int.emod_nonneg m (show n ≠ 0 by omega)
  have e3 := Int.emod_lt_of_pos m hn
  rw [h] at e1
  constructor
  · rcases Int.lt_or_le z (-B) with h' | h'
    · have : n * z ≤ n * (-B - 1) := Int.mul_le_mul_of_nonneg_left (by omega) (by omega)
      have e4 : n * (-B - 1) = -(n * B) - n := by rw [Int.mul_sub, Int.mul_neg, Int.mul_one]
      have e5 : B ≤ n * B ∨ B < 0 := by
        rcases Int.lt_or_le B 0 with h2 | h2
        · exact .inr h2
        · exact .inl (by have := Int.mul_le_mul_of_nonneg_right (show 1 ≤ n by omega) h2; omega)
      omega
    · exact h'
  · rcases Int.lt_or_le B z with h' | h'
    · have : n * (B + 1) ≤ n * z := Int.mul_le_mul_of_nonneg_left (by omega) (by omega)
      have e4 : n * (B + 1) = n * B + n := by rw [Int.mul_add, Int.mul_one]
      have e5 : B ≤ n * B ∨ B < 0 := by
        rcases Int.lt_or_le B 0 with h2 | h2
        · exact .inr h2
        · exact .inl (by have := Int.mul_le_mul_of_nonneg_right (show 1 ≤ n by omega) h2; omega)
      omega
    · exact h'
set_option maxHeartbeats 25600000 in
set_option maxRecDepth 100000 in
theorem whole_tail (w : World) (a b lo hi nr : Int) (ha0 : -2147483648 ≤ a) (ha1 : a ≤ 2147483647) (hb0 : 1 ≤ b) (hb1 : b ≤ 2147483647)
    (hlo : a / b = lo) (hhi : -(-a / b) = hi) (hnr : (2 * a + b) / (2 * b) = nr)
    (r1 : (a.tmod b < 0 ∧ wrap64 (a.tdiv b - 1) = lo) ∨ (¬ a.tmod b < 0 ∧ a.tdiv b = lo))
    (r2 : ((a.tmod b != 0) = true ∧ lo + 1 = hi) ∨ ((a.tmod b != 0) = false ∧ lo = hi))
    (r3 : ((2 * a + b).tmod (2 * b) < 0 ∧ wrap64 ((2 * a + b).tdiv (2 * b) - 1) = nr) ∨ (¬ (2 * a + b).tmod (2 * b) < 0 ∧ (2 * a + b).tdiv (2 * b) = nr)) :
    Calls Try.prog 10 #[.int .i32 a, .int .i32 b] w (YesR w) := by
  have hb' : ¬ b < 1 := by omega
  obtain ⟨l0, l1⟩ := div_rng (by omega) hlo 2147483648 (by omega) (by omega)
  obtain ⟨i0, i1⟩ := div_rng (m := -a) (n := b) (by omega) rfl 2147483648 (by omega) (by omega)
  have h0 : -2147483648 ≤ hi := by omega
  have h1 : hi ≤ 2147483648 := by omega
  obtain ⟨g0, g1⟩ := div_rng (by omega) hnr 6442450944 (by omega) (by omega)
  have HX := Lib.hid ((wholeX a b (by omega) (by omega) (by omega) (by omega) 0 (by decide) (decide (a < 0))).trans (whole_floor (z := lo) (by omega) (by omega) (by omega) hlo))
  have HP := Lib.hid ((wholeX a b (by omega) (by omega) (by omega) (by omega) 0 (by decide) (!decide (a < 0))).trans (whole_ceil (z := hi) (by omega) (by omega) (by omega) hhi))
  have HS := Lib.hid ((wholeN a b (by omega) (by omega) (by omega) (by omega)).trans (whole_near (z := nr) (by omega) (by omega) (by omega) hnr))
  clear hlo hhi hnr i0 i1
  obtain ⟨sa, hsa⟩ : ∃ s, decide (a < 0) = s := ⟨_, rfl⟩
  obtain ⟨va, hva⟩ : ∃ v, a.natAbs = v := ⟨_, rfl⟩
  obtain ⟨sb, hsb⟩ : ∃ s, decide (b < 0) = s := ⟨_, rfl⟩
  obtain ⟨vb, hvb⟩ : ∃ v, b.natAbs = v := ⟨_, rfl⟩
  obtain ⟨sl, hsl⟩ : ∃ s, decide (lo < 0) = s := ⟨_, rfl⟩
  obtain ⟨ml, hml⟩ : ∃ v, lo.natAbs = v := ⟨_, rfl⟩
  obtain ⟨sh, hsh⟩ : ∃ s, decide (hi < 0) = s := ⟨_, rfl⟩
  obtain ⟨mh, hmh⟩ : ∃ v, hi.natAbs = v := ⟨_, rfl⟩
  obtain ⟨sn, hsn⟩ : ∃ s, decide (nr < 0) = s := ⟨_, rfl⟩
  obtain ⟨mn, hmn⟩ : ∃ v, nr.natAbs = v := ⟨_, rfl⟩
  rw [hsa, hva, hsb, hvb] at HX HP HS
  rw [show whole lo = ⟨sl, ml, 0⟩ by rw [← hsl, ← hml]; rfl] at HX
  rw [show whole hi = ⟨sh, mh, 0⟩ by rw [← hsh, ← hmh]; rfl] at HP
  rw [show whole nr = ⟨sn, mn, 0⟩ by rw [← hsn, ← hmn]; rfl] at HS
  have HSA := Lib.hid hsa
  have HVA := Lib.hid hva
  have HSB := Lib.hid hsb
  have HVB := Lib.hid hvb
  have HSL := Lib.hid hsl
  have HML := Lib.hid hml
  have HSH := Lib.hid hsh
  have HMH := Lib.hid hmh
  have HSN := Lib.hid hsn
  have HMN := Lib.hid hmn
  clear hsa hva hsb hvb hsl hml hsh hmh hsn hmn
  rcases r1 with ⟨x1, x2⟩ | ⟨x1, x2⟩ <;> rcases r2 with ⟨y1, y2⟩ | ⟨y1, rfl⟩ <;> rcases r3 with ⟨z1, z2⟩ | ⟨z1, z2⟩
  all_goals
    go_enter Try.func10, Try.ntmps10
    go_wp2_with fail
    refine (aliveRP_any w).mono ?_
    rintro e' v1 ⟨rfl, j1⟩
    go_wp2_with fail
    try rw [x2]
    try rw [y2]
    try rw [z2]
    clear x1 x2 y1 z1 z2
    try clear y2
    refine (Of_any v1 a (by omega) (by omega) sa va HSA.out HVA.out).mono ?_
    rintro e' v1 ⟨X0, nX0, rfl, j2, JX0⟩
    try clear hw
    replace JX0 := ints_all JX0
    go_wp2_with fail
    refine (Of_any v1 b (by omega) (by omega) sb vb HSB.out HVB.out).mono ?_
    rintro e' v3 ⟨Y0, nY0, rfl, j4, JY0⟩
    try clear hw
    replace JY0 := ints_all JY0
    go_wp2_with fail
    refine (Floor_all v3 sa sb X0 Y0 nX0 nX0 nY0 nY0 _ _ 0 0 (ints_on JX0 j4) JY0 0 (⟨sl, ml, 0⟩ : Dn) 0 HX.out).mono ?_
    rintro e' v5 ⟨G0, m0, o0, rfl, _, j6, I0⟩
    try clear hw
    replace I0 : Ints v5 0 v5.heap.size .u32 G0 m0 (canon 4294967296 ml) := ints_all I0
    have j8 := (Below.refl v5.heap.size v5).alloc (Nat.le_refl _) (.cells #[.bool sl, .slice G0 m0 o0, .int .i64 0] 25)
    have E0 := heap_alloc_last v5 (.cells #[.bool sl, .slice G0 m0 o0, .int .i64 0] 25)
    have s9 : v5.heap.size < (v5.alloc (.cells #[.bool sl, .slice G0 m0 o0, .int .i64 0] 25)).heap.size := by simp
    go_wp2_with fail
    generalize hw : v5.alloc (.cells #[.bool sl, .slice G0 m0 o0, .int .i64 0] 25) = v7 at *
    clear hw
    refine (Of_any v7 a (by omega) (by omega) sa va HSA.out HVA.out).mono ?_
    rintro e' v10 ⟨X1, nX1, rfl, j11, JX1⟩
    try clear hw
    replace JX1 := ints_all JX1
    go_wp2_with fail
    refine (Of_any v10 b (by omega) (by omega) sb vb HSB.out HVB.out).mono ?_
    rintro e' v12 ⟨Y1, nY1, rfl, j13, JY1⟩
    try clear hw
    replace JY1 := ints_all JY1
    go_wp2_with fail
    refine (Ceil_all v12 sa sb X1 Y1 nX1 nX1 nY1 nY1 _ _ 0 0 (ints_on JX1 j13) JY1 0 (⟨sh, mh, 0⟩ : Dn) 0 HP.out).mono ?_
    rintro e' v14 ⟨G1, m1, o1, rfl, _, j15, I1⟩
    try clear hw
    replace I1 : Ints v14 0 v14.heap.size .u32 G1 m1 (canon 4294967296 mh) := ints_all I1
    have j17 := (Below.refl v14.heap.size v14).alloc (Nat.le_refl _) (.cells #[.bool sh, .slice G1 m1 o1, .int .i64 0] 25)
    have E1 := heap_alloc_last v14 (.cells #[.bool sh, .slice G1 m1 o1, .int .i64 0] 25)
    have s18 : v14.heap.size < (v14.alloc (.cells #[.bool sh, .slice G1 m1 o1, .int .i64 0] 25)).heap.size := by simp
    go_wp2_with fail
    generalize hw : v14.alloc (.cells #[.bool sh, .slice G1 m1 o1, .int .i64 0] 25) = v16 at *
    clear hw
    refine (Of_any v16 a (by omega) (by omega) sa va HSA.out HVA.out).mono ?_
    rintro e' v19 ⟨X2, nX2, rfl, j20, JX2⟩
    try clear hw
    replace JX2 := ints_all JX2
    go_wp2_with fail
    refine (Of_any v19 b (by omega) (by omega) sb vb HSB.out HVB.out).mono ?_
    rintro e' v21 ⟨Y2, nY2, rfl, j22, JY2⟩
    try clear hw
    replace JY2 := ints_all JY2
    go_wp2_with fail
    refine (near_all v21 sa sb X2 Y2 nX2 nX2 nY2 nY2 _ _ 0 0 (ints_on JX2 j22) JY2 (⟨sn, mn, 0⟩ : Dn) 0 HS.out).mono ?_
    rintro e' v23 ⟨G2, m2, o2, rfl, _, j24, I2⟩
    try clear hw
    replace I2 : Ints v23 0 v23.heap.size .u32 G2 m2 (canon 4294967296 mn) := ints_all I2
    have j26 := (Below.refl v23.heap.size v23).alloc (Nat.le_refl _) (.cells #[.bool sn, .slice G2 m2 o2, .int .i64 0] 25)
    have E2 := heap_alloc_last v23 (.cells #[.bool sn, .slice G2 m2 o2, .int .i64 0] 25)
    have s27 : v23.heap.size < (v23.alloc (.cells #[.bool sn, .slice G2 m2 o2, .int .i64 0] 25)).heap.size := by simp
    go_upto_region 17 with fail
    generalize hw : v23.alloc (.cells #[.bool sn, .slice G2 m2 o2, .int .i64 0] 25) = v25 at *
    clear hw
    obtain ⟨⟨q28_0, q28_1, q28_2⟩, q28_3, q28_4, q28_5⟩ := boxD (box_later E0 (later j11 (later j13 (later j15 (later j17 (later j20 (later j22 (later j24 j26))))))) s9)
    go_wp2_with fail
    refine (is_yes v25 sl G0 m0 o0 ml 0 (ints_on I0 (later j8 (later j11 (later j13 (later j15 (later j17 (later j20 (later j22 (later j24 j26))))))))) _ (by omega) (by omega) HSL.out HML.out).mono ?_
    rintro e' v29 ⟨rfl, j30⟩
    clear q28_0 q28_1 q28_2 q28_3 q28_4 q28_5
    try clear hw
    obtain ⟨⟨q31_0, q31_1, q31_2⟩, q31_3, q31_4, q31_5⟩ := boxD (box_later E1 (later j20 (later j22 (later j24 (later j26 j30)))) s18)
    go_wp2_with fail
    refine (is_yes v29 sh G1 m1 o1 mh 0 (ints_on I1 (later j17 (later j20 (later j22 (later j24 (later j26 j30)))))) _ (by omega) (by omega) HSH.out HMH.out).mono ?_
    rintro e' v32 ⟨rfl, j33⟩
    clear q31_0 q31_1 q31_2 q31_3 q31_4 q31_5
    try clear hw
    obtain ⟨⟨q34_0, q34_1, q34_2⟩, q34_3, q34_4, q34_5⟩ := boxD (box_later E2 (later j30 j33) s27)
    go_wp2_with fail
    refine (is_yes v32 sn G2 m2 o2 mn 0 (ints_on I2 (later j26 (later j30 j33))) _ (by omega) (by omega) HSN.out HMN.out).mono ?_
    rintro e' v35 ⟨rfl, j36⟩
    clear q34_0 q34_1 q34_2 q34_3 q34_4 q34_5
    try clear hw
    go_wp2
    go_ret
    exact ⟨rfl, (later j1 (later j2 (later j4 (later j6 (later j8 (later j11 (later j13 (later j15 (later j17 (later j20 (later j22 (later j24 (later j26 (later j30 (later j33 j36)))))))))))))))⟩
theorem whole_walk (w : World) (a b : Int) (ha0 : -2147483648 ≤ a) (ha1 : a ≤ 2147483647) (hb1 : b ≤ 2147483647) :
    Calls Try.prog 10 #[.int .i32 a, .int .i32 b] w (YesR w) := by
  by_cases hb0 : 1 ≤ b
  · have t1 := Int.mul_tdiv_add_tmod a b
    have D1 := go_div (m := a) (n := b) (by omega)
    obtain ⟨r, d1, d2, d3, d4, d5, d6⟩ := D1
    obtain ⟨q0, q1⟩ := div_rng (m := a) (n := b) (by omega) rfl 2147483648 (by omega) (by omega)
    obtain ⟨p0, p1⟩ := div_rng (m := -a) (n := b) (by omega) rfl 2147483648 (by omega) (by omega)
    obtain ⟨s0, s1⟩ := div_rng (m := 2 * a + b) (n := 2 * b) (by omega) rfl 6442450944 (by omega) (by omega)
    refine whole_tail w a b _ _ _ ha0 ha1 hb0 hb1 rfl rfl rfl ?_ ?_ ?_
    · by_cases h : a.tmod b < 0
      · have := go_floor1 (m := a) (n := b) (by omega) h
        exact .inl ⟨h, by rw [← this, wrap64_inR _ ⟨by omega, by omega⟩]⟩
      · exact .inr ⟨h, (go_floor0 (m := a) (n := b) (by omega) h).symm⟩
    · by_cases h : a.tmod b = 0
      · exact .inr ⟨by simp [h], (go_ceil0 (m := a) (n := b) (by omega) h).symm⟩
      · have := go_ceil1 (m := a) (n := b) (by omega) h
        exact .inl ⟨by simpa using h, this.symm⟩
    · by_cases h : (2 * a + b).tmod (2 * b) < 0
      · have := go_floor1 (m := 2 * a + b) (n := 2 * b) (by omega) h
        exact .inl ⟨h, by rw [← this, wrap64_inR _ ⟨by omega, by omega⟩]⟩
      · exact .inr ⟨h, (go_floor0 (m := 2 * a + b) (n := 2 * b) (by omega) h).symm⟩
  · have hb' : b < 1 := by omega
    go_enter Try.func10, Try.ntmps10
    go_wp2_with fail
    refine (aliveRP_any w).mono ?_
    rintro e' v1 ⟨rfl, j1⟩
    go_wp2
    go_ret
    exact ⟨rfl, j1⟩
theorem i32_rngR {z : Int} (h : (Lit.int .i32 z).wf = true) : -2147483648 ≤ z ∧ z ≤ 2147483647 := by
  simpa [Lit.wf, IntKind.min, IntKind.max, IntKind.signed, IntKind.bits] using h
theorem whole_row (w : World) (a : Int) (ha : (Lit.int .i32 a).wf = true) (b : Int) (hb : (Lit.int .i32 b).wf = true) :
    Calls Try.prog 10 #[.int .i32 a, .int .i32 b] w (YesR w) := whole_walk w a b (i32_rngR ha).1 (i32_rngR ha).2 (i32_rngR hb).2
end Dy
end Go.Proofs.Ytbbnbgllgomolaa
namespace Go.Proofs.Ytbbnbgllgomolaa
open Go.RowKit
namespace Dy
open Dp
theorem ask_bad {s1 : Bool} {xs1 : List Int} {e1 : Int} {s2 : Bool} {xs2 : List Int} {e2 : Int} {k : Int} (h1 : MayD s1 xs1 e1) (h2 : MayD s2 xs2 e2) (h : s2 = true ∨ xs2 = [] ∨ k < 0 ∨ 64 < k) : askX s1 xs1 e1 s2 xs2 e2 k = 2 := by
  unfold askX
  rw [if_pos ⟨h1, h2⟩, if_pos h]
theorem toX_ask {s1 : Bool} {xs1 : List Int} {e1 : Int} {s2 : Bool} {xs2 : List Int} {e2 : Int} {k q : Int} {away : Bool} (h : askX s1 xs1 e1 s2 xs2 e2 k = q) (h0 : q ≠ 0) : toX s1 xs1 e1 s2 xs2 e2 k away = (Dn.zero, q) := by
  unfold toX
  rw [if_neg (fun e => h0 (h.symm.trans e)), h]
theorem may1 : MayD false (canon 4294967296 1) 0 := dn_may (d := ⟨false, 1, 0⟩) (may_small _ _ _ (by decide) (by decide) (by decide) (by decide))
theorem may1n : MayD true (canon 4294967296 1) 0 := dn_may (d := ⟨true, 1, 0⟩) (may_small _ _ _ (by decide) (by decide) (by decide) (by decide))
theorem may0 : MayD false (canon 4294967296 0) 0 := dn_may (d := Dn.zero) zero_may
theorem nn0 : toX false (canon 4294967296 1) 0 false (canon 4294967296 0) 0 0 false = (Dn.zero, 2) := toX_ask (ask_bad may1 may0 (.inr (.inl rfl))) (by decide)
theorem nn1 : toX false (canon 4294967296 1) 0 true (canon 4294967296 1) 0 0 true = (Dn.zero, 2) := toX_ask (ask_bad may1 may1n (.inl rfl)) (by decide)
theorem nn2 : toX false (canon 4294967296 1) 0 false (canon 4294967296 1) 0 65 false = (Dn.zero, 2) := toX_ask (ask_bad may1 may1 (.inr (.inr (.inr (by decide))))) (by decide)
theorem nn3 : nearX true [] 0 false (canon 4294967296 1) 0 = (Dn.zero, 8) := by
  have h : askX true [] 0 false (canon 4294967296 1) 0 0 = 8 := by
    unfold askX
    rw [if_neg]
    rintro ⟨h, _⟩
    have := (h.2.2.2.1 rfl).2
    cases this
  unfold nearX
  rw [h, if_neg (by decide)]
theorem nm4 {h E : Nat} (hh : h = 1248) (hE : E = 1024) : toD ⟨false, 2 ^ h, 0⟩ ⟨false, 1, E⟩ 0 false = (Dn.zero, 10) := by
  have hp : 0 < 2 ^ E := Nat.pow_pos (by decide)
  have e1 : (quoN ⟨false, 2 ^ h, 0⟩ ⟨false, 1, E⟩ 0).1 = 2 ^ h * 2 ^ E := by
    show 2 ^ h * 2 ^ (E + 0) / (1 * 2 ^ 0) = _
    rw [Nat.add_zero, Nat.pow_zero, Nat.mul_one, Nat.div_one]
  have e2 : (quoN ⟨false, 2 ^ h, 0⟩ ⟨false, 1, E⟩ 0).2 = 0 := by
    show 2 ^ h * 2 ^ (E + 0) % (1 * 2 ^ 0) = _
    rw [Nat.pow_zero, Nat.mul_one, Nat.mod_one]
  unfold toD
  rw [e1, e2, if_neg (fun h => h.1 rfl), Nat.add_zero]
  rw [formed_at (j := 0) (M := 2 ^ h * 2 ^ E) (by rw [Nat.pow_zero, Nat.mul_one]) (Nat.ne_of_gt (Nat.mul_pos (Nat.pow_pos (by decide)) hp)) (Nat.le_refl _) (.inl rfl) (by decide), if_neg]
  have : capD ≤ 2 ^ h * 2 ^ E := by
    rw [← Nat.pow_add]
    exact Nat.pow_le_pow_right (by decide) (by rw [hh, hE]; decide)
  omega
theorem nm56 {h E : Nat} (hh : h = 1248) (hE : E = 1024) : (quoN ⟨false, 1, E⟩ ⟨false, 2 ^ h, 0⟩ 64).1 = 0 ∧ (quoN ⟨false, 1, E⟩ ⟨false, 2 ^ h, 0⟩ 64).2 ≠ 0 := by
  have hlt : 1 * 2 ^ (0 + 64) < 2 ^ h * 2 ^ E := by
    rw [Nat.one_mul, ← Nat.pow_add]
    exact Nat.pow_lt_pow_right (by decide) (by omega)
  have hp : 0 < 1 * 2 ^ (0 + 64) := by decide
  constructor
  · show 1 * 2 ^ (0 + 64) / (2 ^ h * 2 ^ E) = 0
    exact Nat.div_eq_of_lt hlt
  · show 1 * 2 ^ (0 + 64) % (2 ^ h * 2 ^ E) ≠ 0
    rw [Nat.mod_eq_of_lt hlt]
    omega
theorem nm5 {h E : Nat} (hh : h = 1248) (hE : E = 1024) : toD ⟨false, 1, E⟩ ⟨false, 2 ^ h, 0⟩ 64 false = (Dn.zero, 0) := by
  obtain ⟨h1, h2⟩ := nm56 hh hE
  unfold toD
  rw [h1, if_neg (fun h => by cases h.2)]
  exact formed_zero
theorem nm6 {h E : Nat} (hh : h = 1248) (hE : E = 1024) : toD ⟨false, 1, E⟩ ⟨false, 2 ^ h, 0⟩ 64 true = (⟨false, 1, 64⟩, 0) := by
  obtain ⟨h1, h2⟩ := nm56 hh hE
  unfold toD
  rw [h1, if_pos ⟨h2, rfl⟩]
  show formed false (0 + 1) 64 = _
  exact formed_of (K := 64) (may_small _ _ _ (by decide) (by decide) (by decide) (by decide)) (by decide) (by decide) (by decide)
theorem huge_may {h : Nat} (hh : h = 1248) : Dn.May ⟨false, 2 ^ h, 0⟩ := by
  refine ⟨capD_gt (k := h + 1) (Nat.pow_lt_pow_right (by decide) (Nat.lt_succ_self _)) (by omega), Nat.zero_le _, fun h0 => ⟨rfl, rfl⟩, fun h => absurd h (Nat.lt_irrefl 0)⟩
theorem tiny_may {E : Nat} (hE : E = 1024) : Dn.May ⟨false, 1, E⟩ := may_small _ _ _ (by decide) (by decide) (by omega) (fun _ => rfl)
def hugeL : List Int := (List.replicate 40 0).set 39 1
theorem huge_canon : ∃ h, h = 1248 ∧ canon 4294967296 (2 ^ h) = hugeL := by
  obtain ⟨k, hk⟩ : ∃ k, k = 39 := ⟨_, rfl⟩
  refine ⟨32 * k, by omega, ?_⟩
  rw [Nat.pow_mul]
  have := canon_shift (B := 4294967296) (n := 1) (by decide) k (by decide)
  rw [Nat.mul_one] at this
  exact this.symm.trans (by rw [hk]; rfl)
theorem row_ints {w : World} {g : Nat} {ws : List Int} {t : TypeId} (h : w.heap[g]? = some (.cells (rowU ws) t (0, 0))) (hd : Dig 4294967296 ws) (n : Nat) (hn : ws.length = n) (hn2 : n ≤ 1000000) : Ints w 0 w.heap.size .u32 (some ⟨g, 0, none⟩) n ws :=
  ⟨hn, dig_wf hd, by omega, fun _ => ⟨g, 0, rfl, Nat.zero_le _, (Array.getElem?_eq_some_iff.1 h).1, fun j hj => ⟨by
    rw [Nat.zero_add, cell_of_row w g j _ _ _ h]
    exact rowU_get _ (by omega), frozen_of_row w g _ _ _ h⟩⟩⟩
theorem nm7 : nearX true (canon 4294967296 5) 0 false (canon 4294967296 2) 0 = (⟨true, 2, 0⟩, 0) :=
  (nearX_dnR (a := ⟨true, 5, 0⟩) (b := ⟨false, 2, 0⟩) (may_small _ _ _ (by decide) (by decide) (by decide) (by decide)) (may_small _ _ _ (by decide) (by decide) (by decide) (by decide)) rfl (by decide)).trans (formed_of (K := 0) (may_small _ _ _ (by decide) (by decide) (by decide) (by decide)) (by decide) (by decide) (by decide))
theorem nm8 : nearX true (canon 4294967296 7) 0 false (canon 4294967296 4) 0 = (⟨true, 2, 0⟩, 0) :=
  (nearX_dnR (a := ⟨true, 7, 0⟩) (b := ⟨false, 4, 0⟩) (may_small _ _ _ (by decide) (by decide) (by decide) (by decide)) (may_small _ _ _ (by decide) (by decide) (by decide) (by decide)) rfl (by decide)).trans (formed_of (K := 0) (may_small _ _ _ (by decide) (by decide) (by decide) (by decide)) (by decide) (by decide) (by decide))
set_option maxHeartbeats 25600000 in
set_option maxRecDepth 100000 in
theorem names03_walk (w : World) : Calls Try.prog 9 #[] w (YesR w) := by
  obtain ⟨h, hh, hcan⟩ := huge_canon
  obtain ⟨E, hE⟩ : ∃ E, E = 1024 := ⟨_, rfl⟩
  have hEi : ((E : Nat) : Int) = 1024 := by rw [hE]; rfl
  have F4 := toX_dn (huge_may hh) (tiny_may hE) rfl (by decide : (1 : Nat) ≠ 0) (k := 0) (by decide) false
  have F5 := toX_dn (tiny_may hE) (huge_may hh) rfl (Nat.ne_of_gt (Nat.pow_pos (by decide))) (k := 64) (by decide) false
  have F6 := toX_dn (tiny_may hE) (huge_may hh) rfl (Nat.ne_of_gt (Nat.pow_pos (by decide))) (k := 64) (by decide) true
  rw [nm4 hh hE] at F4
  rw [nm5 hh hE] at F5
  rw [nm6 hh hE] at F6
  replace F4 : toX false (canon 4294967296 (2 ^ h)) 0 false (canon 4294967296 1) (E : Nat) 0 false = (Dn.zero, 10) := F4
  replace F5 : toX false (canon 4294967296 1) (E : Nat) false (canon 4294967296 (2 ^ h)) 0 64 false = (Dn.zero, 0) := F5
  replace F6 : toX false (canon 4294967296 1) (E : Nat) false (canon 4294967296 (2 ^ h)) 0 64 true = (⟨false, 1, 64⟩, 0) := F6
  rw [hEi, hcan] at F4 F5 F6
  have hdh : Dig 4294967296 hugeL := by rw [← hcan]; exact (canon_spec 4294967296 _ (by decide)).1
  have hlh : hugeL.length = 40 := by decide
  obtain ⟨xs, hxs⟩ : ∃ xs, hugeL = xs := ⟨_, rfl⟩
  rw [hxs] at F4 F5 F6 hdh hlh
  obtain ⟨zs, hzs⟩ : ∃ zs, List.replicate 40 (0 : Int) = zs := ⟨_, rfl⟩
  have HXS : Hid (zs.set 39 1 = xs) := Lib.hid (by rw [← hzs]; exact hxs)
  have HZL : Hid (zs.length = 40) := Lib.hid (by rw [← hzs]; rfl)
  have HZ9 : Hid (zs[39]?.getD 0 = 0) := Lib.hid (by rw [← hzs]; rfl)
  have HDH := Lib.hid hdh
  have HLH := Lib.hid hlh
  have N0 := Lib.hid nn0
  have N1 := Lib.hid nn1
  have N2 := Lib.hid nn2
  have N3 := Lib.hid nn3
  have N4 := Lib.hid F4
  have N5 := Lib.hid F5
  have N6 := Lib.hid F6
  have N7 := Lib.hid nm7
  have N8 := Lib.hid nm8
  clear hh hcan hE hEi F4 F5 F6 hdh hlh hxs
  have hmk : ∀ W : World, (Instr.makeSlice 23 (.int .i64 40) (.int .i64 40)).run Try.prog W = .ok (.slice (some ⟨W.heap.size, 0, none⟩) 40 40) (W.alloc (.cells (rowU zs) 70)) := fun W => by
    rw [← hzs]
    exact make_u32 40 (by decide) W
  clear hzs
  go_enter Try.func9, Try.ntmps9
  go_wp2_with fail
  refine (Of_any w (1) (by decide) (by decide) false 1 rfl rfl).mono ?_
  rintro e' v1 ⟨X0, nX0, rfl, j2, JX0⟩
  try clear hw
  replace JX0 := ints_all JX0
  go_wp2_with fail
  refine (Of_any v1 (0) (by decide) (by decide) false 0 rfl rfl).mono ?_
  rintro e' v3 ⟨Y0, nY0, rfl, j4, JY0⟩
  try clear hw
  replace JY0 := ints_all JY0
  go_wp2_with fail
  refine (Floor_all v3 false false X0 Y0 nX0 nX0 nY0 nY0 _ _ 0 0 (ints_on JX0 j4) JY0 0 (⟨false, 0, 0⟩ : Dn) 2 N0.out).mono ?_
  rintro e' v5 ⟨G0, m0, o0, rfl, _, j6, I0⟩
  try clear hw
  replace I0 : Ints v5 0 v5.heap.size .u32 G0 m0 (canon 4294967296 0) := ints_all I0
  have j8 := (Below.refl v5.heap.size v5).alloc (Nat.le_refl _) (.cells #[.bool false, .slice G0 m0 o0, .int .i64 0] 25)
  have E0 := heap_alloc_last v5 (.cells #[.bool false, .slice G0 m0 o0, .int .i64 0] 25)
  have s9 : v5.heap.size < (v5.alloc (.cells #[.bool false, .slice G0 m0 o0, .int .i64 0] 25)).heap.size := by simp
  go_wp2_with fail
  generalize hw : v5.alloc (.cells #[.bool false, .slice G0 m0 o0, .int .i64 0] 25) = v7 at *
  clear hw
  refine (Of_any v7 (1) (by decide) (by decide) false 1 rfl rfl).mono ?_
  rintro e' v10 ⟨X1, nX1, rfl, j11, JX1⟩
  try clear hw
  replace JX1 := ints_all JX1
  go_wp2_with fail
  refine (Of_any v10 (-1) (by decide) (by decide) true 1 rfl rfl).mono ?_
  rintro e' v12 ⟨Y1, nY1, rfl, j13, JY1⟩
  try clear hw
  replace JY1 := ints_all JY1
  go_wp2_with fail
  refine (Ceil_all v12 false true X1 Y1 nX1 nX1 nY1 nY1 _ _ 0 0 (ints_on JX1 j13) JY1 0 (⟨false, 0, 0⟩ : Dn) 2 N1.out).mono ?_
  rintro e' v14 ⟨G1, m1, o1, rfl, _, j15, I1⟩
  try clear hw
  replace I1 : Ints v14 0 v14.heap.size .u32 G1 m1 (canon 4294967296 0) := ints_all I1
  have j17 := (Below.refl v14.heap.size v14).alloc (Nat.le_refl _) (.cells #[.bool false, .slice G1 m1 o1, .int .i64 0] 25)
  have E1 := heap_alloc_last v14 (.cells #[.bool false, .slice G1 m1 o1, .int .i64 0] 25)
  have s18 : v14.heap.size < (v14.alloc (.cells #[.bool false, .slice G1 m1 o1, .int .i64 0] 25)).heap.size := by simp
  go_wp2_with fail
  generalize hw : v14.alloc (.cells #[.bool false, .slice G1 m1 o1, .int .i64 0] 25) = v16 at *
  clear hw
  refine (Of_any v16 (1) (by decide) (by decide) false 1 rfl rfl).mono ?_
  rintro e' v19 ⟨X2, nX2, rfl, j20, JX2⟩
  try clear hw
  replace JX2 := ints_all JX2
  go_wp2_with fail
  refine (Of_any v19 (1) (by decide) (by decide) false 1 rfl rfl).mono ?_
  rintro e' v21 ⟨Y2, nY2, rfl, j22, JY2⟩
  try clear hw
  replace JY2 := ints_all JY2
  go_wp2_with fail
  refine (Floor_all v21 false false X2 Y2 nX2 nX2 nY2 nY2 _ _ 0 0 (ints_on JX2 j22) JY2 65 (⟨false, 0, 0⟩ : Dn) 2 N2.out).mono ?_
  rintro e' v23 ⟨G2, m2, o2, rfl, _, j24, I2⟩
  try clear hw
  replace I2 : Ints v23 0 v23.heap.size .u32 G2 m2 (canon 4294967296 0) := ints_all I2
  have j26 := (Below.refl v23.heap.size v23).alloc (Nat.le_refl _) (.cells #[.bool false, .slice G2 m2 o2, .int .i64 0] 25)
  have E2 := heap_alloc_last v23 (.cells #[.bool false, .slice G2 m2 o2, .int .i64 0] 25)
  have s27 : v23.heap.size < (v23.alloc (.cells #[.bool false, .slice G2 m2 o2, .int .i64 0] 25)).heap.size := by simp
  go_wp2_with fail
  generalize hw : v23.alloc (.cells #[.bool false, .slice G2 m2 o2, .int .i64 0] 25) = v25 at *
  clear hw
  refine (Of_any v25 (1) (by decide) (by decide) false 1 rfl rfl).mono ?_
  rintro e' v28 ⟨Y3, nY3, rfl, j29, JY3⟩
  try clear hw
  replace JY3 := ints_all JY3
  go_wp2_with fail
  refine (near_all v28 true false none Y3 0 0 nY3 nY3 [] _ 0 0 (Ints.nil_ ..) JY3 (⟨false, 0, 0⟩ : Dn) 8 N3.out).mono ?_
  rintro e' v30 ⟨G3, m3, o3, rfl, _, j31, I3⟩
  try clear hw
  replace I3 : Ints v30 0 v30.heap.size .u32 G3 m3 (canon 4294967296 0) := ints_all I3
  have j33 := (Below.refl v30.heap.size v30).alloc (Nat.le_refl _) (.cells #[.bool false, .slice G3 m3 o3, .int .i64 0] 25)
  have E3 := heap_alloc_last v30 (.cells #[.bool false, .slice G3 m3 o3, .int .i64 0] 25)
  have s34 : v30.heap.size < (v30.alloc (.cells #[.bool false, .slice G3 m3 o3, .int .i64 0] 25)).heap.size := by simp
  go_upto_region 5 with fail
  generalize hw : v30.alloc (.cells #[.bool false, .slice G3 m3 o3, .int .i64 0] 25) = v32 at *
  clear hw
  have jt := (Below.refl v32.heap.size v32).alloc (Nat.le_refl _) (.cells #[.int .u32 1] 70)
  have Xt := heap_alloc_last v32 (.cells #[.int .u32 1] 70)
  have St : v32.heap.size < (v32.alloc (.cells #[.int .u32 1] 70)).heap.size := by simp
  have et : (v32.alloc (.cells #[.int .u32 1] 70)).heap.size = v32.heap.size + 1 := by simp
  generalize hwt : v32.alloc (.cells #[.int .u32 1] 70) = t1 at *
  have jt2 := (Below.refl t1.heap.size t1).alloc (Nat.le_refl _) (.cells #[.bool false, .slice (some ⟨v32.heap.size, 0, none⟩) 1 1, .int .i64 1024] 25)
  have BT := heap_alloc_last t1 (.cells #[.bool false, .slice (some ⟨v32.heap.size, 0, none⟩) 1 1, .int .i64 1024] 25)
  have ST : t1.heap.size < (t1.alloc (.cells #[.bool false, .slice (some ⟨v32.heap.size, 0, none⟩) 1 1, .int .i64 1024] 25)).heap.size := by simp
  have JT : Ints t1 0 t1.heap.size .u32 (some ⟨v32.heap.size, 0, none⟩) 1 (canon 4294967296 1) := row_ints (ws := [1]) Xt (canon_spec 4294967296 1 (by decide)).1 1 rfl (by decide)
  clear Xt
  go_upto_region 6 with fail
  rw [et] at BT
  have ST2 : v32.heap.size + 1 < (t1.alloc (.cells #[.bool false, .slice (some ⟨v32.heap.size, 0, none⟩) 1 1, .int .i64 1024] 25)).heap.size := by rw [← et]; exact ST
  clear ST hwt et
  generalize hw : t1.alloc (.cells #[.bool false, .slice (some ⟨v32.heap.size, 0, none⟩) 1 1, .int .i64 1024] 25) = t2 at *
  clear hw
  have X3 := heap_alloc_last t2 (.cells (rowU zs) 70)
  have e3 : (t2.alloc (.cells (rowU zs) 70)).heap.size = t2.heap.size + 1 := by simp
  have B3 := heap_alloc_last (t2.alloc (.cells (rowU zs) 70)) (.cells #[.bool false, .slice (some ⟨t2.heap.size, 0, none⟩) 40 40, .int .i64 0] 25)
  have X4 : ((t2.alloc (.cells (rowU zs) 70)).alloc (.cells #[.bool false, .slice (some ⟨t2.heap.size, 0, none⟩) 40 40, .int .i64 0] 25)).heap[t2.heap.size]? = some (.cells (rowU zs) 70 (0, 0)) := (Below.heap_alloc _ _ _ (by rw [e3]; omega)).trans X3
  rw [e3] at B3
  have j4 : Below t2.heap.size t2 ((t2.alloc (.cells (rowU zs) 70)).alloc (.cells #[.bool false, .slice (some ⟨t2.heap.size, 0, none⟩) 40 40, .int .i64 0] 25)) := ((Below.refl _ _).alloc (Nat.le_refl _) _).alloc (by rw [e3]; omega) _
  have S4 : t2.heap.size + 1 < ((t2.alloc (.cells (rowU zs) 70)).alloc (.cells #[.bool false, .slice (some ⟨t2.heap.size, 0, none⟩) 40 40, .int .i64 0] 25)).heap.size := by rw [World.size_alloc, e3]; omega
  go_upto_region 7 with fail
  clear e3 X3
  generalize hw : (t2.alloc (.cells (rowU zs) 70)).alloc (.cells #[.bool false, .slice (some ⟨t2.heap.size, 0, none⟩) 40 40, .int .i64 0] 25) = t4 at *
  clear hw hmk
  obtain ⟨⟨k0, k1, k2⟩, k3, k4, k5⟩ := boxD B3
  have c4 : t4.cell? ⟨t2.heap.size, 39, none⟩ = some (.int .u32 0) := by rw [cell_of_row _ _ _ _ _ _ X4, rowU_get _ (by rw [HZL.out]; decide), HZ9.out]
  have f4 : t4.frozen? ⟨t2.heap.size, 39, none⟩ = false := frozen_of_row _ _ _ _ _ X4
  have X5 := heap_setCell_same t4 t2.heap.size 39 _ _ (.int .u32 1) X4
  rw [rowU_set, HXS.out] at X5
  have B5 : (t4.setCell ⟨t2.heap.size, 39, none⟩ (.int .u32 1)).heap[t2.heap.size + 1]? = some (.cells #[.bool false, .slice (some ⟨t2.heap.size, 0, none⟩) 40 40, .int .i64 0] 25 (0, 0)) := (Below.heap_setCell _ _ _ _ (show t2.heap.size + 1 ≠ t2.heap.size by omega)).trans B3
  have j5 : Below t2.heap.size t2 (t4.setCell ⟨t2.heap.size, 39, none⟩ (.int .u32 1)) := j4.setCell (show t2.heap.size ≤ t2.heap.size from Nat.le_refl _) _
  have S5 : t2.heap.size + 1 < (t4.setCell ⟨t2.heap.size, 39, none⟩ (.int .u32 1)).heap.size := by simpa [World.setCell] using S4
  go_upto_region 8 with fail
  clear k0 k1 k2 k3 k4 k5 c4 f4 B3 X4 j4 S4
  generalize hw : t4.setCell ⟨t2.heap.size, 39, none⟩ (.int .u32 1) = t5 at *
  clear hw
  have J5 := row_ints X5 HDH.out 40 HLH.out (by decide)
  clear X5
  obtain ⟨⟨q35_0, q35_1, q35_2⟩, q35_3, q35_4, q35_5⟩ := boxD B5
  obtain ⟨⟨q36_0, q36_1, q36_2⟩, q36_3, q36_4, q36_5⟩ := boxD (box_later BT j5 ST2)
  go_wp2_with fail
  refine (Floor_all t5 false false (some ⟨t2.heap.size, 0, none⟩) (some ⟨v32.heap.size, 0, none⟩) 40 40 1 1 _ _ 0 1024 J5 (ints_on JT (later jt2 j5)) 0 (⟨false, 0, 0⟩ : Dn) 10 N4.out).mono ?_
  rintro e' v37 ⟨G4, m4, o4, rfl, _, j38, I4⟩
  clear q35_0 q35_1 q35_2 q35_3 q35_4 q35_5 q36_0 q36_1 q36_2 q36_3 q36_4 q36_5
  try clear hw
  replace I4 : Ints v37 0 v37.heap.size .u32 G4 m4 (canon 4294967296 0) := ints_all I4
  have j40 := (Below.refl v37.heap.size v37).alloc (Nat.le_refl _) (.cells #[.bool false, .slice G4 m4 o4, .int .i64 0] 25)
  have E4 := heap_alloc_last v37 (.cells #[.bool false, .slice G4 m4 o4, .int .i64 0] 25)
  have s41 : v37.heap.size < (v37.alloc (.cells #[.bool false, .slice G4 m4 o4, .int .i64 0] 25)).heap.size := by simp
  go_upto_region 9 with fail
  generalize hw : v37.alloc (.cells #[.bool false, .slice G4 m4 o4, .int .i64 0] 25) = v39 at *
  clear hw
  obtain ⟨⟨q42_0, q42_1, q42_2⟩, q42_3, q42_4, q42_5⟩ := boxD (box_later BT (later j5 (later j38 j40)) ST2)
  obtain ⟨⟨q43_0, q43_1, q43_2⟩, q43_3, q43_4, q43_5⟩ := boxD (box_later B5 (later j38 j40) S5)
  go_wp2_with fail
  refine (Floor_all v39 false false (some ⟨v32.heap.size, 0, none⟩) (some ⟨t2.heap.size, 0, none⟩) 1 1 40 40 _ _ 1024 0 (ints_on JT (later jt2 (later j5 (later j38 j40)))) (ints_on J5 (later j38 j40)) 64 (⟨false, 0, 0⟩ : Dn) 0 N5.out).mono ?_
  rintro e' v44 ⟨G5, m5, o5, rfl, _, j45, I5⟩
  clear q42_0 q42_1 q42_2 q42_3 q42_4 q42_5 q43_0 q43_1 q43_2 q43_3 q43_4 q43_5
  try clear hw
  replace I5 : Ints v44 0 v44.heap.size .u32 G5 m5 (canon 4294967296 0) := ints_all I5
  have j47 := (Below.refl v44.heap.size v44).alloc (Nat.le_refl _) (.cells #[.bool false, .slice G5 m5 o5, .int .i64 0] 25)
  have E5 := heap_alloc_last v44 (.cells #[.bool false, .slice G5 m5 o5, .int .i64 0] 25)
  have s48 : v44.heap.size < (v44.alloc (.cells #[.bool false, .slice G5 m5 o5, .int .i64 0] 25)).heap.size := by simp
  go_upto_region 10 with fail
  generalize hw : v44.alloc (.cells #[.bool false, .slice G5 m5 o5, .int .i64 0] 25) = v46 at *
  clear hw
  obtain ⟨⟨q49_0, q49_1, q49_2⟩, q49_3, q49_4, q49_5⟩ := boxD (box_later BT (later j5 (later j38 (later j40 (later j45 j47)))) ST2)
  obtain ⟨⟨q50_0, q50_1, q50_2⟩, q50_3, q50_4, q50_5⟩ := boxD (box_later B5 (later j38 (later j40 (later j45 j47))) S5)
  go_wp2_with fail
  refine (Ceil_all v46 false false (some ⟨v32.heap.size, 0, none⟩) (some ⟨t2.heap.size, 0, none⟩) 1 1 40 40 _ _ 1024 0 (ints_on JT (later jt2 (later j5 (later j38 (later j40 (later j45 j47)))))) (ints_on J5 (later j38 (later j40 (later j45 j47)))) 64 (⟨false, 1, 64⟩ : Dn) 0 N6.out).mono ?_
  rintro e' v51 ⟨G6, m6, o6, rfl, _, j52, I6⟩
  clear q49_0 q49_1 q49_2 q49_3 q49_4 q49_5 q50_0 q50_1 q50_2 q50_3 q50_4 q50_5
  try clear hw
  replace I6 : Ints v51 0 v51.heap.size .u32 G6 m6 (canon 4294967296 1) := ints_all I6
  have j54 := (Below.refl v51.heap.size v51).alloc (Nat.le_refl _) (.cells #[.bool false, .slice G6 m6 o6, .int .i64 64] 25)
  have E6 := heap_alloc_last v51 (.cells #[.bool false, .slice G6 m6 o6, .int .i64 64] 25)
  have s55 : v51.heap.size < (v51.alloc (.cells #[.bool false, .slice G6 m6 o6, .int .i64 64] 25)).heap.size := by simp
  go_wp2_with fail
  generalize hw : v51.alloc (.cells #[.bool false, .slice G6 m6 o6, .int .i64 64] 25) = v53 at *
  clear hw
  refine (Of_any v53 (-5) (by decide) (by decide) true 5 rfl rfl).mono ?_
  rintro e' v56 ⟨X7, nX7, rfl, j57, JX7⟩
  try clear hw
  replace JX7 := ints_all JX7
  go_wp2_with fail
  refine (Of_any v56 (2) (by decide) (by decide) false 2 rfl rfl).mono ?_
  rintro e' v58 ⟨Y7, nY7, rfl, j59, JY7⟩
  try clear hw
  replace JY7 := ints_all JY7
  go_wp2_with fail
  refine (near_all v58 true false X7 Y7 nX7 nX7 nY7 nY7 _ _ 0 0 (ints_on JX7 j59) JY7 (⟨true, 2, 0⟩ : Dn) 0 N7.out).mono ?_
  rintro e' v60 ⟨G7, m7, o7, rfl, _, j61, I7⟩
  try clear hw
  replace I7 : Ints v60 0 v60.heap.size .u32 G7 m7 (canon 4294967296 2) := ints_all I7
  have j63 := (Below.refl v60.heap.size v60).alloc (Nat.le_refl _) (.cells #[.bool true, .slice G7 m7 o7, .int .i64 0] 25)
  have E7 := heap_alloc_last v60 (.cells #[.bool true, .slice G7 m7 o7, .int .i64 0] 25)
  have s64 : v60.heap.size < (v60.alloc (.cells #[.bool true, .slice G7 m7 o7, .int .i64 0] 25)).heap.size := by simp
  go_wp2_with fail
  generalize hw : v60.alloc (.cells #[.bool true, .slice G7 m7 o7, .int .i64 0] 25) = v62 at *
  clear hw
  refine (Of_any v62 (-7) (by decide) (by decide) true 7 rfl rfl).mono ?_
  rintro e' v65 ⟨X8, nX8, rfl, j66, JX8⟩
  try clear hw
  replace JX8 := ints_all JX8
  go_wp2_with fail
  refine (Of_any v65 (4) (by decide) (by decide) false 4 rfl rfl).mono ?_
  rintro e' v67 ⟨Y8, nY8, rfl, j68, JY8⟩
  try clear hw
  replace JY8 := ints_all JY8
  go_wp2_with fail
  refine (near_all v67 true false X8 Y8 nX8 nX8 nY8 nY8 _ _ 0 0 (ints_on JX8 j68) JY8 (⟨true, 2, 0⟩ : Dn) 0 N8.out).mono ?_
  rintro e' v69 ⟨G8, m8, o8, rfl, _, j70, I8⟩
  try clear hw
  replace I8 : Ints v69 0 v69.heap.size .u32 G8 m8 (canon 4294967296 2) := ints_all I8
  have j72 := (Below.refl v69.heap.size v69).alloc (Nat.le_refl _) (.cells #[.bool true, .slice G8 m8 o8, .int .i64 0] 25)
  have E8 := heap_alloc_last v69 (.cells #[.bool true, .slice G8 m8 o8, .int .i64 0] 25)
  have s73 : v69.heap.size < (v69.alloc (.cells #[.bool true, .slice G8 m8 o8, .int .i64 0] 25)).heap.size := by simp
  go_wp2_with fail
  generalize hw : v69.alloc (.cells #[.bool true, .slice G8 m8 o8, .int .i64 0] 25) = v71 at *
  clear hw
  refine (aliveRP_any v71).mono ?_
  rintro e' v74 ⟨rfl, j75⟩
  try clear hw
  obtain ⟨⟨q76_0, q76_1, q76_2⟩, q76_3, q76_4, q76_5⟩ := boxD (box_later E5 (later j52 (later j54 (later j57 (later j59 (later j61 (later j63 (later j66 (later j68 (later j70 (later j72 j75)))))))))) s48)
  go_wp2_with fail
  refine (is_yes v74 false G5 m5 o5 0 0 (ints_on I5 (later j47 (later j52 (later j54 (later j57 (later j59 (later j61 (later j63 (later j66 (later j68 (later j70 (later j72 j75)))))))))))) (0) (by decide) (by decide) rfl rfl).mono ?_
  rintro e' v77 ⟨rfl, j78⟩
  clear q76_0 q76_1 q76_2 q76_3 q76_4 q76_5
  try clear hw
  obtain ⟨⟨q79_0, q79_1, q79_2⟩, q79_3, q79_4, q79_5⟩ := boxD (box_later E6 (later j57 (later j59 (later j61 (later j63 (later j66 (later j68 (later j70 (later j72 (later j75 j78))))))))) s55)
  go_wp2_with fail
  refine (is_yes v77 false G6 m6 o6 1 64 (ints_on I6 (later j54 (later j57 (later j59 (later j61 (later j63 (later j66 (later j68 (later j70 (later j72 (later j75 j78))))))))))) (1) (by decide) (by decide) rfl rfl).mono ?_
  rintro e' v80 ⟨rfl, j81⟩
  clear q79_0 q79_1 q79_2 q79_3 q79_4 q79_5
  try clear hw
  obtain ⟨⟨q82_0, q82_1, q82_2⟩, q82_3, q82_4, q82_5⟩ := boxD (box_later E7 (later j66 (later j68 (later j70 (later j72 (later j75 (later j78 j81)))))) s64)
  go_wp2_with fail
  refine (is_yes v80 true G7 m7 o7 2 0 (ints_on I7 (later j63 (later j66 (later j68 (later j70 (later j72 (later j75 (later j78 j81)))))))) (-2) (by decide) (by decide) rfl rfl).mono ?_
  rintro e' v83 ⟨rfl, j84⟩
  clear q82_0 q82_1 q82_2 q82_3 q82_4 q82_5
  try clear hw
  obtain ⟨⟨q85_0, q85_1, q85_2⟩, q85_3, q85_4, q85_5⟩ := boxD (box_later E8 (later j75 (later j78 (later j81 j84))) s73)
  go_wp2_with fail
  refine (is_yes v83 true G8 m8 o8 2 0 (ints_on I8 (later j72 (later j75 (later j78 (later j81 j84))))) (-2) (by decide) (by decide) rfl rfl).mono ?_
  rintro e' v86 ⟨rfl, j87⟩
  clear q85_0 q85_1 q85_2 q85_3 q85_4 q85_5
  try clear hw
  go_wp2
  go_ret
  exact ⟨rfl, (later j2 (later j4 (later j6 (later j8 (later j11 (later j13 (later j15 (later j17 (later j20 (later j22 (later j24 (later j26 (later j29 (later j31 (later j33 (later jt (later jt2 (later j5 (later j38 (later j40 (later j45 (later j47 (later j52 (later j54 (later j57 (later j59 (later j61 (later j63 (later j66 (later j68 (later j70 (later j72 (later j75 (later j78 (later j81 (later j84 j87))))))))))))))))))))))))))))))))))))⟩
end Dy
end Go.Proofs.Ytbbnbgllgomolaa
