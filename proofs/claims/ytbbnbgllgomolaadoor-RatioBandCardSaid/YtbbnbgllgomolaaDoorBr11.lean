/- The law RatioBand: a walk (printed by a program of mine). -/
import Derived.Test.YtbbnbgllgomolaaDoorBr09
import Derived.Test.YtbbnbgllgomolaaDoorBr10
namespace Go.Proofs.YtbbnbgllgomolaaDoor
open Go.RowKit
namespace Dy
open Dp
/-- How the codes of a quotient down and up stand. -/
theorem codes_two {s1 : Bool} {xs1 : List Int} {e1 : Int} {s2 : Bool} {xs2 : List Int} {e2 k : Int} {aw bw : Bool} {x y : Dn} {e f : Int} (hx : toX s1 xs1 e1 s2 xs2 e2 k aw = (x, e)) (hy : toX s1 xs1 e1 s2 xs2 e2 k bw = (y, f)) :
    (e = 0 ∧ f = 0) ∨ (e = 0 ∧ f = 10) ∨ (e = 10 ∧ f = 0) ∨ (e = 10 ∧ f = 10) ∨ (e = 2 ∧ f = 2 ∧ askX s1 xs1 e1 s2 xs2 e2 k = 2) ∨ (e = 8 ∧ f = 8 ∧ askX s1 xs1 e1 s2 xs2 e2 k = 8) := by
  rcases ask_two s1 xs1 e1 s2 xs2 e2 k with h | h | h <;> rcases toX_code hx with ⟨h1, h2⟩ | ⟨h1, h2⟩ <;> rcases toX_code hy with ⟨h3, h4⟩ | ⟨h3, h4⟩ <;> omega
theorem zero_ne_part (k : Nat) : Pa.Dy.same ⟨(partD k).neg, canon 4294967296 (partD k).m, (partD k).e⟩ ⟨false, canon 4294967296 0, 0⟩ = false := by
  have := same_dn (partD k) Dn.zero
  refine this.trans (decide_eq_false fun e => ?_)
  have := congrArg Dn.m e
  cases this
theorem ask_of {s1 : Bool} {xs1 : List Int} {e1 : Int} {s2 : Bool} {xs2 : List Int} {e2 k : Int} {away : Bool} {x : Dn} (h : toX s1 xs1 e1 s2 xs2 e2 k away = (x, 0)) : askX s1 xs1 e1 s2 xs2 e2 k = 0 := by
  rcases toX_code h with ⟨h1, _⟩ | ⟨_, h2⟩
  · exact h1
  · exact absurd rfl h2
set_option maxHeartbeats 12800000 in
set_option maxRecDepth 100000 in
theorem band_walk (w : World) (s1 : Bool) (A1 : Option Addr) (n1 c1 : Nat) (xs1 : List Int) (e1 : Int) (I1 : Ints w 0 w.heap.size .u32 A1 n1 xs1) (s2 : Bool) (A2 : Option Addr) (n2 c2 : Nat) (xs2 : List Int) (e2 : Int) (I2 : Ints w 0 w.heap.size .u32 A2 n2 xs2) (k : Int) (hT : Tab w) :
    Calls Tryd.prog 5 #[.agg #[.bool s1, .slice A1 n1 c1, .int .i64 e1], .agg #[.bool s2, .slice A2 n2 c2, .int .i64 e2], .int .i64 k] w (Yes w) := by
  have d1 := Lib.hid (dig_ints I1)
  have d2 := Lib.hid (dig_ints I2)
  have l1 := Lib.hid I1.len
  have l2 := Lib.hid I2.len
  generalize hw : (w.alloc (.cells #[.bool s1, .slice A1 n1 c1, .int .i64 e1] 24)).alloc (.cells #[.bool s2, .slice A2 n2 c2, .int .i64 e2] 24) = w1
  have a1 : Amid w w1 := by rw [← hw]; exact (Amid.alloc ⟨Below.refl _ _, hT⟩ _).alloc _
  have sz : w1.heap.size = w.heap.size + 2 := by rw [← hw]; simp
  have B1 : w1.heap[w.heap.size]? = some (.cells #[.bool s1, .slice A1 n1 c1, .int .i64 e1] 24 (0, 0)) := by
    rw [← hw, Below.heap_alloc _ _ _ (by simp)]
    exact heap_alloc_last _ _
  have B2 : w1.heap[w.heap.size + 1]? = some (.cells #[.bool s2, .slice A2 n2 c2, .int .i64 e2] 24 (0, 0)) := by
    rw [← hw]
    exact heap_alloc2_new _ _ _
  have S1 : w.heap.size < w1.heap.size := by omega
  have S2 : w.heap.size + 1 < w1.heap.size := by omega
  replace I1 : Ints w1 0 w1.heap.size .u32 A1 n1 xs1 := (I1.below a1.below (Nat.le_refl _)).more (Nat.le_refl _) (by omega)
  replace I2 : Ints w1 0 w1.heap.size .u32 A2 n2 xs2 := (I2.below a1.below (Nat.le_refl _)).more (Nat.le_refl _) (by omega)
  clear sz
  go_enter Tryd.func5, Tryd.ntmps5
  go_wp2_with fail
  refine (aliveR_any w1 a1.tab).mono ?_
  rintro e' w2 ⟨rfl, hB⟩
  have a2 := a1.on hB
  replace B1 := boxOn B1 hB S1
  replace S1 := Nat.lt_of_lt_of_le S1 hB.size
  replace B2 := boxOn B2 hB S2
  replace S2 := Nat.lt_of_lt_of_le S2 hB.size
  replace I1 := ints_on I1 hB
  replace I2 := ints_on I2 hB
  try clear hw
  clear hB a1
  obtain ⟨⟨p1, q1, r1⟩, u1, v1, x1⟩ := boxD B1
  go_wp2_with fail
  obtain ⟨gr1, hgr1⟩ : ∃ gr, Pa.Dy.great ⟨s1, xs1, e1⟩ = gr := ⟨_, rfl⟩
  refine (Pa.rGreat_any w2 s1 A1 n1 c1 xs1 e1 l1.out gr1 hgr1).mono ?_
  rintro e' w3 ⟨rfl, hB⟩
  have a3 := a2.on hB
  replace B1 := boxOn B1 hB S1
  replace S1 := Nat.lt_of_lt_of_le S1 hB.size
  replace B2 := boxOn B2 hB S2
  replace S2 := Nat.lt_of_lt_of_le S2 hB.size
  replace I1 := ints_on I1 hB
  replace I2 := ints_on I2 hB
  clear p1 q1 r1 u1 v1 x1
  try clear hw
  clear hB a2
  clear hgr1
  cases gr1
  rotate_left
  · go_wp2
    go_ret
    exact ⟨rfl, a3.below⟩
  obtain ⟨⟨p2, q2, r2⟩, u2, v2, x2⟩ := boxD B2
  go_wp2_with fail
  obtain ⟨gr2, hgr2⟩ : ∃ gr, Pa.Dy.great ⟨s2, xs2, e2⟩ = gr := ⟨_, rfl⟩
  refine (Pa.rGreat_any w3 s2 A2 n2 c2 xs2 e2 l2.out gr2 hgr2).mono ?_
  rintro e' w4 ⟨rfl, hB⟩
  have a4 := a3.on hB
  replace B1 := boxOn B1 hB S1
  replace S1 := Nat.lt_of_lt_of_le S1 hB.size
  replace B2 := boxOn B2 hB S2
  replace S2 := Nat.lt_of_lt_of_le S2 hB.size
  replace I1 := ints_on I1 hB
  replace I2 := ints_on I2 hB
  clear p2 q2 r2 u2 v2 x2
  try clear hw
  clear hB a3
  clear hgr2
  cases gr2
  rotate_left
  · go_wp2
    go_ret
    exact ⟨rfl, a4.below⟩
  obtain ⟨x, e, hx⟩ : ∃ x e, toX s1 xs1 e1 s2 xs2 e2 k s1 = (x, e) := ⟨_, _, rfl⟩
  obtain ⟨y, f, hy⟩ : ∃ y f, toX s1 xs1 e1 s2 xs2 e2 k (!s1) = (y, f) := ⟨_, _, rfl⟩
  have HC := codes_two hx hy
  have HX := Lib.hid hx
  have HY := Lib.hid hy
  clear hx hy
  obtain ⟨⟨p1, q1, r1⟩, u1, v1, x1⟩ := boxD B1
  obtain ⟨⟨p2, q2, r2⟩, u2, v2, x2⟩ := boxD B2
  go_wp2_with fail
  refine (Floor_all w4 s1 s2 A1 A2 n1 c1 n2 c2 xs1 xs2 e1 e2 I1 I2 k x e HX.out).mono ?_
  rintro e' w5 ⟨G3, m3, o3, rfl, hc3, hB, hI⟩
  have a5 := a4.on hB
  replace B1 := boxOn B1 hB S1
  replace S1 := Nat.lt_of_lt_of_le S1 hB.size
  replace B2 := boxOn B2 hB S2
  replace S2 := Nat.lt_of_lt_of_le S2 hB.size
  replace I1 := ints_on I1 hB
  replace I2 := ints_on I2 hB
  have I3 := ints_all hI
  clear p1 q1 r1 u1 v1 x1 p2 q2 r2 u2 v2 x2
  try clear hw
  clear hB a4 hI
  have hB := (Below.refl w5.heap.size w5).alloc (Nat.le_refl _) (.cells #[.bool x.neg, .slice G3 m3 o3, .int .i64 x.e] 24)
  have B3 := heap_alloc_last w5 (.cells #[.bool x.neg, .slice G3 m3 o3, .int .i64 x.e] 24)
  have S3 : w5.heap.size < (w5.alloc (.cells #[.bool x.neg, .slice G3 m3 o3, .int .i64 x.e] 24)).heap.size := by simp
  have a6 := a5.on hB
  replace B1 := boxOn B1 hB S1
  replace S1 := Nat.lt_of_lt_of_le S1 hB.size
  replace B2 := boxOn B2 hB S2
  replace S2 := Nat.lt_of_lt_of_le S2 hB.size
  replace I1 := ints_on I1 hB
  replace I2 := ints_on I2 hB
  replace I3 := ints_on I3 hB
  generalize hw : (w5.alloc (.cells #[.bool x.neg, .slice G3 m3 o3, .int .i64 x.e] 24)) = w6 at *
  clear hB a5
  obtain ⟨⟨p1, q1, r1⟩, u1, v1, x1⟩ := boxD B1
  obtain ⟨⟨p2, q2, r2⟩, u2, v2, x2⟩ := boxD B2
  go_wp2_with fail
  refine (Ceil_all w6 s1 s2 A1 A2 n1 c1 n2 c2 xs1 xs2 e1 e2 I1 I2 k y f HY.out).mono ?_
  rintro e' w7 ⟨G4, m4, o4, rfl, hc4, hB, hI⟩
  have a7 := a6.on hB
  replace B1 := boxOn B1 hB S1
  replace S1 := Nat.lt_of_lt_of_le S1 hB.size
  replace B2 := boxOn B2 hB S2
  replace S2 := Nat.lt_of_lt_of_le S2 hB.size
  replace B3 := boxOn B3 hB S3
  replace S3 := Nat.lt_of_lt_of_le S3 hB.size
  replace I1 := ints_on I1 hB
  replace I2 := ints_on I2 hB
  replace I3 := ints_on I3 hB
  have I4 := ints_all hI
  clear p1 q1 r1 u1 v1 x1 p2 q2 r2 u2 v2 x2
  try clear hw
  clear hB a6 hI
  have hB := (Below.refl w7.heap.size w7).alloc (Nat.le_refl _) (.cells #[.bool y.neg, .slice G4 m4 o4, .int .i64 y.e] 24)
  have B4 := heap_alloc_last w7 (.cells #[.bool y.neg, .slice G4 m4 o4, .int .i64 y.e] 24)
  have S4 : w7.heap.size < (w7.alloc (.cells #[.bool y.neg, .slice G4 m4 o4, .int .i64 y.e] 24)).heap.size := by simp
  have a8 := a7.on hB
  replace B1 := boxOn B1 hB S1
  replace S1 := Nat.lt_of_lt_of_le S1 hB.size
  replace B2 := boxOn B2 hB S2
  replace S2 := Nat.lt_of_lt_of_le S2 hB.size
  replace B3 := boxOn B3 hB S3
  replace S3 := Nat.lt_of_lt_of_le S3 hB.size
  replace I1 := ints_on I1 hB
  replace I2 := ints_on I2 hB
  replace I3 := ints_on I3 hB
  replace I4 := ints_on I4 hB
  generalize hw : (w7.alloc (.cells #[.bool y.neg, .slice G4 m4 o4, .int .i64 y.e] 24)) = w8 at *
  clear hB a7
  clear hc3 hc4
  rcases HC with ⟨rfl, rfl⟩ | ⟨rfl, rfl⟩ | ⟨rfl, rfl⟩ | ⟨rfl, rfl⟩ | ⟨rfl, rfl, _⟩ | ⟨rfl, rfl, _⟩
  rotate_left
  · go_wp2
    go_ret
    exact ⟨rfl, a8.below⟩
  · go_wp2
    go_ret
    exact ⟨rfl, a8.below⟩
  · go_wp2
    go_ret
    exact ⟨rfl, a8.below⟩
  · go_wp2
    go_ret
    exact ⟨rfl, a8.below⟩
  · go_wp2
    go_ret
    exact ⟨rfl, a8.below⟩
  obtain ⟨k0, k1, L1, L2⟩ := band_law d1.out d2.out HX.out HY.out
  have L1' := Lib.hid L1
  have L2' := Lib.hid L2
  clear L1 L2
  go_wp2_with fail
  refine (Of_any w8 1 (by decide) (by decide) false 1 rfl rfl).mono ?_
  rintro e' w9 ⟨G5, m5, rfl, hB, hI⟩
  have a9 := a8.on hB
  replace B1 := boxOn B1 hB S1
  replace S1 := Nat.lt_of_lt_of_le S1 hB.size
  replace B2 := boxOn B2 hB S2
  replace S2 := Nat.lt_of_lt_of_le S2 hB.size
  replace B3 := boxOn B3 hB S3
  replace S3 := Nat.lt_of_lt_of_le S3 hB.size
  replace B4 := boxOn B4 hB S4
  replace S4 := Nat.lt_of_lt_of_le S4 hB.size
  replace I1 := ints_on I1 hB
  replace I2 := ints_on I2 hB
  replace I3 := ints_on I3 hB
  replace I4 := ints_on I4 hB
  have I5 := ints_all hI
  try clear hw
  clear hB hI a8
  have tbn := a9.tab
  have hB := (Below.refl w9.heap.size w9).alloc (Nat.le_refl _) (.cells #[.bool false, .slice G5 m5 m5, .int .i64 0] 24)
  have B5 := heap_alloc_last w9 (.cells #[.bool false, .slice G5 m5 m5, .int .i64 0] 24)
  have S5 : w9.heap.size < (w9.alloc (.cells #[.bool false, .slice G5 m5 m5, .int .i64 0] 24)).heap.size := by simp
  have J5 := ints_on I5 hB
  clear I5
  go_wp2_with fail
  generalize hw : (w9.alloc (.cells #[.bool false, .slice G5 m5 m5, .int .i64 0] 24)) = u0 at *
  clear hw
  have I0 := Lib.hid d1
  go_loopw [6, 13, 14, 15] (fun ok iv _ _ wr => ∃ i : Nat, ∃ G m o, iv = .int .i64 i ∧ ok = .bool false ∧ (i : Int) ≤ k ∧ Below w9.heap.size w9 wr ∧ wr.heap[w9.heap.size]? = some (.cells #[.bool false, .slice G m o, .int .i64 i] 24 (0, 0)) ∧ Ints wr 0 wr.heap.size .u32 G m (canon 4294967296 1) ∧ w9.heap.size < wr.heap.size) (fun _ iv _ _ _ => k.toNat - (intOf iv).toNat)
  case atStart => exact ⟨0, G5, m5, m5, rfl, rfl, k0, hB, B5, J5, S5⟩
  clear hB B5 J5 S5 I0
  case round =>
    obtain ⟨i, G, m, o, rfl, rfl, hi, hB, B5, J5, S5⟩ := hrel
    have tb := (a9.on hB).tab
    obtain ⟨⟨p5, q5, r5⟩, u5, v5, x5⟩ := boxD B5
    by_cases hlt : (i : Int) < k
    · go_wp2_with fail
      refine (Half_all wr false G m o _ i J5 tb (partD (i + 1)) 0 (half_part (by omega))).mono ?_
      rintro e' wa ⟨G6, m6, o6, rfl, hc6, hBa, hI⟩
      have b2 := hB.trans (hBa.mono (Nat.le_of_lt S5))
      replace B5 := boxOn B5 hBa S5
      have S5o := S5
      replace S5 := Nat.lt_of_lt_of_le S5 hBa.size
      have J6 := hI
      clear p5 q5 r5 u5 v5 x5 hBa hI hB tb J5
      have hB := (Below.refl wa.heap.size wa).alloc (Nat.le_refl _) (.cells #[.bool (partD (i + 1)).neg, .slice G6 m6 o6, .int .i64 (partD (i + 1)).e] 24)
      have B6 := heap_alloc_last wa (.cells #[.bool (partD (i + 1)).neg, .slice G6 m6 o6, .int .i64 (partD (i + 1)).e] 24)
      have b3 := b2.trans (hB.mono (Nat.le_of_lt S5))
      replace B5 := boxOn B5 hB S5
      replace S5 := Nat.lt_of_lt_of_le S5 hB.size
      replace J6 := J6.below hB (Nat.le_refl _)
      have S6 := hB.size
      generalize hw : (wa.alloc (.cells #[.bool (partD (i + 1)).neg, .slice G6 m6 o6, .int .i64 (partD (i + 1)).e] 24)) = wb at *
      clear hB b2
      obtain ⟨⟨p5, q5, r5⟩, u5, v5, x5⟩ := boxD B5
      obtain ⟨⟨p6, q6, r6⟩, u6, v6, x6⟩ := boxD B6
      obtain ⟨U, hU, hX, hbU, hfU, z1, z2⟩ := zputR B5 (.bool (partD (i + 1)).neg) (.slice G6 m6 o6) (.int .i64 (partD (i + 1)).e)
      go_wp2
      try rw [hU]
      try clear hw
      go_roundw
      case rel => exact ⟨i + 1, G6, m6, o6, by go_num, rfl, by omega, hbU _ _ b3 (Nat.le_refl _), hX, (intsR J6 (fun b h1 h2 => hfU b (by omega))).more (Nat.zero_le _) (by omega), by omega⟩
      case measure => simp [intOf]; omega
    · skip
      have hik := Lib.hid (show i = k.toNat by omega)
      obtain ⟨d, hd, hdc⟩ := L1'.out
      have HD := Lib.hid hd
      have HDC := Lib.hid hdc
      clear hd hdc L1' x5 v5 u5 r5 q5 p5 hi
      have hk1 : k ≤ 64 := k1
      obtain ⟨⟨q1_0, q1_1, q1_2⟩, q1_3, q1_4, q1_5⟩ := boxD (box_later B4 hB S4)
      obtain ⟨⟨q2_0, q2_1, q2_2⟩, q2_3, q2_4, q2_5⟩ := boxD (box_later B3 hB S3)
      go_wp2_with fail
      refine (Sub_all wr y.neg x.neg G4 G3 m4 o4 m3 o3 _ _ y.e x.e (ints_on I4 hB) (ints_on I3 hB) (tab_later tbn hB) d 0 HD.out).mono ?_
      rintro e' v3 ⟨G6, m6, o6, rfl, _, j4, I6⟩
      clear q1_0 q1_1 q1_2 q1_3 q1_4 q1_5 q2_0 q2_1 q2_2 q2_3 q2_4 q2_5
      try clear hw
      replace I6 := ints_all I6
      have j6 := (Below.refl v3.heap.size v3).alloc (Nat.le_refl _) (.cells #[.bool d.neg, .slice G6 m6 o6, .int .i64 d.e] 24)
      have B6 := heap_alloc_last v3 (.cells #[.bool d.neg, .slice G6 m6 o6, .int .i64 d.e] 24)
      have s7 : v3.heap.size < (v3.alloc (.cells #[.bool d.neg, .slice G6 m6 o6, .int .i64 d.e] 24)).heap.size := by simp
      generalize hw : v3.alloc (.cells #[.bool d.neg, .slice G6 m6 o6, .int .i64 d.e] 24) = v5 at *
      go_wp2_with fail
      rcases HDC.out with hd1 | hd1
      rotate_left
      · skip
        have H1 : Hid (Pa.Dy.same ⟨d.neg, canon 4294967296 d.m, d.e⟩ ⟨false, canon 4294967296 0, 0⟩ = false) := Lib.hid (by rw [hd1]; exact zero_ne_part _)
        have H2 : Hid (Pa.Dy.same ⟨d.neg, canon 4294967296 d.m, d.e⟩ ⟨false, canon 4294967296 1, i⟩ = true) := Lib.hid (by rw [hd1, hik.out]; exact same_true rfl rfl rfl)
        clear hd1 HDC
        try clear hw
        refine region_E (Keeps v5) [] (m := 14) (L := #[false, false, false, false, false, false, false, false, false, false, false, false, false, false]) (by kernel_rfl) (by rfl) (by rfl) ?_
        have j9 : Below v5.heap.size v5 v5.drew := (Below.refl _ _).drew
        generalize v5.drew = v8 at *
        refine pureE (i := 0) (L := #[true, false, false, false, false, false, false, false, false, false, false, false, false, false]) (v := ?_) rfl (by rfl) (by kernel_rfl) (by kernel_rfl) (by kernel_rfl) (fun _ _ _ h => h) (by rfl) ?hy1 ?rest1
        case hy1 => intro w; go_simp; (try with_reducible rfl)
        try simp only [Act.put, List.setIfInBounds_toArray, List.set_cons_zero, List.set_cons_succ]
        refine pureE (i := 1) (L := #[true, true, false, false, false, false, false, false, false, false, false, false, false, false]) (v := ?_) rfl (by rfl) (by kernel_rfl) (by kernel_rfl) (by kernel_rfl) (fun _ _ _ h => h) (by rfl) ?hy2 ?rest2
        case hy2 => intro w; go_simp; (try with_reducible rfl)
        try simp only [Act.put, List.setIfInBounds_toArray, List.set_cons_zero, List.set_cons_succ]
        refine pureE (i := 2) (L := #[true, true, true, false, false, false, false, false, false, false, false, false, false, false]) (v := ?_) rfl (by rfl) (by kernel_rfl) (by kernel_rfl) (by kernel_rfl) (fun _ _ _ h => h) (by rfl) ?hy3 ?rest3
        case hy3 => intro w; go_simp; (try with_reducible rfl)
        try simp only [Act.put, List.setIfInBounds_toArray, List.set_cons_zero, List.set_cons_succ]
        have kpy10 : Keeps v5 v8 := fun p hp => Below.block j9 p hp
        refine readE (i := 3) (L := #[true, true, true, true, false, false, false, false, false, false, false, false, false, false]) (v := .agg #[.bool d.neg, .slice G6 m6 o6, .int .i64 d.e]) rfl (by rfl) (by kernel_rfl) (by kernel_rfl) (by kernel_rfl) (fun _ _ _ h => h) (by assumption) (by rfl) ?y10 ?z11
        case y10 =>
          intro w' h1
          obtain ⟨⟨p1, p2, p3⟩, p4, p5, p6⟩ := boxD ((h1 _ s7).trans B6)
          go_simp
        try simp only [Act.put, List.setIfInBounds_toArray, List.set_cons_zero, List.set_cons_succ]
        refine stepK (i := 4) (L := #[true, true, true, true, true, false, false, false, false, false, false, false, false, false]) rfl (by rfl) (by kernel_rfl) (by rfl) (fun K hK => ?_)
        go_simp
        go_at_call 25
        refine (Of_any v8 0 (by decide) (by decide) false 0 rfl rfl).mono ?_
        rintro e' v12 ⟨X9, n9, rfl, j13, I9⟩
        replace I9 := ints_all I9
        refine hK _ _ ⟨fun _ _ => fun p hp => Below.block (later j9 j13) p hp, ?_⟩
        clear hK K
        try simp only [Act.put, List.setIfInBounds_toArray, List.set_cons_zero, List.set_cons_succ]
        refine stepK (i := 5) (L := #[true, true, true, true, true, true, false, false, false, false, false, false, false, false]) rfl (by rfl) (by kernel_rfl) (by rfl) (fun K hK => ?_)
        go_simp
        go_at_call 23
        refine (Pa.dyadSame_any v12 _ _ _ _ _ _ _ _ _ _ _ _ (ints_on I6 (later j6 (later j9 j13))) I9 false H1.out).mono ?_
        rintro e' v14 ⟨rfl, j15⟩
        refine hK _ _ ⟨fun _ _ => fun p hp => Below.block (later j9 (later j13 j15)) p hp, ?_⟩
        clear hK K
        try simp only [Act.put, List.setIfInBounds_toArray, List.set_cons_zero, List.set_cons_succ]
        refine pureE (i := 6) (L := #[true, true, true, true, true, true, true, false, false, false, false, false, false, false]) (v := ?_) rfl (by rfl) (by kernel_rfl) (by kernel_rfl) (by kernel_rfl) (fun _ _ _ h => h) (by rfl) ?hy7 ?rest7
        case hy7 => intro w; go_simp; (try with_reducible rfl)
        try simp only [Act.put, List.setIfInBounds_toArray, List.set_cons_zero, List.set_cons_succ]
        refine pureE (i := 7) (L := #[true, true, true, true, true, true, true, true, false, false, false, false, false, false]) (v := ?_) rfl (by rfl) (by kernel_rfl) (by kernel_rfl) (by kernel_rfl) (fun _ _ _ h => h) (by rfl) ?hy8 ?rest8
        case hy8 => intro w; go_simp; (try with_reducible rfl)
        try simp only [Act.put, List.setIfInBounds_toArray, List.set_cons_zero, List.set_cons_succ]
        have kpy16 : Keeps v5 v14 := fun p hp => Below.block (later j9 (later j13 j15)) p hp
        refine readE (i := 8) (L := #[true, true, true, true, true, true, true, true, true, false, false, false, false, false]) (v := .agg #[.bool d.neg, .slice G6 m6 o6, .int .i64 d.e]) rfl (by rfl) (by kernel_rfl) (by kernel_rfl) (by kernel_rfl) (fun _ _ _ h => h) (by assumption) (by rfl) ?y16 ?z17
        case y16 =>
          intro w' h1
          obtain ⟨⟨p1, p2, p3⟩, p4, p5, p6⟩ := boxD ((h1 _ s7).trans B6)
          go_simp
        try simp only [Act.put, List.setIfInBounds_toArray, List.set_cons_zero, List.set_cons_succ]
        have kpy18 : Keeps v5 v14 := fun p hp => Below.block (later j9 (later j13 j15)) p hp
        refine readE (i := 9) (L := #[true, true, true, true, true, true, true, true, true, true, false, false, false, false]) (v := .agg #[.bool false, .slice G m o, .int .i64 i]) rfl (by rfl) (by kernel_rfl) (by kernel_rfl) (by kernel_rfl) (fun _ _ _ h => h) (by assumption) (by rfl) ?y18 ?z19
        case y18 =>
          intro w' h1
          obtain ⟨⟨p1, p2, p3⟩, p4, p5, p6⟩ := boxD ((h1 _ (Nat.lt_of_lt_of_le S5 (Below.size (later j4 j6)))).trans (box_later B5 (later j4 j6) S5))
          go_simp
        try simp only [Act.put, List.setIfInBounds_toArray, List.set_cons_zero, List.set_cons_succ]
        refine stepK (i := 10) (L := #[true, true, true, true, true, true, true, true, true, true, true, false, false, false]) rfl (by rfl) (by kernel_rfl) (by rfl) (fun K hK => ?_)
        go_simp
        go_at_call 23
        refine (Pa.dyadSame_any v14 _ _ _ _ _ _ _ _ _ _ _ _ (ints_on I6 (later j6 (later j9 (later j13 j15)))) (ints_on J5 (later j4 (later j6 (later j9 (later j13 j15))))) true H2.out).mono ?_
        rintro e' v20 ⟨rfl, j21⟩
        refine hK _ _ ⟨fun _ _ => fun p hp => Below.block (later j9 (later j13 (later j15 j21))) p hp, ?_⟩
        clear hK K
        try simp only [Act.put, List.setIfInBounds_toArray, List.set_cons_zero, List.set_cons_succ]
        refine pureE (i := 11) (L := #[true, true, true, true, true, true, true, true, true, true, true, true, false, false]) (v := ?_) rfl (by rfl) (by kernel_rfl) (by kernel_rfl) (by kernel_rfl) (fun _ _ _ h => h) (by rfl) ?hy12 ?rest12
        case hy12 => intro w; go_simp; (try with_reducible rfl)
        try simp only [Act.put, List.setIfInBounds_toArray, List.set_cons_zero, List.set_cons_succ]
        refine pureE (i := 12) (L := #[true, true, true, true, true, true, true, true, true, true, true, true, true, false]) (v := ?_) rfl (by rfl) (by kernel_rfl) (by kernel_rfl) (by kernel_rfl) (fun _ _ _ h => h) (by rfl) ?hy13 ?rest13
        case hy13 => intro w; go_simp; (try with_reducible rfl)
        try simp only [Act.put, List.setIfInBounds_toArray, List.set_cons_zero, List.set_cons_succ]
        refine pureE (i := 13) (L := #[true, true, true, true, true, true, true, true, true, true, true, true, true, true]) (v := ?_) rfl (by rfl) (by kernel_rfl) (by kernel_rfl) (by kernel_rfl) (fun _ _ _ h => h) (by rfl) ?hy14 ?rest14
        case hy14 => intro w; go_simp; (try with_reducible rfl)
        try simp only [Act.put, List.setIfInBounds_toArray, List.set_cons_zero, List.set_cons_succ]
        refine doneE (by kernel_rfl) ?_ _
        obtain ⟨p, h, hp⟩ : ∃ p h, toX s1 xs1 e1 s2 xs2 e2 (k + 1) s1 = (p, h) := ⟨_, _, rfl⟩
        obtain ⟨q, l, hq⟩ : ∃ q l, toX s1 xs1 e1 s2 xs2 e2 (k + 1) (!s1) = (q, l) := ⟨_, _, rfl⟩
        have HC := codes_two hp hq
        have HP := Lib.hid hp
        have HQ := Lib.hid hq
        clear hp hq
        obtain ⟨⟨q22_0, q22_1, q22_2⟩, q22_3, q22_4, q22_5⟩ := boxD (box_later B1 (later hB (later j4 (later j6 (later j9 (later j13 (later j15 j21)))))) S1)
        obtain ⟨⟨q23_0, q23_1, q23_2⟩, q23_3, q23_4, q23_5⟩ := boxD (box_later B2 (later hB (later j4 (later j6 (later j9 (later j13 (later j15 j21)))))) S2)
        go_wp2_with fail
        refine (Floor_all v20 s1 s2 A1 A2 n1 c1 n2 c2 xs1 xs2 e1 e2 (ints_on I1 (later hB (later j4 (later j6 (later j9 (later j13 (later j15 j21))))))) (ints_on I2 (later hB (later j4 (later j6 (later j9 (later j13 (later j15 j21))))))) (k + 1) p h HP.out).mono ?_
        rintro e' v24 ⟨G7, m7, o7, rfl, _, j25, I7⟩
        clear q22_0 q22_1 q22_2 q22_3 q22_4 q22_5 q23_0 q23_1 q23_2 q23_3 q23_4 q23_5
        try clear hw
        replace I7 := ints_all I7
        have j27 := (Below.refl v24.heap.size v24).alloc (Nat.le_refl _) (.cells #[.bool p.neg, .slice G7 m7 o7, .int .i64 p.e] 24)
        have B7 := heap_alloc_last v24 (.cells #[.bool p.neg, .slice G7 m7 o7, .int .i64 p.e] 24)
        have s28 : v24.heap.size < (v24.alloc (.cells #[.bool p.neg, .slice G7 m7 o7, .int .i64 p.e] 24)).heap.size := by simp
        generalize hw : v24.alloc (.cells #[.bool p.neg, .slice G7 m7 o7, .int .i64 p.e] 24) = v26 at *
        obtain ⟨⟨q29_0, q29_1, q29_2⟩, q29_3, q29_4, q29_5⟩ := boxD (box_later B1 (later hB (later j4 (later j6 (later j9 (later j13 (later j15 (later j21 (later j25 j27)))))))) S1)
        obtain ⟨⟨q30_0, q30_1, q30_2⟩, q30_3, q30_4, q30_5⟩ := boxD (box_later B2 (later hB (later j4 (later j6 (later j9 (later j13 (later j15 (later j21 (later j25 j27)))))))) S2)
        go_wp2_with fail
        refine (Ceil_all v26 s1 s2 A1 A2 n1 c1 n2 c2 xs1 xs2 e1 e2 (ints_on I1 (later hB (later j4 (later j6 (later j9 (later j13 (later j15 (later j21 (later j25 j27))))))))) (ints_on I2 (later hB (later j4 (later j6 (later j9 (later j13 (later j15 (later j21 (later j25 j27))))))))) (k + 1) q l HQ.out).mono ?_
        rintro e' v31 ⟨G8, m8, o8, rfl, _, j32, I8⟩
        clear q29_0 q29_1 q29_2 q29_3 q29_4 q29_5 q30_0 q30_1 q30_2 q30_3 q30_4 q30_5
        try clear hw
        replace I8 := ints_all I8
        have j34 := (Below.refl v31.heap.size v31).alloc (Nat.le_refl _) (.cells #[.bool q.neg, .slice G8 m8 o8, .int .i64 q.e] 24)
        have B8 := heap_alloc_last v31 (.cells #[.bool q.neg, .slice G8 m8 o8, .int .i64 q.e] 24)
        have s35 : v31.heap.size < (v31.alloc (.cells #[.bool q.neg, .slice G8 m8 o8, .int .i64 q.e] 24)).heap.size := by simp
        generalize hw : v31.alloc (.cells #[.bool q.neg, .slice G8 m8 o8, .int .i64 q.e] 24) = v33 at *
        rcases HC with ⟨rfl, rfl⟩ | ⟨rfl, rfl⟩ | ⟨rfl, rfl⟩ | ⟨rfl, rfl⟩ | ⟨rfl, rfl, h2⟩ | ⟨rfl, rfl, h8⟩
        rotate_left
        · go_wp2
          all_goals (go_ret; exact ⟨rfl, (later a9.below (later hB (later j4 (later j6 (later j9 (later j13 (later j15 (later j21 (later j25 (later j27 (later j32 j34)))))))))))⟩)
        · go_wp2
          all_goals (go_ret; exact ⟨rfl, (later a9.below (later hB (later j4 (later j6 (later j9 (later j13 (later j15 (later j21 (later j25 (later j27 (later j32 j34)))))))))))⟩)
        · go_wp2
          all_goals (go_ret; exact ⟨rfl, (later a9.below (later hB (later j4 (later j6 (later j9 (later j13 (later j15 (later j21 (later j25 (later j27 (later j32 j34)))))))))))⟩)
        · by_cases hk : k = 64
          · subst hk
            go_wp2
            go_ret
            exact ⟨rfl, (later a9.below (later hB (later j4 (later j6 (later j9 (later j13 (later j15 (later j21 (later j25 (later j27 (later j32 j34)))))))))))⟩
          · exfalso
            have := ask_more (ask_of HX.out) (by omega)
            omega
        · by_cases hk : k = 64
          · subst hk
            go_wp2
            go_ret
            exact ⟨rfl, (later a9.below (later hB (later j4 (later j6 (later j9 (later j13 (later j15 (later j21 (later j25 (later j27 (later j32 j34)))))))))))⟩
          · exfalso
            have := ask_more (ask_of HX.out) (by omega)
            omega
        obtain ⟨nn, mm, hn, hm, hn0, hm0, hall⟩ := L2'.out _ _ HP.out HQ.out
        have HN := Lib.hid hn
        have HM := Lib.hid hm
        have HALL := Lib.hid hall
        clear hn hm hall
        obtain ⟨⟨q36_0, q36_1, q36_2⟩, q36_3, q36_4, q36_5⟩ := boxD (box_later B3 (later hB (later j4 (later j6 (later j9 (later j13 (later j15 (later j21 (later j25 (later j27 (later j32 j34)))))))))) S3)
        obtain ⟨⟨q37_0, q37_1, q37_2⟩, q37_3, q37_4, q37_5⟩ := boxD (box_later B7 (later j32 j34) s28)
        go_wp2_with fail
        refine (Cmp_all v33 x.neg p.neg G3 G7 m3 o3 m7 o7 _ _ x.e p.e (ints_on I3 (later hB (later j4 (later j6 (later j9 (later j13 (later j15 (later j21 (later j25 (later j27 (later j32 j34))))))))))) (ints_on I7 (later j27 (later j32 j34))) (tab_later tbn (later hB (later j4 (later j6 (later j9 (later j13 (later j15 (later j21 (later j25 (later j27 (later j32 j34))))))))))) nn 0 HN.out).mono ?_
        rintro e' v38 ⟨rfl, j39⟩
        clear q36_0 q36_1 q36_2 q36_3 q36_4 q36_5 q37_0 q37_1 q37_2 q37_3 q37_4 q37_5
        try clear hw
        obtain ⟨⟨q40_0, q40_1, q40_2⟩, q40_3, q40_4, q40_5⟩ := boxD (box_later B8 j39 s35)
        obtain ⟨⟨q41_0, q41_1, q41_2⟩, q41_3, q41_4, q41_5⟩ := boxD (box_later B4 (later hB (later j4 (later j6 (later j9 (later j13 (later j15 (later j21 (later j25 (later j27 (later j32 (later j34 j39))))))))))) S4)
        go_wp2_with fail
        refine (Cmp_all v38 q.neg y.neg G8 G4 m8 o8 m4 o4 _ _ q.e y.e (ints_on I8 (later j34 j39)) (ints_on I4 (later hB (later j4 (later j6 (later j9 (later j13 (later j15 (later j21 (later j25 (later j27 (later j32 (later j34 j39)))))))))))) (tab_later tbn (later hB (later j4 (later j6 (later j9 (later j13 (later j15 (later j21 (later j25 (later j27 (later j32 (later j34 j39)))))))))))) mm 0 HM.out).mono ?_
        rintro e' v42 ⟨rfl, j43⟩
        clear q40_0 q40_1 q40_2 q40_3 q40_4 q40_5 q41_0 q41_1 q41_2 q41_3 q41_4 q41_5
        try clear hw
        have hnb : decide (nn ≤ 0) = true := decide_eq_true hn0
        have hmb : decide (mm ≤ 0) = true := decide_eq_true hm0
        have SXY := Lib.hid (same_dn x y)
        by_cases hxy : x = y
        · skip
          have h1 : Pa.Dy.same ⟨x.neg, canon 4294967296 x.m, x.e⟩ ⟨y.neg, canon 4294967296 y.m, y.e⟩ = true := by rw [SXY.out]; exact decide_eq_true hxy
          have H1 := Lib.hid h1
          clear h1
          obtain ⟨e1_, e2_⟩ := HALL.out hxy
          have E1 := Lib.hid e1_
          have E2 := Lib.hid e2_
          clear e1_ e2_ hxy
          obtain ⟨⟨q44_0, q44_1, q44_2⟩, q44_3, q44_4, q44_5⟩ := boxD (box_later B3 (later hB (later j4 (later j6 (later j9 (later j13 (later j15 (later j21 (later j25 (later j27 (later j32 (later j34 (later j39 j43)))))))))))) S3)
          obtain ⟨⟨q45_0, q45_1, q45_2⟩, q45_3, q45_4, q45_5⟩ := boxD (box_later B4 (later hB (later j4 (later j6 (later j9 (later j13 (later j15 (later j21 (later j25 (later j27 (later j32 (later j34 (later j39 j43)))))))))))) S4)
          go_wp2_with fail
          refine (Pa.dyadSame_any v42 _ _ _ _ _ _ _ _ _ _ _ _ (ints_on I3 (later hB (later j4 (later j6 (later j9 (later j13 (later j15 (later j21 (later j25 (later j27 (later j32 (later j34 (later j39 j43))))))))))))) (ints_on I4 (later hB (later j4 (later j6 (later j9 (later j13 (later j15 (later j21 (later j25 (later j27 (later j32 (later j34 (later j39 j43))))))))))))) true H1.out).mono ?_
          rintro e' v46 ⟨rfl, j47⟩
          clear q44_0 q44_1 q44_2 q44_3 q44_4 q44_5 q45_0 q45_1 q45_2 q45_3 q45_4 q45_5
          try clear hw
          obtain ⟨⟨q48_0, q48_1, q48_2⟩, q48_3, q48_4, q48_5⟩ := boxD (box_later B7 (later j32 (later j34 (later j39 (later j43 j47)))) s28)
          obtain ⟨⟨q49_0, q49_1, q49_2⟩, q49_3, q49_4, q49_5⟩ := boxD (box_later B8 (later j39 (later j43 j47)) s35)
          go_wp2_with fail
          refine (Pa.dyadSame_any v46 _ _ _ _ _ _ _ _ _ _ _ _ (ints_on I7 (later j27 (later j32 (later j34 (later j39 (later j43 j47)))))) (ints_on I8 (later j34 (later j39 (later j43 j47)))) true (same_res E1.out rfl rfl rfl rfl rfl rfl)).mono ?_
          rintro e' v50 ⟨rfl, j51⟩
          clear q48_0 q48_1 q48_2 q48_3 q48_4 q48_5 q49_0 q49_1 q49_2 q49_3 q49_4 q49_5
          try clear hw
          obtain ⟨⟨q52_0, q52_1, q52_2⟩, q52_3, q52_4, q52_5⟩ := boxD (box_later B7 (later j32 (later j34 (later j39 (later j43 (later j47 j51))))) s28)
          obtain ⟨⟨q53_0, q53_1, q53_2⟩, q53_3, q53_4, q53_5⟩ := boxD (box_later B3 (later hB (later j4 (later j6 (later j9 (later j13 (later j15 (later j21 (later j25 (later j27 (later j32 (later j34 (later j39 (later j43 (later j47 j51)))))))))))))) S3)
          go_wp2_with fail
          refine (Pa.dyadSame_any v50 _ _ _ _ _ _ _ _ _ _ _ _ (ints_on I7 (later j27 (later j32 (later j34 (later j39 (later j43 (later j47 j51))))))) (ints_on I3 (later hB (later j4 (later j6 (later j9 (later j13 (later j15 (later j21 (later j25 (later j27 (later j32 (later j34 (later j39 (later j43 (later j47 j51))))))))))))))) true (same_res E2.out rfl rfl rfl rfl rfl rfl)).mono ?_
          rintro e' v54 ⟨rfl, j55⟩
          clear q52_0 q52_1 q52_2 q52_3 q52_4 q52_5 q53_0 q53_1 q53_2 q53_3 q53_4 q53_5
          try clear hw
          go_wp2
          go_ret
          exact ⟨rfl, (later a9.below (later hB (later j4 (later j6 (later j9 (later j13 (later j15 (later j21 (later j25 (later j27 (later j32 (later j34 (later j39 (later j43 (later j47 (later j51 j55))))))))))))))))⟩
        · skip
          have h1 : Pa.Dy.same ⟨x.neg, canon 4294967296 x.m, x.e⟩ ⟨y.neg, canon 4294967296 y.m, y.e⟩ = false := by rw [SXY.out]; exact decide_eq_false hxy
          have H1 := Lib.hid h1
          clear h1
          obtain ⟨⟨q56_0, q56_1, q56_2⟩, q56_3, q56_4, q56_5⟩ := boxD (box_later B3 (later hB (later j4 (later j6 (later j9 (later j13 (later j15 (later j21 (later j25 (later j27 (later j32 (later j34 (later j39 j43)))))))))))) S3)
          obtain ⟨⟨q57_0, q57_1, q57_2⟩, q57_3, q57_4, q57_5⟩ := boxD (box_later B4 (later hB (later j4 (later j6 (later j9 (later j13 (later j15 (later j21 (later j25 (later j27 (later j32 (later j34 (later j39 j43)))))))))))) S4)
          go_wp2_with fail
          refine (Pa.dyadSame_any v42 _ _ _ _ _ _ _ _ _ _ _ _ (ints_on I3 (later hB (later j4 (later j6 (later j9 (later j13 (later j15 (later j21 (later j25 (later j27 (later j32 (later j34 (later j39 j43))))))))))))) (ints_on I4 (later hB (later j4 (later j6 (later j9 (later j13 (later j15 (later j21 (later j25 (later j27 (later j32 (later j34 (later j39 j43))))))))))))) false H1.out).mono ?_
          rintro e' v58 ⟨rfl, j59⟩
          clear q56_0 q56_1 q56_2 q56_3 q56_4 q56_5 q57_0 q57_1 q57_2 q57_3 q57_4 q57_5
          try clear hw
          go_wp2
          go_ret
          exact ⟨rfl, (later a9.below (later hB (later j4 (later j6 (later j9 (later j13 (later j15 (later j21 (later j25 (later j27 (later j32 (later j34 (later j39 (later j43 j59))))))))))))))⟩
      · skip
        have H1 : Hid (Pa.Dy.same ⟨d.neg, canon 4294967296 d.m, d.e⟩ ⟨false, canon 4294967296 0, 0⟩ = true) := Lib.hid (by rw [hd1]; exact same_true rfl rfl rfl)
        clear hd1 HDC
        try clear hw
        refine region_E (Keeps v5) [] (m := 14) (L := #[false, false, false, false, false, false, false, false, false, false, false, false, false, false]) (by kernel_rfl) (by rfl) (by rfl) ?_
        have j61 : Below v5.heap.size v5 v5.drew := (Below.refl _ _).drew
        generalize v5.drew = v60 at *
        refine pureE (i := 0) (L := #[true, false, false, false, false, false, false, false, false, false, false, false, false, false]) (v := ?_) rfl (by rfl) (by kernel_rfl) (by kernel_rfl) (by kernel_rfl) (fun _ _ _ h => h) (by rfl) ?hy15 ?rest15
        case hy15 => intro w; go_simp; (try with_reducible rfl)
        try simp only [Act.put, List.setIfInBounds_toArray, List.set_cons_zero, List.set_cons_succ]
        refine pureE (i := 1) (L := #[true, true, false, false, false, false, false, false, false, false, false, false, false, false]) (v := ?_) rfl (by rfl) (by kernel_rfl) (by kernel_rfl) (by kernel_rfl) (fun _ _ _ h => h) (by rfl) ?hy16 ?rest16
        case hy16 => intro w; go_simp; (try with_reducible rfl)
        try simp only [Act.put, List.setIfInBounds_toArray, List.set_cons_zero, List.set_cons_succ]
        refine pureE (i := 2) (L := #[true, true, true, false, false, false, false, false, false, false, false, false, false, false]) (v := ?_) rfl (by rfl) (by kernel_rfl) (by kernel_rfl) (by kernel_rfl) (fun _ _ _ h => h) (by rfl) ?hy17 ?rest17
        case hy17 => intro w; go_simp; (try with_reducible rfl)
        try simp only [Act.put, List.setIfInBounds_toArray, List.set_cons_zero, List.set_cons_succ]
        have kpy62 : Keeps v5 v60 := fun p hp => Below.block j61 p hp
        refine readE (i := 3) (L := #[true, true, true, true, false, false, false, false, false, false, false, false, false, false]) (v := .agg #[.bool d.neg, .slice G6 m6 o6, .int .i64 d.e]) rfl (by rfl) (by kernel_rfl) (by kernel_rfl) (by kernel_rfl) (fun _ _ _ h => h) (by assumption) (by rfl) ?y62 ?z63
        case y62 =>
          intro w' h1
          obtain ⟨⟨p1, p2, p3⟩, p4, p5, p6⟩ := boxD ((h1 _ s7).trans B6)
          go_simp
        try simp only [Act.put, List.setIfInBounds_toArray, List.set_cons_zero, List.set_cons_succ]
        refine stepK (i := 4) (L := #[true, true, true, true, true, false, false, false, false, false, false, false, false, false]) rfl (by rfl) (by kernel_rfl) (by rfl) (fun K hK => ?_)
        go_simp
        go_at_call 25
        refine (Of_any v60 0 (by decide) (by decide) false 0 rfl rfl).mono ?_
        rintro e' v64 ⟨X9, n9, rfl, j65, I9⟩
        replace I9 := ints_all I9
        refine hK _ _ ⟨fun _ _ => fun p hp => Below.block (later j61 j65) p hp, ?_⟩
        clear hK K
        try simp only [Act.put, List.setIfInBounds_toArray, List.set_cons_zero, List.set_cons_succ]
        refine stepK (i := 5) (L := #[true, true, true, true, true, true, false, false, false, false, false, false, false, false]) rfl (by rfl) (by kernel_rfl) (by rfl) (fun K hK => ?_)
        go_simp
        go_at_call 23
        refine (Pa.dyadSame_any v64 _ _ _ _ _ _ _ _ _ _ _ _ (ints_on I6 (later j6 (later j61 j65))) I9 true H1.out).mono ?_
        rintro e' v66 ⟨rfl, j67⟩
        refine hK _ _ ⟨fun _ _ => fun p hp => Below.block (later j61 (later j65 j67)) p hp, ?_⟩
        clear hK K
        try simp only [Act.put, List.setIfInBounds_toArray, List.set_cons_zero, List.set_cons_succ]
        refine pureE (i := 6) (L := #[true, true, true, true, true, true, true, false, false, false, false, false, false, false]) (v := ?_) rfl (by rfl) (by kernel_rfl) (by kernel_rfl) (by kernel_rfl) (fun _ _ _ h => h) (by rfl) ?hy21 ?rest21
        case hy21 => intro w; go_simp; (try with_reducible rfl)
        try simp only [Act.put, List.setIfInBounds_toArray, List.set_cons_zero, List.set_cons_succ]
        refine pureE (i := 7) (L := #[true, true, true, true, true, true, true, true, false, false, false, false, false, false]) (v := ?_) rfl (by rfl) (by kernel_rfl) (by kernel_rfl) (by kernel_rfl) (fun _ _ _ h => h) (by rfl) ?hy22 ?rest22
        case hy22 => intro w; go_simp; (try with_reducible rfl)
        try simp only [Act.put, List.setIfInBounds_toArray, List.set_cons_zero, List.set_cons_succ]
        refine skipE (i := 8) (L := #[true, true, true, true, true, true, true, true, true, false, false, false, false, false]) rfl (by rfl) (by kernel_rfl) (by kernel_rfl) (by kernel_rfl) (fun _ _ _ h => h) (by rfl) ?_
        try simp only [Act.put, List.setIfInBounds_toArray, List.set_cons_zero, List.set_cons_succ]
        refine skipE (i := 9) (L := #[true, true, true, true, true, true, true, true, true, true, false, false, false, false]) rfl (by rfl) (by kernel_rfl) (by kernel_rfl) (by kernel_rfl) (fun _ _ _ h => h) (by rfl) ?_
        try simp only [Act.put, List.setIfInBounds_toArray, List.set_cons_zero, List.set_cons_succ]
        refine skipE (i := 10) (L := #[true, true, true, true, true, true, true, true, true, true, true, false, false, false]) rfl (by rfl) (by kernel_rfl) (by kernel_rfl) (by kernel_rfl) (fun _ _ _ h => h) (by rfl) ?_
        try simp only [Act.put, List.setIfInBounds_toArray, List.set_cons_zero, List.set_cons_succ]
        refine skipE (i := 11) (L := #[true, true, true, true, true, true, true, true, true, true, true, true, false, false]) rfl (by rfl) (by kernel_rfl) (by kernel_rfl) (by kernel_rfl) (fun _ _ _ h => h) (by rfl) ?_
        try simp only [Act.put, List.setIfInBounds_toArray, List.set_cons_zero, List.set_cons_succ]
        refine pureE (i := 12) (L := #[true, true, true, true, true, true, true, true, true, true, true, true, true, false]) (v := ?_) rfl (by rfl) (by kernel_rfl) (by kernel_rfl) (by kernel_rfl) (fun _ _ _ h => h) (by rfl) ?hy23 ?rest23
        case hy23 => intro w; go_simp; (try with_reducible rfl)
        try simp only [Act.put, List.setIfInBounds_toArray, List.set_cons_zero, List.set_cons_succ]
        refine pureE (i := 13) (L := #[true, true, true, true, true, true, true, true, true, true, true, true, true, true]) (v := ?_) rfl (by rfl) (by kernel_rfl) (by kernel_rfl) (by kernel_rfl) (fun _ _ _ h => h) (by rfl) ?hy24 ?rest24
        case hy24 => intro w; go_simp; (try with_reducible rfl)
        try simp only [Act.put, List.setIfInBounds_toArray, List.set_cons_zero, List.set_cons_succ]
        refine doneE (by kernel_rfl) ?_ _
        obtain ⟨p, h, hp⟩ : ∃ p h, toX s1 xs1 e1 s2 xs2 e2 (k + 1) s1 = (p, h) := ⟨_, _, rfl⟩
        obtain ⟨q, l, hq⟩ : ∃ q l, toX s1 xs1 e1 s2 xs2 e2 (k + 1) (!s1) = (q, l) := ⟨_, _, rfl⟩
        have HC := codes_two hp hq
        have HP := Lib.hid hp
        have HQ := Lib.hid hq
        clear hp hq
        obtain ⟨⟨q68_0, q68_1, q68_2⟩, q68_3, q68_4, q68_5⟩ := boxD (box_later B1 (later hB (later j4 (later j6 (later j61 (later j65 j67))))) S1)
        obtain ⟨⟨q69_0, q69_1, q69_2⟩, q69_3, q69_4, q69_5⟩ := boxD (box_later B2 (later hB (later j4 (later j6 (later j61 (later j65 j67))))) S2)
        go_wp2_with fail
        refine (Floor_all v66 s1 s2 A1 A2 n1 c1 n2 c2 xs1 xs2 e1 e2 (ints_on I1 (later hB (later j4 (later j6 (later j61 (later j65 j67)))))) (ints_on I2 (later hB (later j4 (later j6 (later j61 (later j65 j67)))))) (k + 1) p h HP.out).mono ?_
        rintro e' v70 ⟨G7, m7, o7, rfl, _, j71, I7⟩
        clear q68_0 q68_1 q68_2 q68_3 q68_4 q68_5 q69_0 q69_1 q69_2 q69_3 q69_4 q69_5
        try clear hw
        replace I7 := ints_all I7
        have j73 := (Below.refl v70.heap.size v70).alloc (Nat.le_refl _) (.cells #[.bool p.neg, .slice G7 m7 o7, .int .i64 p.e] 24)
        have B7 := heap_alloc_last v70 (.cells #[.bool p.neg, .slice G7 m7 o7, .int .i64 p.e] 24)
        have s74 : v70.heap.size < (v70.alloc (.cells #[.bool p.neg, .slice G7 m7 o7, .int .i64 p.e] 24)).heap.size := by simp
        generalize hw : v70.alloc (.cells #[.bool p.neg, .slice G7 m7 o7, .int .i64 p.e] 24) = v72 at *
        obtain ⟨⟨q75_0, q75_1, q75_2⟩, q75_3, q75_4, q75_5⟩ := boxD (box_later B1 (later hB (later j4 (later j6 (later j61 (later j65 (later j67 (later j71 j73))))))) S1)
        obtain ⟨⟨q76_0, q76_1, q76_2⟩, q76_3, q76_4, q76_5⟩ := boxD (box_later B2 (later hB (later j4 (later j6 (later j61 (later j65 (later j67 (later j71 j73))))))) S2)
        go_wp2_with fail
        refine (Ceil_all v72 s1 s2 A1 A2 n1 c1 n2 c2 xs1 xs2 e1 e2 (ints_on I1 (later hB (later j4 (later j6 (later j61 (later j65 (later j67 (later j71 j73)))))))) (ints_on I2 (later hB (later j4 (later j6 (later j61 (later j65 (later j67 (later j71 j73)))))))) (k + 1) q l HQ.out).mono ?_
        rintro e' v77 ⟨G8, m8, o8, rfl, _, j78, I8⟩
        clear q75_0 q75_1 q75_2 q75_3 q75_4 q75_5 q76_0 q76_1 q76_2 q76_3 q76_4 q76_5
        try clear hw
        replace I8 := ints_all I8
        have j80 := (Below.refl v77.heap.size v77).alloc (Nat.le_refl _) (.cells #[.bool q.neg, .slice G8 m8 o8, .int .i64 q.e] 24)
        have B8 := heap_alloc_last v77 (.cells #[.bool q.neg, .slice G8 m8 o8, .int .i64 q.e] 24)
        have s81 : v77.heap.size < (v77.alloc (.cells #[.bool q.neg, .slice G8 m8 o8, .int .i64 q.e] 24)).heap.size := by simp
        generalize hw : v77.alloc (.cells #[.bool q.neg, .slice G8 m8 o8, .int .i64 q.e] 24) = v79 at *
        rcases HC with ⟨rfl, rfl⟩ | ⟨rfl, rfl⟩ | ⟨rfl, rfl⟩ | ⟨rfl, rfl⟩ | ⟨rfl, rfl, h2⟩ | ⟨rfl, rfl, h8⟩
        rotate_left
        · go_wp2
          all_goals (go_ret; exact ⟨rfl, (later a9.below (later hB (later j4 (later j6 (later j61 (later j65 (later j67 (later j71 (later j73 (later j78 j80))))))))))⟩)
        · go_wp2
          all_goals (go_ret; exact ⟨rfl, (later a9.below (later hB (later j4 (later j6 (later j61 (later j65 (later j67 (later j71 (later j73 (later j78 j80))))))))))⟩)
        · go_wp2
          all_goals (go_ret; exact ⟨rfl, (later a9.below (later hB (later j4 (later j6 (later j61 (later j65 (later j67 (later j71 (later j73 (later j78 j80))))))))))⟩)
        · by_cases hk : k = 64
          · subst hk
            go_wp2
            go_ret
            exact ⟨rfl, (later a9.below (later hB (later j4 (later j6 (later j61 (later j65 (later j67 (later j71 (later j73 (later j78 j80))))))))))⟩
          · exfalso
            have := ask_more (ask_of HX.out) (by omega)
            omega
        · by_cases hk : k = 64
          · subst hk
            go_wp2
            go_ret
            exact ⟨rfl, (later a9.below (later hB (later j4 (later j6 (later j61 (later j65 (later j67 (later j71 (later j73 (later j78 j80))))))))))⟩
          · exfalso
            have := ask_more (ask_of HX.out) (by omega)
            omega
        obtain ⟨nn, mm, hn, hm, hn0, hm0, hall⟩ := L2'.out _ _ HP.out HQ.out
        have HN := Lib.hid hn
        have HM := Lib.hid hm
        have HALL := Lib.hid hall
        clear hn hm hall
        obtain ⟨⟨q82_0, q82_1, q82_2⟩, q82_3, q82_4, q82_5⟩ := boxD (box_later B3 (later hB (later j4 (later j6 (later j61 (later j65 (later j67 (later j71 (later j73 (later j78 j80))))))))) S3)
        obtain ⟨⟨q83_0, q83_1, q83_2⟩, q83_3, q83_4, q83_5⟩ := boxD (box_later B7 (later j78 j80) s74)
        go_wp2_with fail
        refine (Cmp_all v79 x.neg p.neg G3 G7 m3 o3 m7 o7 _ _ x.e p.e (ints_on I3 (later hB (later j4 (later j6 (later j61 (later j65 (later j67 (later j71 (later j73 (later j78 j80)))))))))) (ints_on I7 (later j73 (later j78 j80))) (tab_later tbn (later hB (later j4 (later j6 (later j61 (later j65 (later j67 (later j71 (later j73 (later j78 j80)))))))))) nn 0 HN.out).mono ?_
        rintro e' v84 ⟨rfl, j85⟩
        clear q82_0 q82_1 q82_2 q82_3 q82_4 q82_5 q83_0 q83_1 q83_2 q83_3 q83_4 q83_5
        try clear hw
        obtain ⟨⟨q86_0, q86_1, q86_2⟩, q86_3, q86_4, q86_5⟩ := boxD (box_later B8 j85 s81)
        obtain ⟨⟨q87_0, q87_1, q87_2⟩, q87_3, q87_4, q87_5⟩ := boxD (box_later B4 (later hB (later j4 (later j6 (later j61 (later j65 (later j67 (later j71 (later j73 (later j78 (later j80 j85)))))))))) S4)
        go_wp2_with fail
        refine (Cmp_all v84 q.neg y.neg G8 G4 m8 o8 m4 o4 _ _ q.e y.e (ints_on I8 (later j80 j85)) (ints_on I4 (later hB (later j4 (later j6 (later j61 (later j65 (later j67 (later j71 (later j73 (later j78 (later j80 j85))))))))))) (tab_later tbn (later hB (later j4 (later j6 (later j61 (later j65 (later j67 (later j71 (later j73 (later j78 (later j80 j85))))))))))) mm 0 HM.out).mono ?_
        rintro e' v88 ⟨rfl, j89⟩
        clear q86_0 q86_1 q86_2 q86_3 q86_4 q86_5 q87_0 q87_1 q87_2 q87_3 q87_4 q87_5
        try clear hw
        have hnb : decide (nn ≤ 0) = true := decide_eq_true hn0
        have hmb : decide (mm ≤ 0) = true := decide_eq_true hm0
        have SXY := Lib.hid (same_dn x y)
        by_cases hxy : x = y
        · skip
          have h1 : Pa.Dy.same ⟨x.neg, canon 4294967296 x.m, x.e⟩ ⟨y.neg, canon 4294967296 y.m, y.e⟩ = true := by rw [SXY.out]; exact decide_eq_true hxy
          have H1 := Lib.hid h1
          clear h1
          obtain ⟨e1_, e2_⟩ := HALL.out hxy
          have E1 := Lib.hid e1_
          have E2 := Lib.hid e2_
          clear e1_ e2_ hxy
          obtain ⟨⟨q90_0, q90_1, q90_2⟩, q90_3, q90_4, q90_5⟩ := boxD (box_later B3 (later hB (later j4 (later j6 (later j61 (later j65 (later j67 (later j71 (later j73 (later j78 (later j80 (later j85 j89))))))))))) S3)
          obtain ⟨⟨q91_0, q91_1, q91_2⟩, q91_3, q91_4, q91_5⟩ := boxD (box_later B4 (later hB (later j4 (later j6 (later j61 (later j65 (later j67 (later j71 (later j73 (later j78 (later j80 (later j85 j89))))))))))) S4)
          go_wp2_with fail
          refine (Pa.dyadSame_any v88 _ _ _ _ _ _ _ _ _ _ _ _ (ints_on I3 (later hB (later j4 (later j6 (later j61 (later j65 (later j67 (later j71 (later j73 (later j78 (later j80 (later j85 j89)))))))))))) (ints_on I4 (later hB (later j4 (later j6 (later j61 (later j65 (later j67 (later j71 (later j73 (later j78 (later j80 (later j85 j89)))))))))))) true H1.out).mono ?_
          rintro e' v92 ⟨rfl, j93⟩
          clear q90_0 q90_1 q90_2 q90_3 q90_4 q90_5 q91_0 q91_1 q91_2 q91_3 q91_4 q91_5
          try clear hw
          obtain ⟨⟨q94_0, q94_1, q94_2⟩, q94_3, q94_4, q94_5⟩ := boxD (box_later B7 (later j78 (later j80 (later j85 (later j89 j93)))) s74)
          obtain ⟨⟨q95_0, q95_1, q95_2⟩, q95_3, q95_4, q95_5⟩ := boxD (box_later B8 (later j85 (later j89 j93)) s81)
          go_wp2_with fail
          refine (Pa.dyadSame_any v92 _ _ _ _ _ _ _ _ _ _ _ _ (ints_on I7 (later j73 (later j78 (later j80 (later j85 (later j89 j93)))))) (ints_on I8 (later j80 (later j85 (later j89 j93)))) true (same_res E1.out rfl rfl rfl rfl rfl rfl)).mono ?_
          rintro e' v96 ⟨rfl, j97⟩
          clear q94_0 q94_1 q94_2 q94_3 q94_4 q94_5 q95_0 q95_1 q95_2 q95_3 q95_4 q95_5
          try clear hw
          obtain ⟨⟨q98_0, q98_1, q98_2⟩, q98_3, q98_4, q98_5⟩ := boxD (box_later B7 (later j78 (later j80 (later j85 (later j89 (later j93 j97))))) s74)
          obtain ⟨⟨q99_0, q99_1, q99_2⟩, q99_3, q99_4, q99_5⟩ := boxD (box_later B3 (later hB (later j4 (later j6 (later j61 (later j65 (later j67 (later j71 (later j73 (later j78 (later j80 (later j85 (later j89 (later j93 j97))))))))))))) S3)
          go_wp2_with fail
          refine (Pa.dyadSame_any v96 _ _ _ _ _ _ _ _ _ _ _ _ (ints_on I7 (later j73 (later j78 (later j80 (later j85 (later j89 (later j93 j97))))))) (ints_on I3 (later hB (later j4 (later j6 (later j61 (later j65 (later j67 (later j71 (later j73 (later j78 (later j80 (later j85 (later j89 (later j93 j97)))))))))))))) true (same_res E2.out rfl rfl rfl rfl rfl rfl)).mono ?_
          rintro e' v100 ⟨rfl, j101⟩
          clear q98_0 q98_1 q98_2 q98_3 q98_4 q98_5 q99_0 q99_1 q99_2 q99_3 q99_4 q99_5
          try clear hw
          go_wp2
          go_ret
          exact ⟨rfl, (later a9.below (later hB (later j4 (later j6 (later j61 (later j65 (later j67 (later j71 (later j73 (later j78 (later j80 (later j85 (later j89 (later j93 (later j97 j101)))))))))))))))⟩
        · skip
          have h1 : Pa.Dy.same ⟨x.neg, canon 4294967296 x.m, x.e⟩ ⟨y.neg, canon 4294967296 y.m, y.e⟩ = false := by rw [SXY.out]; exact decide_eq_false hxy
          have H1 := Lib.hid h1
          clear h1
          obtain ⟨⟨q102_0, q102_1, q102_2⟩, q102_3, q102_4, q102_5⟩ := boxD (box_later B3 (later hB (later j4 (later j6 (later j61 (later j65 (later j67 (later j71 (later j73 (later j78 (later j80 (later j85 j89))))))))))) S3)
          obtain ⟨⟨q103_0, q103_1, q103_2⟩, q103_3, q103_4, q103_5⟩ := boxD (box_later B4 (later hB (later j4 (later j6 (later j61 (later j65 (later j67 (later j71 (later j73 (later j78 (later j80 (later j85 j89))))))))))) S4)
          go_wp2_with fail
          refine (Pa.dyadSame_any v88 _ _ _ _ _ _ _ _ _ _ _ _ (ints_on I3 (later hB (later j4 (later j6 (later j61 (later j65 (later j67 (later j71 (later j73 (later j78 (later j80 (later j85 j89)))))))))))) (ints_on I4 (later hB (later j4 (later j6 (later j61 (later j65 (later j67 (later j71 (later j73 (later j78 (later j80 (later j85 j89)))))))))))) false H1.out).mono ?_
          rintro e' v104 ⟨rfl, j105⟩
          clear q102_0 q102_1 q102_2 q102_3 q102_4 q102_5 q103_0 q103_1 q103_2 q103_3 q103_4 q103_5
          try clear hw
          go_wp2
          go_ret
          exact ⟨rfl, (later a9.below (later hB (later j4 (later j6 (later j61 (later j65 (later j67 (later j71 (later j73 (later j78 (later j80 (later j85 (later j89 j105)))))))))))))⟩
end Dy
end Go.Proofs.YtbbnbgllgomolaaDoor
