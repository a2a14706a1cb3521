/- The reference's Add, Sub and Half of whatever dyads: walks (printed by a program of mine). -/
/- The law DyadSums: a walk (printed by a program of mine). -/
import Derived.Test.YtlbkepiflhchdaaDoorBm14
import Derived.Test.YtlbkepiflhchdaaDoorBm10
namespace Go.Proofs.YtlbkepiflhchdaaDoor
open Go.RowKit
namespace Dy
open Dp
set_option maxHeartbeats 3200000 in
set_option maxRecDepth 100000 in
theorem rAdd_bad (w : World) (s1 s2 : Bool) (A1 A2 : Option Addr) (n1 c1 n2 c2 : Nat) (xs1 xs2 : List Int) (e1 e2 : Int) (h1 : Ints w 0 w.heap.size .u32 A1 n1 xs1) (h2 : Ints w 0 w.heap.size .u32 A2 n2 xs2) (h : ¬ MayD s1 xs1 e1 ∨ ¬ MayD s2 xs2 e2) :
    Calls Tryd.prog 21 #[.agg #[.bool s1, .slice A1 n1 c1, .int .i64 e1], .agg #[.bool s2, .slice A2 n2 c2, .int .i64 e2]] w (Bad w) := by
  generalize hw : ((w.alloc (.cells #[.bool s1, .slice A1 n1 c1, .int .i64 e1] 24)).alloc (.cells #[.bool s2, .slice A2 n2 c2, .int .i64 e2] 24)).alloc (.cells #[.bool false, .slice none 0 0, .int .i64 0] 24) = w1 at *
  obtain ⟨D1, D2, D3, b1, l1, l2⟩ := boxes3 w _ _ _ hw
  replace h1 := h1.below b1 (Nat.le_refl _)
  replace h2 := h2.below b1 (Nat.le_refl _)
  by_cases m1 : MayD s1 xs1 e1
  · have m2 := Lib.hid (h.resolve_left (fun k => k m1))
    have M1 := Lib.hid m1
    clear h m1
    obtain ⟨⟨pD1, qD1, rD1⟩, uD1, vD1, xD1⟩ := boxD D1
    go_enter Tryd.func21, Tryd.ntmps21
    go_wp2_with fail
    try clear hw
    refine (rMay_ok w1 0 w.heap.size s1 A1 n1 c1 _ e1 h1 (by omega) M1.out).mono ?_
    rintro e' w2 ⟨rfl, hB⟩
    clear pD1 qD1 rD1 uD1 vD1 xD1
    have lw2 : w1.heap.size ≤ w2.heap.size := hB.size
    replace h1 := h1.below hB (by omega)
    replace h2 := h2.below hB (by omega)
    replace D1 := (hB.block _ (by omega)).trans D1
    replace D2 := (hB.block _ (by omega)).trans D2
    replace D3 := (hB.block _ (by omega)).trans D3
    have c3 := b1.trans (hB.mono (by omega))
    clear hB
    obtain ⟨⟨pD2, qD2, rD2⟩, uD2, vD2, xD2⟩ := boxD D2
    go_wp2_with fail
    refine (rMay_bad w2 0 w.heap.size s2 A2 n2 c2 _ e2 h2 (by omega) m2.out).mono ?_
    rintro e' w4 ⟨rfl, hB⟩
    clear pD2 qD2 rD2 uD2 vD2 xD2
    have lw4 : w2.heap.size ≤ w4.heap.size := hB.size
    replace h1 := h1.below hB (by omega)
    replace h2 := h2.below hB (by omega)
    replace D1 := (hB.block _ (by omega)).trans D1
    replace D2 := (hB.block _ (by omega)).trans D2
    replace D3 := (hB.block _ (by omega)).trans D3
    have c5 := c3.trans (hB.mono (by omega))
    clear hB
    obtain ⟨⟨z1, z2, z3⟩, z4, z5, z6⟩ := boxD D3
    go_wp2
    exact bodyPost_ret (v := .tuple #[.agg #[.bool false, .slice none 0 0, .int .i64 0], .int .i64 8]) (by simp [results, Tryd.results21, go_sem, z1, z2, z3]) rfl ⟨rfl, below_put c5 (by omega) _ _ _⟩
  · have M1 := Lib.hid m1
    clear h m1
    obtain ⟨⟨pD1, qD1, rD1⟩, uD1, vD1, xD1⟩ := boxD D1
    go_enter Tryd.func21, Tryd.ntmps21
    go_wp2_with fail
    try clear hw
    refine (rMay_bad w1 0 w.heap.size s1 A1 n1 c1 _ e1 h1 (by omega) M1.out).mono ?_
    rintro e' w2 ⟨rfl, hB⟩
    clear pD1 qD1 rD1 uD1 vD1 xD1
    have lw2 : w1.heap.size ≤ w2.heap.size := hB.size
    replace h1 := h1.below hB (by omega)
    replace h2 := h2.below hB (by omega)
    replace D1 := (hB.block _ (by omega)).trans D1
    replace D2 := (hB.block _ (by omega)).trans D2
    replace D3 := (hB.block _ (by omega)).trans D3
    have c3 := b1.trans (hB.mono (by omega))
    clear hB
    obtain ⟨⟨z1, z2, z3⟩, z4, z5, z6⟩ := boxD D3
    go_wp2
    exact bodyPost_ret (v := .tuple #[.agg #[.bool false, .slice none 0 0, .int .i64 0], .int .i64 8]) (by simp [results, Tryd.results21, go_sem, z1, z2, z3]) rfl ⟨rfl, below_put c3 (by omega) _ _ _⟩
set_option maxHeartbeats 3200000 in
set_option maxRecDepth 100000 in
theorem rSub_bad (w : World) (s1 s2 : Bool) (A1 A2 : Option Addr) (n1 c1 n2 c2 : Nat) (xs1 xs2 : List Int) (e1 e2 : Int) (h1 : Ints w 0 w.heap.size .u32 A1 n1 xs1) (h2 : Ints w 0 w.heap.size .u32 A2 n2 xs2) (h : ¬ MayD s1 xs1 e1 ∨ ¬ MayD s2 xs2 e2) :
    Calls Tryd.prog 23 #[.agg #[.bool s1, .slice A1 n1 c1, .int .i64 e1], .agg #[.bool s2, .slice A2 n2 c2, .int .i64 e2]] w (Bad w) := by
  generalize hw : ((w.alloc (.cells #[.bool s1, .slice A1 n1 c1, .int .i64 e1] 24)).alloc (.cells #[.bool s2, .slice A2 n2 c2, .int .i64 e2] 24)).alloc (.cells #[.bool false, .slice none 0 0, .int .i64 0] 24) = w1 at *
  obtain ⟨D1, D2, D3, b1, l1, l2⟩ := boxes3 w _ _ _ hw
  replace h1 := h1.below b1 (Nat.le_refl _)
  replace h2 := h2.below b1 (Nat.le_refl _)
  by_cases m1 : MayD s1 xs1 e1
  · have m2 := Lib.hid (h.resolve_left (fun k => k m1))
    have M1 := Lib.hid m1
    clear h m1
    obtain ⟨⟨pD1, qD1, rD1⟩, uD1, vD1, xD1⟩ := boxD D1
    go_enter Tryd.func23, Tryd.ntmps23
    go_wp2_with fail
    try clear hw
    refine (rMay_ok w1 0 w.heap.size s1 A1 n1 c1 _ e1 h1 (by omega) M1.out).mono ?_
    rintro e' w2 ⟨rfl, hB⟩
    clear pD1 qD1 rD1 uD1 vD1 xD1
    have lw2 : w1.heap.size ≤ w2.heap.size := hB.size
    replace h1 := h1.below hB (by omega)
    replace h2 := h2.below hB (by omega)
    replace D1 := (hB.block _ (by omega)).trans D1
    replace D2 := (hB.block _ (by omega)).trans D2
    replace D3 := (hB.block _ (by omega)).trans D3
    have c3 := b1.trans (hB.mono (by omega))
    clear hB
    obtain ⟨⟨pD2, qD2, rD2⟩, uD2, vD2, xD2⟩ := boxD D2
    go_wp2_with fail
    refine (rMay_bad w2 0 w.heap.size s2 A2 n2 c2 _ e2 h2 (by omega) m2.out).mono ?_
    rintro e' w4 ⟨rfl, hB⟩
    clear pD2 qD2 rD2 uD2 vD2 xD2
    have lw4 : w2.heap.size ≤ w4.heap.size := hB.size
    replace h1 := h1.below hB (by omega)
    replace h2 := h2.below hB (by omega)
    replace D1 := (hB.block _ (by omega)).trans D1
    replace D2 := (hB.block _ (by omega)).trans D2
    replace D3 := (hB.block _ (by omega)).trans D3
    have c5 := c3.trans (hB.mono (by omega))
    clear hB
    obtain ⟨⟨z1, z2, z3⟩, z4, z5, z6⟩ := boxD D3
    go_wp2
    exact bodyPost_ret (v := .tuple #[.agg #[.bool false, .slice none 0 0, .int .i64 0], .int .i64 8]) (by simp [results, Tryd.results23, go_sem, z1, z2, z3]) rfl ⟨rfl, below_put c5 (by omega) _ _ _⟩
  · have M1 := Lib.hid m1
    clear h m1
    obtain ⟨⟨pD1, qD1, rD1⟩, uD1, vD1, xD1⟩ := boxD D1
    go_enter Tryd.func23, Tryd.ntmps23
    go_wp2_with fail
    try clear hw
    refine (rMay_bad w1 0 w.heap.size s1 A1 n1 c1 _ e1 h1 (by omega) M1.out).mono ?_
    rintro e' w2 ⟨rfl, hB⟩
    clear pD1 qD1 rD1 uD1 vD1 xD1
    have lw2 : w1.heap.size ≤ w2.heap.size := hB.size
    replace h1 := h1.below hB (by omega)
    replace h2 := h2.below hB (by omega)
    replace D1 := (hB.block _ (by omega)).trans D1
    replace D2 := (hB.block _ (by omega)).trans D2
    replace D3 := (hB.block _ (by omega)).trans D3
    have c3 := b1.trans (hB.mono (by omega))
    clear hB
    obtain ⟨⟨z1, z2, z3⟩, z4, z5, z6⟩ := boxD D3
    go_wp2
    exact bodyPost_ret (v := .tuple #[.agg #[.bool false, .slice none 0 0, .int .i64 0], .int .i64 8]) (by simp [results, Tryd.results23, go_sem, z1, z2, z3]) rfl ⟨rfl, below_put c3 (by omega) _ _ _⟩
set_option maxHeartbeats 6400000 in
set_option maxRecDepth 100000 in
/-- headcountref02.Sub, of two that may be. -/
theorem rSub_dn (w : World) (a b : Dn) (ha : a.May) (hb : b.May) (A1 A2 : Option Addr) (n1 c1 n2 c2 : Nat) (h1 : Ints w 0 w.heap.size .u32 A1 n1 (canon 4294967296 a.m)) (h2 : Ints w 0 w.heap.size .u32 A2 n2 (canon 4294967296 b.m)) (r : Dn) (code : Int) (h : subD a b = (r, code)) :
    Calls Tryd.prog 23 #[.agg #[.bool a.neg, .slice A1 n1 c1, .int .i64 a.e], .agg #[.bool b.neg, .slice A2 n2 c2, .int .i64 b.e]] w (Formed w r code) := by
  have ma := Lib.hid (dn_may ha)
  have mb := Lib.hid (dn_may hb)
  have H := Lib.hid h
  have ht : (if n2 = 0 then b.neg else !b.neg) = (negD b).neg := by
    have hl := canon_len0 h2
    unfold negD
    by_cases h0 : n2 = 0
    · have hm : b.m = 0 := by simpa [h0] using hl
      rw [if_pos h0, (hb.2.2.1 hm).2]
      simp [hm]
    · have hm : b.m ≠ 0 := by simpa [h0] using hl
      rw [if_neg h0]
      simp [hm]
  have HT := Lib.hid ht
  have YA := Lib.hid ha
  have YB := Lib.hid (neg_may hb)
  clear h ht ha hb
  generalize hw : ((w.alloc (.cells #[.bool a.neg, .slice A1 n1 c1, .int .i64 a.e] 24)).alloc (.cells #[.bool b.neg, .slice A2 n2 c2, .int .i64 b.e] 24)).alloc (.cells #[.bool false, .slice none 0 0, .int .i64 0] 24) = w1 at *
  obtain ⟨D1, D2, D3, b1, l1, l2⟩ := boxes3 w _ _ _ hw
  replace h1 := h1.below b1 (Nat.le_refl _)
  replace h2 := h2.below b1 (Nat.le_refl _)
  obtain ⟨⟨pD1, qD1, rD1⟩, uD1, vD1, xD1⟩ := boxD D1
  go_enter Tryd.func23, Tryd.ntmps23
  go_wp2_with fail
  try clear hw
  refine (rMay_ok w1 0 w.heap.size a.neg A1 n1 c1 _ a.e h1 (by omega) ma.out).mono ?_
  rintro e' w2 ⟨rfl, hB⟩
  clear pD1 qD1 rD1 uD1 vD1 xD1
  have lw2 : w1.heap.size ≤ w2.heap.size := hB.size
  replace h1 := h1.below hB (by omega)
  replace h2 := h2.below hB (by omega)
  replace D1 := (hB.block _ (by omega)).trans D1
  replace D2 := (hB.block _ (by omega)).trans D2
  replace D3 := (hB.block _ (by omega)).trans D3
  have c3 := b1.trans (hB.mono (by omega))
  clear hB
  obtain ⟨⟨pD2, qD2, rD2⟩, uD2, vD2, xD2⟩ := boxD D2
  go_wp2_with fail
  refine (rMay_ok w2 0 w.heap.size b.neg A2 n2 c2 _ b.e h2 (by omega) mb.out).mono ?_
  rintro e' w4 ⟨rfl, hB⟩
  clear pD2 qD2 rD2 uD2 vD2 xD2
  have lw4 : w2.heap.size ≤ w4.heap.size := hB.size
  replace h1 := h1.below hB (by omega)
  replace h2 := h2.below hB (by omega)
  replace D1 := (hB.block _ (by omega)).trans D1
  replace D2 := (hB.block _ (by omega)).trans D2
  replace D3 := (hB.block _ (by omega)).trans D3
  have c5 := c3.trans (hB.mono (by omega))
  clear hB
  go_wp2_with fail
  have kD : Keeps w4 w4.drew := fun _ _ => rfl
  have hB : Below w4.heap.size w4 w4.drew := (Below.refl _ _).drew
  refine region_E (Keeps w4) [8] (m := 10) (L := #[false, false, false, false, false, false, false, false, false, false]) (by kernel_rfl) (by rfl) (by rfl) ?_
  generalize w4.drew = w6 at *
  have lw6 : w4.heap.size ≤ w6.heap.size := hB.size
  have sv_D1 := D1
  have sv_D2 := D2
  have sv_D3 := D3
  replace h1 := h1.below hB (by omega)
  replace h2 := h2.below hB (by omega)
  replace D1 := (hB.block _ (by omega)).trans D1
  replace D2 := (hB.block _ (by omega)).trans D2
  replace D3 := (hB.block _ (by omega)).trans D3
  have hB0 := hB
  clear hB
  refine readE (i := 0) (L := #[true, false, false, false, false, false, false, false, false, false]) (v := .agg #[.bool a.neg, .slice A1 n1 c1, .int .i64 a.e]) rfl (by rfl) (by kernel_rfl) (by kernel_rfl) (by kernel_rfl) (fun _ _ _ h => h) (by assumption) (by rfl) ?hy0_1 ?rest0_1
  case hy0_1 =>
    intro w' h1
    obtain ⟨⟨k1, k2, k3⟩, _⟩ := boxD ((h1 _ (by omega)).trans sv_D1)
    go_simp
  try simp only [Act.put, List.setIfInBounds_toArray, List.set_cons_zero, List.set_cons_succ]
  refine readE (i := 1) (L := #[true, true, false, false, false, false, false, false, false, false]) (v := .agg #[.bool b.neg, .slice A2 n2 c2, .int .i64 b.e]) rfl (by rfl) (by kernel_rfl) (by kernel_rfl) (by kernel_rfl) (fun _ _ _ h => h) (by assumption) (by rfl) ?hy1_2 ?rest1_2
  case hy1_2 =>
    intro w' h1
    obtain ⟨⟨k1, k2, k3⟩, _⟩ := boxD ((h1 _ (by omega)).trans sv_D2)
    go_simp
  try simp only [Act.put, List.setIfInBounds_toArray, List.set_cons_zero, List.set_cons_succ]
  refine stepK2 (i := 2) (j := 7) (Li := #[true, true, true, false, false, false, false, false, false, false]) (Lj := #[true, true, false, false, false, false, false, true, false, false]) rfl rfl (by rfl) (by rfl) (by kernel_rfl) (by rfl) (by rfl) (fun K hK => ?o2_3) (fun K hK => ?o7_3)
  case o2_3 =>
    
    go_simp
    go_at_call 71
    refine (rMinus_any w6 b.neg A2 n2 c2 b.e (negD b).neg HT.out).mono ?_
    rintro e' w7 ⟨rfl, hB⟩
    have lw7 : w6.heap.size ≤ w7.heap.size := hB.size
    replace h1 := h1.below hB (by omega)
    replace h2 := h2.below hB (by omega)
    replace D1 := (hB.block _ (by omega)).trans D1
    replace D2 := (hB.block _ (by omega)).trans D2
    replace D3 := (hB.block _ (by omega)).trans D3
    have c8 := hB0.trans (hB.mono (by omega))
    clear hB
    refine hK _ _ ⟨fun _ _ p hp => c8.block p hp, ?_⟩
    clear hK K
    try simp only [Act.put, List.setIfInBounds_toArray, List.set_cons_zero, List.set_cons_succ]
    refine stepK2 (i := 3) (j := 7) (Li := #[true, true, true, true, false, false, false, false, false, false]) (Lj := #[true, true, true, false, false, false, false, true, false, false]) rfl rfl (by rfl) (by rfl) (by kernel_rfl) (by rfl) (by rfl) (fun K hK => ?o3_4) (fun K hK => ?o7_4)
    case o3_4 =>
      
      go_simp
      go_at_call 21
      refine (rAdd_dn w7 a (negD b) YA.out YB.out A1 A2 n1 c1 n2 c2 (h1.more (Nat.zero_le _) (by omega)) (h2.more (Nat.zero_le _) (by omega)) r code H.out).mono ?_
      rintro e' w9 ⟨P4, i4, d4, rfl, lc4, hB, IN4⟩
      have lw9 : w7.heap.size ≤ w9.heap.size := hB.size
      replace h1 := h1.below hB (by omega)
      replace h2 := h2.below hB (by omega)
      replace D1 := (hB.block _ (by omega)).trans D1
      replace D2 := (hB.block _ (by omega)).trans D2
      replace D3 := (hB.block _ (by omega)).trans D3
      have c10 := c8.trans (hB.mono (by omega))
      clear hB
      refine hK _ _ ⟨fun _ _ p hp => c10.block p hp, ?_⟩
      clear hK K
      try simp only [Act.put, List.setIfInBounds_toArray, List.set_cons_zero, List.set_cons_succ]
      refine pureE (i := 4) (L := #[true, true, true, true, true, false, false, false, false, false]) (v := ?_) rfl (by rfl) (by kernel_rfl) (by kernel_rfl) (by kernel_rfl) (fun _ _ _ h => h) (by rfl) ?hy3 ?rest3
      case hy3 => intro w; go_simp; (try with_reducible rfl)
      try simp only [Act.put, List.setIfInBounds_toArray, List.set_cons_zero, List.set_cons_succ]
      refine pureE (i := 5) (L := #[true, true, true, true, true, true, false, false, false, false]) (v := ?_) rfl (by rfl) (by kernel_rfl) (by kernel_rfl) (by kernel_rfl) (fun _ _ _ h => h) (by rfl) ?hy4 ?rest4
      case hy4 => intro w; go_simp; (try with_reducible rfl)
      try simp only [Act.put, List.setIfInBounds_toArray, List.set_cons_zero, List.set_cons_succ]
      refine pureE (i := 6) (L := #[true, true, true, true, true, true, true, false, false, false]) (v := ?_) rfl (by rfl) (by kernel_rfl) (by kernel_rfl) (by kernel_rfl) (fun _ _ _ h => h) (by rfl) ?hy5 ?rest5
      case hy5 => intro w; go_simp; (try with_reducible rfl)
      try simp only [Act.put, List.setIfInBounds_toArray, List.set_cons_zero, List.set_cons_succ]
      refine stepK (i := 7) (L := #[true, true, true, true, true, true, true, true, false, false]) rfl (by rfl) (by kernel_rfl) (by rfl) (fun K hK => ?_)
      go_simp
      have hB := (Below.refl w9.heap.size w9).alloc (Nat.le_refl _) (.cells #[.bool false, .slice none 0 0, .int .i64 0] 24)
      have D4 := heap_alloc_last w9 (.cells #[.bool false, .slice none 0 0, .int .i64 0] 24)
      have mw11 : w9.heap.size < (w9.alloc (.cells #[.bool false, .slice none 0 0, .int .i64 0] 24)).heap.size := by simp
      generalize hw : w9.alloc (.cells #[.bool false, .slice none 0 0, .int .i64 0] 24) = w11 at *
      have lw11 : w9.heap.size ≤ w11.heap.size := hB.size
      replace h1 := h1.below hB (by omega)
      replace h2 := h2.below hB (by omega)
      replace IN4 := IN4.below hB (by omega)
      replace D1 := (hB.block _ (by omega)).trans D1
      replace D2 := (hB.block _ (by omega)).trans D2
      replace D3 := (hB.block _ (by omega)).trans D3
      have c12 := c10.trans (hB.mono (by omega))
      clear hB
      try clear hw
      refine hK _ _ ⟨fun _ _ p hp => c12.block p hp, ?_⟩
      clear hK K
      try simp only [Act.put, List.setIfInBounds_toArray, List.set_cons_zero, List.set_cons_succ]
      refine stepK (i := 8) (L := #[true, true, true, true, true, true, true, true, true, false]) rfl (by rfl) (by kernel_rfl) (by rfl) (fun K hK => ?_)
      go_simp
      obtain ⟨⟨p1, p2, p3⟩, p4, p5, p6⟩ := boxD D4
      go_simp
      refine hK _ _ ⟨fun h => absurd h (by decide), ?_⟩
      clear hK K
      try simp only [Act.put, List.setIfInBounds_toArray, List.set_cons_zero, List.set_cons_succ]
      refine pureE (i := 9) (L := #[true, true, true, true, true, true, true, true, true, true]) (v := ?_) rfl (by rfl) (by kernel_rfl) (by kernel_rfl) (by kernel_rfl) (fun _ _ _ h => h) (by rfl) ?hy8 ?rest8
      case hy8 => intro w; go_simp; (try with_reducible rfl)
      try simp only [Act.put, List.setIfInBounds_toArray, List.set_cons_zero, List.set_cons_succ]
      refine doneE (by kernel_rfl) ?_ _
      clear p1 p2 p3 p4 p5 p6
      have q4 := box_put D4 (.bool r.neg) (.slice P4 i4 d4) (.int .i64 r.e)
      have d7 := below_put c12 (by omega : w4.heap.size ≤ w9.heap.size) (.bool r.neg) (.slice P4 i4 d4) (.int .i64 r.e)
      have J4 := ints_put IN4 (g := w9.heap.size) (by omega) (.bool r.neg) (.slice P4 i4 d4) (.int .i64 r.e)
      have s7 : w11.heap.size ≤ (((w11.setCell ⟨w9.heap.size, 0, none⟩ (.bool r.neg)).setCell ⟨w9.heap.size, 1, none⟩ (.slice P4 i4 d4)).setCell ⟨w9.heap.size, 2, none⟩ (.int .i64 r.e)).heap.size := by rw [size_put]; exact Nat.le_refl _
      generalize hw : ((w11.setCell ⟨w9.heap.size, 0, none⟩ (.bool r.neg)).setCell ⟨w9.heap.size, 1, none⟩ (.slice P4 i4 d4)).setCell ⟨w9.heap.size, 2, none⟩ (.int .i64 r.e) = w13 at *
      try clear hw
      have e8 := c5.trans (d7.mono (by omega))
      have X9 := (d7.block _ (by omega)).trans sv_D3
      obtain ⟨⟨p1, p2, p3⟩, p4, p5, p6⟩ := boxD q4
      obtain ⟨⟨z1, z2, z3⟩, z4, z5, z6⟩ := boxD X9
      go_wp2
      refine bodyPost_ret (v := .tuple #[.agg #[.bool r.neg, .slice P4 i4 d4, .int .i64 r.e], .int .i64 code]) (by simp [results, Tryd.results23, go_sem, z1, z2, z3]) rfl ⟨P4, i4, d4, rfl, lc4, ?_, ?_⟩
      · exact below_put e8 (by omega) _ _ _
      · exact (ints_put J4 (.inl (by omega)) _ _ _).more (by omega) (by rw [size_put]; omega)
    case o7_4 =>
      
      go_simp
      have hB := (Below.refl w7.heap.size w7).alloc (Nat.le_refl _) (.cells #[.bool false, .slice none 0 0, .int .i64 0] 24)
      have D4 := heap_alloc_last w7 (.cells #[.bool false, .slice none 0 0, .int .i64 0] 24)
      have mw14 : w7.heap.size < (w7.alloc (.cells #[.bool false, .slice none 0 0, .int .i64 0] 24)).heap.size := by simp
      generalize hw : w7.alloc (.cells #[.bool false, .slice none 0 0, .int .i64 0] 24) = w14 at *
      have lw14 : w7.heap.size ≤ w14.heap.size := hB.size
      replace h1 := h1.below hB (by omega)
      replace h2 := h2.below hB (by omega)
      replace D1 := (hB.block _ (by omega)).trans D1
      replace D2 := (hB.block _ (by omega)).trans D2
      replace D3 := (hB.block _ (by omega)).trans D3
      have c15 := c8.trans (hB.mono (by omega))
      clear hB
      try clear hw
      refine hK _ _ ⟨fun _ _ p hp => c15.block p hp, ?_⟩
      clear hK K
      try simp only [Act.put, List.setIfInBounds_toArray, List.set_cons_zero, List.set_cons_succ]
      refine stepK (i := 3) (L := #[true, true, true, true, false, false, false, true, false, false]) rfl (by rfl) (by kernel_rfl) (by rfl) (fun K hK => ?_)
      go_simp
      go_at_call 21
      refine (rAdd_dn w14 a (negD b) YA.out YB.out A1 A2 n1 c1 n2 c2 (h1.more (Nat.zero_le _) (by omega)) (h2.more (Nat.zero_le _) (by omega)) r code H.out).mono ?_
      rintro e' w16 ⟨P4, i4, d4, rfl, lc4, hB, IN4⟩
      have lw16 : w14.heap.size ≤ w16.heap.size := hB.size
      replace h1 := h1.below hB (by omega)
      replace h2 := h2.below hB (by omega)
      replace D1 := (hB.block _ (by omega)).trans D1
      replace D2 := (hB.block _ (by omega)).trans D2
      replace D3 := (hB.block _ (by omega)).trans D3
      replace D4 := (hB.block _ (by omega)).trans D4
      have c17 := c15.trans (hB.mono (by omega))
      clear hB
      refine hK _ _ ⟨fun _ _ p hp => c17.block p hp, ?_⟩
      clear hK K
      try simp only [Act.put, List.setIfInBounds_toArray, List.set_cons_zero, List.set_cons_succ]
      refine pureE (i := 4) (L := #[true, true, true, true, true, false, false, true, false, false]) (v := ?_) rfl (by rfl) (by kernel_rfl) (by kernel_rfl) (by kernel_rfl) (fun _ _ _ h => h) (by rfl) ?hy10 ?rest10
      case hy10 => intro w; go_simp; (try with_reducible rfl)
      try simp only [Act.put, List.setIfInBounds_toArray, List.set_cons_zero, List.set_cons_succ]
      refine pureE (i := 5) (L := #[true, true, true, true, true, true, false, true, false, false]) (v := ?_) rfl (by rfl) (by kernel_rfl) (by kernel_rfl) (by kernel_rfl) (fun _ _ _ h => h) (by rfl) ?hy11 ?rest11
      case hy11 => intro w; go_simp; (try with_reducible rfl)
      try simp only [Act.put, List.setIfInBounds_toArray, List.set_cons_zero, List.set_cons_succ]
      refine pureE (i := 6) (L := #[true, true, true, true, true, true, true, true, false, false]) (v := ?_) rfl (by rfl) (by kernel_rfl) (by kernel_rfl) (by kernel_rfl) (fun _ _ _ h => h) (by rfl) ?hy12 ?rest12
      case hy12 => intro w; go_simp; (try with_reducible rfl)
      try simp only [Act.put, List.setIfInBounds_toArray, List.set_cons_zero, List.set_cons_succ]
      refine stepK (i := 8) (L := #[true, true, true, true, true, true, true, true, true, false]) rfl (by rfl) (by kernel_rfl) (by rfl) (fun K hK => ?_)
      go_simp
      obtain ⟨⟨p1, p2, p3⟩, p4, p5, p6⟩ := boxD D4
      go_simp
      refine hK _ _ ⟨fun h => absurd h (by decide), ?_⟩
      clear hK K
      try simp only [Act.put, List.setIfInBounds_toArray, List.set_cons_zero, List.set_cons_succ]
      refine pureE (i := 9) (L := #[true, true, true, true, true, true, true, true, true, true]) (v := ?_) rfl (by rfl) (by kernel_rfl) (by kernel_rfl) (by kernel_rfl) (fun _ _ _ h => h) (by rfl) ?hy14 ?rest14
      case hy14 => intro w; go_simp; (try with_reducible rfl)
      try simp only [Act.put, List.setIfInBounds_toArray, List.set_cons_zero, List.set_cons_succ]
      refine doneE (by kernel_rfl) ?_ _
      clear p1 p2 p3 p4 p5 p6
      have q4 := box_put D4 (.bool r.neg) (.slice P4 i4 d4) (.int .i64 r.e)
      have d7 := below_put c17 (by omega : w4.heap.size ≤ w7.heap.size) (.bool r.neg) (.slice P4 i4 d4) (.int .i64 r.e)
      have J4 := ints_put IN4 (g := w7.heap.size) (by omega) (.bool r.neg) (.slice P4 i4 d4) (.int .i64 r.e)
      have s7 : w16.heap.size ≤ (((w16.setCell ⟨w7.heap.size, 0, none⟩ (.bool r.neg)).setCell ⟨w7.heap.size, 1, none⟩ (.slice P4 i4 d4)).setCell ⟨w7.heap.size, 2, none⟩ (.int .i64 r.e)).heap.size := by rw [size_put]; exact Nat.le_refl _
      generalize hw : ((w16.setCell ⟨w7.heap.size, 0, none⟩ (.bool r.neg)).setCell ⟨w7.heap.size, 1, none⟩ (.slice P4 i4 d4)).setCell ⟨w7.heap.size, 2, none⟩ (.int .i64 r.e) = w18 at *
      try clear hw
      have e8 := c5.trans (d7.mono (by omega))
      have X9 := (d7.block _ (by omega)).trans sv_D3
      obtain ⟨⟨p1, p2, p3⟩, p4, p5, p6⟩ := boxD q4
      obtain ⟨⟨z1, z2, z3⟩, z4, z5, z6⟩ := boxD X9
      go_wp2
      refine bodyPost_ret (v := .tuple #[.agg #[.bool r.neg, .slice P4 i4 d4, .int .i64 r.e], .int .i64 code]) (by simp [results, Tryd.results23, go_sem, z1, z2, z3]) rfl ⟨P4, i4, d4, rfl, lc4, ?_, ?_⟩
      · exact below_put e8 (by omega) _ _ _
      · exact (ints_put J4 (.inl (by omega)) _ _ _).more (by omega) (by rw [size_put]; omega)
  case o7_3 =>
    
    go_simp
    have hB := (Below.refl w6.heap.size w6).alloc (Nat.le_refl _) (.cells #[.bool false, .slice none 0 0, .int .i64 0] 24)
    have D4 := heap_alloc_last w6 (.cells #[.bool false, .slice none 0 0, .int .i64 0] 24)
    have mw19 : w6.heap.size < (w6.alloc (.cells #[.bool false, .slice none 0 0, .int .i64 0] 24)).heap.size := by simp
    generalize hw : w6.alloc (.cells #[.bool false, .slice none 0 0, .int .i64 0] 24) = w19 at *
    have lw19 : w6.heap.size ≤ w19.heap.size := hB.size
    replace h1 := h1.below hB (by omega)
    replace h2 := h2.below hB (by omega)
    replace D1 := (hB.block _ (by omega)).trans D1
    replace D2 := (hB.block _ (by omega)).trans D2
    replace D3 := (hB.block _ (by omega)).trans D3
    have c20 := hB0.trans (hB.mono (by omega))
    clear hB
    try clear hw
    refine hK _ _ ⟨fun _ _ p hp => c20.block p hp, ?_⟩
    clear hK K
    try simp only [Act.put, List.setIfInBounds_toArray, List.set_cons_zero, List.set_cons_succ]
    refine stepK (i := 2) (L := #[true, true, true, false, false, false, false, true, false, false]) rfl (by rfl) (by kernel_rfl) (by rfl) (fun K hK => ?_)
    go_simp
    go_at_call 71
    refine (rMinus_any w19 b.neg A2 n2 c2 b.e (negD b).neg HT.out).mono ?_
    rintro e' w21 ⟨rfl, hB⟩
    have lw21 : w19.heap.size ≤ w21.heap.size := hB.size
    replace h1 := h1.below hB (by omega)
    replace h2 := h2.below hB (by omega)
    replace D1 := (hB.block _ (by omega)).trans D1
    replace D2 := (hB.block _ (by omega)).trans D2
    replace D3 := (hB.block _ (by omega)).trans D3
    replace D4 := (hB.block _ (by omega)).trans D4
    have c22 := c20.trans (hB.mono (by omega))
    clear hB
    refine hK _ _ ⟨fun _ _ p hp => c22.block p hp, ?_⟩
    clear hK K
    try simp only [Act.put, List.setIfInBounds_toArray, List.set_cons_zero, List.set_cons_succ]
    refine stepK (i := 3) (L := #[true, true, true, true, false, false, false, true, false, false]) rfl (by rfl) (by kernel_rfl) (by rfl) (fun K hK => ?_)
    go_simp
    go_at_call 21
    refine (rAdd_dn w21 a (negD b) YA.out YB.out A1 A2 n1 c1 n2 c2 (h1.more (Nat.zero_le _) (by omega)) (h2.more (Nat.zero_le _) (by omega)) r code H.out).mono ?_
    rintro e' w23 ⟨P4, i4, d4, rfl, lc4, hB, IN4⟩
    have lw23 : w21.heap.size ≤ w23.heap.size := hB.size
    replace h1 := h1.below hB (by omega)
    replace h2 := h2.below hB (by omega)
    replace D1 := (hB.block _ (by omega)).trans D1
    replace D2 := (hB.block _ (by omega)).trans D2
    replace D3 := (hB.block _ (by omega)).trans D3
    replace D4 := (hB.block _ (by omega)).trans D4
    have c24 := c22.trans (hB.mono (by omega))
    clear hB
    refine hK _ _ ⟨fun _ _ p hp => c24.block p hp, ?_⟩
    clear hK K
    try simp only [Act.put, List.setIfInBounds_toArray, List.set_cons_zero, List.set_cons_succ]
    refine pureE (i := 4) (L := #[true, true, true, true, true, false, false, true, false, false]) (v := ?_) rfl (by rfl) (by kernel_rfl) (by kernel_rfl) (by kernel_rfl) (fun _ _ _ h => h) (by rfl) ?hy17 ?rest17
    case hy17 => intro w; go_simp; (try with_reducible rfl)
    try simp only [Act.put, List.setIfInBounds_toArray, List.set_cons_zero, List.set_cons_succ]
    refine pureE (i := 5) (L := #[true, true, true, true, true, true, false, true, false, false]) (v := ?_) rfl (by rfl) (by kernel_rfl) (by kernel_rfl) (by kernel_rfl) (fun _ _ _ h => h) (by rfl) ?hy18 ?rest18
    case hy18 => intro w; go_simp; (try with_reducible rfl)
    try simp only [Act.put, List.setIfInBounds_toArray, List.set_cons_zero, List.set_cons_succ]
    refine pureE (i := 6) (L := #[true, true, true, true, true, true, true, true, false, false]) (v := ?_) rfl (by rfl) (by kernel_rfl) (by kernel_rfl) (by kernel_rfl) (fun _ _ _ h => h) (by rfl) ?hy19 ?rest19
    case hy19 => intro w; go_simp; (try with_reducible rfl)
    try simp only [Act.put, List.setIfInBounds_toArray, List.set_cons_zero, List.set_cons_succ]
    refine stepK (i := 8) (L := #[true, true, true, true, true, true, true, true, true, false]) rfl (by rfl) (by kernel_rfl) (by rfl) (fun K hK => ?_)
    go_simp
    obtain ⟨⟨p1, p2, p3⟩, p4, p5, p6⟩ := boxD D4
    go_simp
    refine hK _ _ ⟨fun h => absurd h (by decide), ?_⟩
    clear hK K
    try simp only [Act.put, List.setIfInBounds_toArray, List.set_cons_zero, List.set_cons_succ]
    refine pureE (i := 9) (L := #[true, true, true, true, true, true, true, true, true, true]) (v := ?_) rfl (by rfl) (by kernel_rfl) (by kernel_rfl) (by kernel_rfl) (fun _ _ _ h => h) (by rfl) ?hy21 ?rest21
    case hy21 => intro w; go_simp; (try with_reducible rfl)
    try simp only [Act.put, List.setIfInBounds_toArray, List.set_cons_zero, List.set_cons_succ]
    refine doneE (by kernel_rfl) ?_ _
    clear p1 p2 p3 p4 p5 p6
    have q4 := box_put D4 (.bool r.neg) (.slice P4 i4 d4) (.int .i64 r.e)
    have d7 := below_put c24 (by omega : w4.heap.size ≤ w6.heap.size) (.bool r.neg) (.slice P4 i4 d4) (.int .i64 r.e)
    have J4 := ints_put IN4 (g := w6.heap.size) (by omega) (.bool r.neg) (.slice P4 i4 d4) (.int .i64 r.e)
    have s7 : w23.heap.size ≤ (((w23.setCell ⟨w6.heap.size, 0, none⟩ (.bool r.neg)).setCell ⟨w6.heap.size, 1, none⟩ (.slice P4 i4 d4)).setCell ⟨w6.heap.size, 2, none⟩ (.int .i64 r.e)).heap.size := by rw [size_put]; exact Nat.le_refl _
    generalize hw : ((w23.setCell ⟨w6.heap.size, 0, none⟩ (.bool r.neg)).setCell ⟨w6.heap.size, 1, none⟩ (.slice P4 i4 d4)).setCell ⟨w6.heap.size, 2, none⟩ (.int .i64 r.e) = w25 at *
    try clear hw
    have e8 := c5.trans (d7.mono (by omega))
    have X9 := (d7.block _ (by omega)).trans sv_D3
    obtain ⟨⟨p1, p2, p3⟩, p4, p5, p6⟩ := boxD q4
    obtain ⟨⟨z1, z2, z3⟩, z4, z5, z6⟩ := boxD X9
    go_wp2
    refine bodyPost_ret (v := .tuple #[.agg #[.bool r.neg, .slice P4 i4 d4, .int .i64 r.e], .int .i64 code]) (by simp [results, Tryd.results23, go_sem, z1, z2, z3]) rfl ⟨P4, i4, d4, rfl, lc4, ?_, ?_⟩
    · exact below_put e8 (by omega) _ _ _
    · exact (ints_put J4 (.inl (by omega)) _ _ _).more (by omega) (by rw [size_put]; omega)
set_option maxHeartbeats 3200000 in
set_option maxRecDepth 100000 in
theorem rHalf_bad (w : World) (s1 : Bool) (A1 : Option Addr) (n1 c1 : Nat) (xs1 : List Int) (e1 : Int) (h1 : Ints w 0 w.heap.size .u32 A1 n1 xs1) (h : ¬ MayD s1 xs1 e1) :
    Calls Tryd.prog 25 #[.agg #[.bool s1, .slice A1 n1 c1, .int .i64 e1]] w (Bad w) := by
  generalize hw : (w.alloc (.cells #[.bool s1, .slice A1 n1 c1, .int .i64 e1] 24)).alloc (.cells #[.bool false, .slice none 0 0, .int .i64 0] 24) = w1 at *
  obtain ⟨D1, D2, b1, l1, l2⟩ := boxes2 w _ _ hw
  replace h1 := h1.below b1 (Nat.le_refl _)
  have M1 := Lib.hid h
  clear h
  obtain ⟨⟨pD1, qD1, rD1⟩, uD1, vD1, xD1⟩ := boxD D1
  go_enter Tryd.func25, Tryd.ntmps25
  go_wp2_with fail
  try clear hw
  refine (rMay_bad w1 0 w.heap.size s1 A1 n1 c1 _ e1 h1 (by omega) M1.out).mono ?_
  rintro e' w2 ⟨rfl, hB⟩
  clear pD1 qD1 rD1 uD1 vD1 xD1
  have lw2 : w1.heap.size ≤ w2.heap.size := hB.size
  replace h1 := h1.below hB (by omega)
  replace D1 := (hB.block _ (by omega)).trans D1
  replace D2 := (hB.block _ (by omega)).trans D2
  have c3 := b1.trans (hB.mono (by omega))
  clear hB
  obtain ⟨⟨z1, z2, z3⟩, z4, z5, z6⟩ := boxD D2
  go_wp2
  exact bodyPost_ret (v := .tuple #[.agg #[.bool false, .slice none 0 0, .int .i64 0], .int .i64 8]) (by simp [results, Tryd.results25, go_sem, z1, z2, z3]) rfl ⟨rfl, below_put c3 (by omega) _ _ _⟩
set_option maxHeartbeats 6400000 in
set_option maxRecDepth 100000 in
/-- headcountref02.Half, of one that may be. -/
theorem rHalf_dn (w : World) (a : Dn) (ha : a.May) (A1 : Option Addr) (n1 c1 : Nat) (h1 : Ints w 0 w.heap.size .u32 A1 n1 (canon 4294967296 a.m)) (r : Dn) (code : Int) (h : halfD a = (r, code)) :
    Calls Tryd.prog 25 #[.agg #[.bool a.neg, .slice A1 n1 c1, .int .i64 a.e]] w (Formed w r code) := by
  have hn1 := ints_may h1 ha
  have ea : a.e ≤ 1024 := ha.2.1
  have ma := Lib.hid (dn_may ha)
  have HF := Lib.hid (show formed a.neg a.m (a.e + 1) = (r, code) from h)
  have hwr : IntKind.i64.wrap ((a.e : Int) + 1) = ((a.e + 1 : Nat) : Int) := by rw [IntKind.wrap_i64]; omega
  have HW := Lib.hid hwr
  have hx : 2 ^ (a.e - a.e) * a.m = a.m := by rw [Nat.sub_self, Nat.pow_zero, Nat.one_mul]
  have HX := Lib.hid hx
  clear hwr h hx ha
  generalize hw : (w.alloc (.cells #[.bool a.neg, .slice A1 n1 c1, .int .i64 a.e] 24)).alloc (.cells #[.bool false, .slice none 0 0, .int .i64 0] 24) = w1 at *
  obtain ⟨D1, D2, b1, l1, l2⟩ := boxes2 w _ _ hw
  replace h1 := h1.below b1 (Nat.le_refl _)
  obtain ⟨⟨pD1, qD1, rD1⟩, uD1, vD1, xD1⟩ := boxD D1
  go_enter Tryd.func25, Tryd.ntmps25
  go_wp2_with fail
  try clear hw
  refine (rMay_ok w1 0 w.heap.size a.neg A1 n1 c1 _ a.e h1 (by omega) ma.out).mono ?_
  rintro e' w2 ⟨rfl, hB⟩
  clear pD1 qD1 rD1 uD1 vD1 xD1
  have lw2 : w1.heap.size ≤ w2.heap.size := hB.size
  replace h1 := h1.below hB (by omega)
  replace D1 := (hB.block _ (by omega)).trans D1
  replace D2 := (hB.block _ (by omega)).trans D2
  have c3 := b1.trans (hB.mono (by omega))
  clear hB
  go_wp2_with fail
  have kD : Keeps w2 w2.drew := fun _ _ => rfl
  have hB : Below w2.heap.size w2 w2.drew := (Below.refl _ _).drew
  refine region_E (Keeps w2) [12] (m := 14) (L := #[false, false, false, false, false, false, false, false, false, false, false, false, false, false]) (by kernel_rfl) (by rfl) (by rfl) ?_
  generalize w2.drew = w4 at *
  have lw4 : w2.heap.size ≤ w4.heap.size := hB.size
  have sv_D1 := D1
  have sv_D2 := D2
  replace h1 := h1.below hB (by omega)
  replace D1 := (hB.block _ (by omega)).trans D1
  replace D2 := (hB.block _ (by omega)).trans D2
  have hB0 := hB
  clear hB
  refine pureE (i := 1) (L := #[false, true, false, false, false, false, false, false, false, false, false, false, false, false]) (v := ?_) rfl (by rfl) (by kernel_rfl) (by kernel_rfl) (by kernel_rfl) (fun _ _ _ h => h) (by rfl) ?hy22 ?rest22
  case hy22 => intro w; go_simp; (try with_reducible rfl)
  try simp only [Act.put, List.setIfInBounds_toArray, List.set_cons_zero, List.set_cons_succ]
  refine pureE (i := 4) (L := #[false, true, false, false, true, false, false, false, false, false, false, false, false, false]) (v := ?_) rfl (by rfl) (by kernel_rfl) (by kernel_rfl) (by kernel_rfl) (fun _ _ _ h => h) (by rfl) ?hy23 ?rest23
  case hy23 => intro w; go_simp; (try with_reducible rfl)
  try simp only [Act.put, List.setIfInBounds_toArray, List.set_cons_zero, List.set_cons_succ]
  refine readE (i := 0) (L := #[true, true, false, false, true, false, false, false, false, false, false, false, false, false]) (v := .agg #[.bool a.neg, .slice A1 n1 c1, .int .i64 a.e]) rfl (by rfl) (by kernel_rfl) (by kernel_rfl) (by kernel_rfl) (fun _ _ _ h => h) (by assumption) (by rfl) ?hy0_1 ?rest0_1
  case hy0_1 =>
    intro w' h1
    obtain ⟨⟨k1, k2, k3⟩, _⟩ := boxD ((h1 _ (by omega)).trans sv_D1)
    go_simp
  try simp only [Act.put, List.setIfInBounds_toArray, List.set_cons_zero, List.set_cons_succ]
  refine readE (i := 2) (L := #[true, true, true, false, true, false, false, false, false, false, false, false, false, false]) (v := .int .i64 a.e) rfl (by rfl) (by kernel_rfl) (by kernel_rfl) (by kernel_rfl) (fun _ _ _ h => h) (by assumption) (by rfl) ?hy2_2 ?rest2_2
  case hy2_2 =>
    intro w' h1
    obtain ⟨⟨k1, k2, k3⟩, _⟩ := boxD ((h1 _ (by omega)).trans sv_D1)
    go_simp
  try simp only [Act.put, List.setIfInBounds_toArray, List.set_cons_zero, List.set_cons_succ]
  refine readE (i := 5) (L := #[true, true, true, false, true, true, false, false, false, false, false, false, false, false]) (v := .int .i64 a.e) rfl (by rfl) (by kernel_rfl) (by kernel_rfl) (by kernel_rfl) (fun _ _ _ h => h) (by assumption) (by rfl) ?hy5_3 ?rest5_3
  case hy5_3 =>
    intro w' h1
    obtain ⟨⟨k1, k2, k3⟩, _⟩ := boxD ((h1 _ (by omega)).trans sv_D1)
    go_simp
  try simp only [Act.put, List.setIfInBounds_toArray, List.set_cons_zero, List.set_cons_succ]
  have hwr := HW.out
  refine pureE (i := 6) (L := #[true, true, true, false, true, true, true, false, false, false, false, false, false, false]) (v := ?_) rfl (by rfl) (by kernel_rfl) (by kernel_rfl) (by kernel_rfl) (fun _ _ _ h => h) (by rfl) ?hy27 ?rest27
  case hy27 => intro w; go_simp; (try with_reducible rfl)
  try simp only [Act.put, List.setIfInBounds_toArray, List.set_cons_zero, List.set_cons_succ]
  refine stepK2 (i := 3) (j := 11) (Li := #[true, true, true, true, true, true, true, false, false, false, false, false, false, false]) (Lj := #[true, true, true, false, true, true, true, false, false, false, false, true, false, false]) rfl rfl (by rfl) (by rfl) (by kernel_rfl) (by rfl) (by rfl) (fun K hK => ?o3_4) (fun K hK => ?o11_4)
  case o3_4 =>
    
    go_simp
    go_at_call 69
    refine (In_any w4 a.neg a.m a.e A1 n1 c1 (h1.more (Nat.zero_le _) (by omega)) hn1 a.e (Nat.le_refl _) (by omega) a.m HX.out a.e rfl).mono ?_
    rintro e' w5 ⟨P1, i1, d1, rfl, lc1, ln1, hB, IN1⟩
    have lw5 : w4.heap.size ≤ w5.heap.size := hB.size
    replace h1 := h1.below hB (by omega)
    replace D1 := (hB.block _ (by omega)).trans D1
    replace D2 := (hB.block _ (by omega)).trans D2
    have c6 := hB0.trans (hB.mono (by omega))
    clear hB
    refine hK _ _ ⟨fun _ _ p hp => c6.block p hp, ?_⟩
    clear hK K
    try simp only [Act.put, List.setIfInBounds_toArray, List.set_cons_zero, List.set_cons_succ]
    refine stepK2 (i := 7) (j := 11) (Li := #[true, true, true, true, true, true, true, true, false, false, false, false, false, false]) (Lj := #[true, true, true, true, true, true, true, false, false, false, false, true, false, false]) rfl rfl (by rfl) (by rfl) (by kernel_rfl) (by rfl) (by rfl) (fun K hK => ?o7_5) (fun K hK => ?o11_5)
    case o7_5 =>
      
      go_simp
      go_at_call 67
      refine (rFormed_any w5 a.neg P1 i1 d1 _ (IN1.more (Nat.zero_le _) (by omega)) dig2 lc1 (by omega) (a.e + 1) (by omega) _ rfl a.m num2 r code HF.out).mono ?_
      rintro e' w7 ⟨P4, i4, d4, rfl, lc4, hB, IN4⟩
      have lw7 : w5.heap.size ≤ w7.heap.size := hB.size
      replace h1 := h1.below hB (by omega)
      replace IN1 := IN1.below hB (by omega)
      replace D1 := (hB.block _ (by omega)).trans D1
      replace D2 := (hB.block _ (by omega)).trans D2
      have c8 := c6.trans (hB.mono (by omega))
      clear hB
      refine hK _ _ ⟨fun _ _ p hp => c8.block p hp, ?_⟩
      clear hK K
      try simp only [Act.put, List.setIfInBounds_toArray, List.set_cons_zero, List.set_cons_succ]
      refine pureE (i := 8) (L := #[true, true, true, true, true, true, true, true, true, false, false, false, false, false]) (v := ?_) rfl (by rfl) (by kernel_rfl) (by kernel_rfl) (by kernel_rfl) (fun _ _ _ h => h) (by rfl) ?hy28 ?rest28
      case hy28 => intro w; go_simp; (try with_reducible rfl)
      try simp only [Act.put, List.setIfInBounds_toArray, List.set_cons_zero, List.set_cons_succ]
      refine pureE (i := 9) (L := #[true, true, true, true, true, true, true, true, true, true, false, false, false, false]) (v := ?_) rfl (by rfl) (by kernel_rfl) (by kernel_rfl) (by kernel_rfl) (fun _ _ _ h => h) (by rfl) ?hy29 ?rest29
      case hy29 => intro w; go_simp; (try with_reducible rfl)
      try simp only [Act.put, List.setIfInBounds_toArray, List.set_cons_zero, List.set_cons_succ]
      refine pureE (i := 10) (L := #[true, true, true, true, true, true, true, true, true, true, true, false, false, false]) (v := ?_) rfl (by rfl) (by kernel_rfl) (by kernel_rfl) (by kernel_rfl) (fun _ _ _ h => h) (by rfl) ?hy30 ?rest30
      case hy30 => intro w; go_simp; (try with_reducible rfl)
      try simp only [Act.put, List.setIfInBounds_toArray, List.set_cons_zero, List.set_cons_succ]
      refine stepK (i := 11) (L := #[true, true, true, true, true, true, true, true, true, true, true, true, false, false]) rfl (by rfl) (by kernel_rfl) (by rfl) (fun K hK => ?_)
      go_simp
      have hB := (Below.refl w7.heap.size w7).alloc (Nat.le_refl _) (.cells #[.bool false, .slice none 0 0, .int .i64 0] 24)
      have D4 := heap_alloc_last w7 (.cells #[.bool false, .slice none 0 0, .int .i64 0] 24)
      have mw9 : w7.heap.size < (w7.alloc (.cells #[.bool false, .slice none 0 0, .int .i64 0] 24)).heap.size := by simp
      generalize hw : w7.alloc (.cells #[.bool false, .slice none 0 0, .int .i64 0] 24) = w9 at *
      have lw9 : w7.heap.size ≤ w9.heap.size := hB.size
      replace h1 := h1.below hB (by omega)
      replace IN1 := IN1.below hB (by omega)
      replace IN4 := IN4.below hB (by omega)
      replace D1 := (hB.block _ (by omega)).trans D1
      replace D2 := (hB.block _ (by omega)).trans D2
      have c10 := c8.trans (hB.mono (by omega))
      clear hB
      try clear hw
      refine hK _ _ ⟨fun _ _ p hp => c10.block p hp, ?_⟩
      clear hK K
      try simp only [Act.put, List.setIfInBounds_toArray, List.set_cons_zero, List.set_cons_succ]
      refine stepK (i := 12) (L := #[true, true, true, true, true, true, true, true, true, true, true, true, true, false]) rfl (by rfl) (by kernel_rfl) (by rfl) (fun K hK => ?_)
      go_simp
      obtain ⟨⟨p1, p2, p3⟩, p4, p5, p6⟩ := boxD D4
      go_simp
      refine hK _ _ ⟨fun h => absurd h (by decide), ?_⟩
      clear hK K
      try simp only [Act.put, List.setIfInBounds_toArray, List.set_cons_zero, List.set_cons_succ]
      refine pureE (i := 13) (L := #[true, true, true, true, true, true, true, true, true, true, true, true, true, true]) (v := ?_) rfl (by rfl) (by kernel_rfl) (by kernel_rfl) (by kernel_rfl) (fun _ _ _ h => h) (by rfl) ?hy33 ?rest33
      case hy33 => intro w; go_simp; (try with_reducible rfl)
      try simp only [Act.put, List.setIfInBounds_toArray, List.set_cons_zero, List.set_cons_succ]
      refine doneE (by kernel_rfl) ?_ _
      clear p1 p2 p3 p4 p5 p6
      have q4 := box_put D4 (.bool r.neg) (.slice P4 i4 d4) (.int .i64 r.e)
      have d7 := below_put c10 (by omega : w2.heap.size ≤ w7.heap.size) (.bool r.neg) (.slice P4 i4 d4) (.int .i64 r.e)
      have J4 := ints_put IN4 (g := w7.heap.size) (by omega) (.bool r.neg) (.slice P4 i4 d4) (.int .i64 r.e)
      have s7 : w9.heap.size ≤ (((w9.setCell ⟨w7.heap.size, 0, none⟩ (.bool r.neg)).setCell ⟨w7.heap.size, 1, none⟩ (.slice P4 i4 d4)).setCell ⟨w7.heap.size, 2, none⟩ (.int .i64 r.e)).heap.size := by rw [size_put]; exact Nat.le_refl _
      generalize hw : ((w9.setCell ⟨w7.heap.size, 0, none⟩ (.bool r.neg)).setCell ⟨w7.heap.size, 1, none⟩ (.slice P4 i4 d4)).setCell ⟨w7.heap.size, 2, none⟩ (.int .i64 r.e) = w11 at *
      try clear hw
      have e8 := c3.trans (d7.mono (by omega))
      have X9 := (d7.block _ (by omega)).trans sv_D2
      obtain ⟨⟨p1, p2, p3⟩, p4, p5, p6⟩ := boxD q4
      obtain ⟨⟨z1, z2, z3⟩, z4, z5, z6⟩ := boxD X9
      go_wp2
      refine bodyPost_ret (v := .tuple #[.agg #[.bool r.neg, .slice P4 i4 d4, .int .i64 r.e], .int .i64 code]) (by simp [results, Tryd.results25, go_sem, z1, z2, z3]) rfl ⟨P4, i4, d4, rfl, lc4, ?_, ?_⟩
      · exact below_put e8 (by omega) _ _ _
      · exact (ints_put J4 (.inl (by omega)) _ _ _).more (by omega) (by rw [size_put]; omega)
    case o11_5 =>
      
      go_simp
      have hB := (Below.refl w5.heap.size w5).alloc (Nat.le_refl _) (.cells #[.bool false, .slice none 0 0, .int .i64 0] 24)
      have D4 := heap_alloc_last w5 (.cells #[.bool false, .slice none 0 0, .int .i64 0] 24)
      have mw12 : w5.heap.size < (w5.alloc (.cells #[.bool false, .slice none 0 0, .int .i64 0] 24)).heap.size := by simp
      generalize hw : w5.alloc (.cells #[.bool false, .slice none 0 0, .int .i64 0] 24) = w12 at *
      have lw12 : w5.heap.size ≤ w12.heap.size := hB.size
      replace h1 := h1.below hB (by omega)
      replace IN1 := IN1.below hB (by omega)
      replace D1 := (hB.block _ (by omega)).trans D1
      replace D2 := (hB.block _ (by omega)).trans D2
      have c13 := c6.trans (hB.mono (by omega))
      clear hB
      try clear hw
      refine hK _ _ ⟨fun _ _ p hp => c13.block p hp, ?_⟩
      clear hK K
      try simp only [Act.put, List.setIfInBounds_toArray, List.set_cons_zero, List.set_cons_succ]
      refine stepK (i := 7) (L := #[true, true, true, true, true, true, true, true, false, false, false, true, false, false]) rfl (by rfl) (by kernel_rfl) (by rfl) (fun K hK => ?_)
      go_simp
      go_at_call 67
      refine (rFormed_any w12 a.neg P1 i1 d1 _ (IN1.more (Nat.zero_le _) (by omega)) dig2 lc1 (by omega) (a.e + 1) (by omega) _ rfl a.m num2 r code HF.out).mono ?_
      rintro e' w14 ⟨P4, i4, d4, rfl, lc4, hB, IN4⟩
      have lw14 : w12.heap.size ≤ w14.heap.size := hB.size
      replace h1 := h1.below hB (by omega)
      replace IN1 := IN1.below hB (by omega)
      replace D1 := (hB.block _ (by omega)).trans D1
      replace D2 := (hB.block _ (by omega)).trans D2
      replace D4 := (hB.block _ (by omega)).trans D4
      have c15 := c13.trans (hB.mono (by omega))
      clear hB
      refine hK _ _ ⟨fun _ _ p hp => c15.block p hp, ?_⟩
      clear hK K
      try simp only [Act.put, List.setIfInBounds_toArray, List.set_cons_zero, List.set_cons_succ]
      refine pureE (i := 8) (L := #[true, true, true, true, true, true, true, true, true, false, false, true, false, false]) (v := ?_) rfl (by rfl) (by kernel_rfl) (by kernel_rfl) (by kernel_rfl) (fun _ _ _ h => h) (by rfl) ?hy35 ?rest35
      case hy35 => intro w; go_simp; (try with_reducible rfl)
      try simp only [Act.put, List.setIfInBounds_toArray, List.set_cons_zero, List.set_cons_succ]
      refine pureE (i := 9) (L := #[true, true, true, true, true, true, true, true, true, true, false, true, false, false]) (v := ?_) rfl (by rfl) (by kernel_rfl) (by kernel_rfl) (by kernel_rfl) (fun _ _ _ h => h) (by rfl) ?hy36 ?rest36
      case hy36 => intro w; go_simp; (try with_reducible rfl)
      try simp only [Act.put, List.setIfInBounds_toArray, List.set_cons_zero, List.set_cons_succ]
      refine pureE (i := 10) (L := #[true, true, true, true, true, true, true, true, true, true, true, true, false, false]) (v := ?_) rfl (by rfl) (by kernel_rfl) (by kernel_rfl) (by kernel_rfl) (fun _ _ _ h => h) (by rfl) ?hy37 ?rest37
      case hy37 => intro w; go_simp; (try with_reducible rfl)
      try simp only [Act.put, List.setIfInBounds_toArray, List.set_cons_zero, List.set_cons_succ]
      refine stepK (i := 12) (L := #[true, true, true, true, true, true, true, true, true, true, true, true, true, false]) rfl (by rfl) (by kernel_rfl) (by rfl) (fun K hK => ?_)
      go_simp
      obtain ⟨⟨p1, p2, p3⟩, p4, p5, p6⟩ := boxD D4
      go_simp
      refine hK _ _ ⟨fun h => absurd h (by decide), ?_⟩
      clear hK K
      try simp only [Act.put, List.setIfInBounds_toArray, List.set_cons_zero, List.set_cons_succ]
      refine pureE (i := 13) (L := #[true, true, true, true, true, true, true, true, true, true, true, true, true, true]) (v := ?_) rfl (by rfl) (by kernel_rfl) (by kernel_rfl) (by kernel_rfl) (fun _ _ _ h => h) (by rfl) ?hy39 ?rest39
      case hy39 => intro w; go_simp; (try with_reducible rfl)
      try simp only [Act.put, List.setIfInBounds_toArray, List.set_cons_zero, List.set_cons_succ]
      refine doneE (by kernel_rfl) ?_ _
      clear p1 p2 p3 p4 p5 p6
      have q4 := box_put D4 (.bool r.neg) (.slice P4 i4 d4) (.int .i64 r.e)
      have d7 := below_put c15 (by omega : w2.heap.size ≤ w5.heap.size) (.bool r.neg) (.slice P4 i4 d4) (.int .i64 r.e)
      have J4 := ints_put IN4 (g := w5.heap.size) (by omega) (.bool r.neg) (.slice P4 i4 d4) (.int .i64 r.e)
      have s7 : w14.heap.size ≤ (((w14.setCell ⟨w5.heap.size, 0, none⟩ (.bool r.neg)).setCell ⟨w5.heap.size, 1, none⟩ (.slice P4 i4 d4)).setCell ⟨w5.heap.size, 2, none⟩ (.int .i64 r.e)).heap.size := by rw [size_put]; exact Nat.le_refl _
      generalize hw : ((w14.setCell ⟨w5.heap.size, 0, none⟩ (.bool r.neg)).setCell ⟨w5.heap.size, 1, none⟩ (.slice P4 i4 d4)).setCell ⟨w5.heap.size, 2, none⟩ (.int .i64 r.e) = w16 at *
      try clear hw
      have e8 := c3.trans (d7.mono (by omega))
      have X9 := (d7.block _ (by omega)).trans sv_D2
      obtain ⟨⟨p1, p2, p3⟩, p4, p5, p6⟩ := boxD q4
      obtain ⟨⟨z1, z2, z3⟩, z4, z5, z6⟩ := boxD X9
      go_wp2
      refine bodyPost_ret (v := .tuple #[.agg #[.bool r.neg, .slice P4 i4 d4, .int .i64 r.e], .int .i64 code]) (by simp [results, Tryd.results25, go_sem, z1, z2, z3]) rfl ⟨P4, i4, d4, rfl, lc4, ?_, ?_⟩
      · exact below_put e8 (by omega) _ _ _
      · exact (ints_put J4 (.inl (by omega)) _ _ _).more (by omega) (by rw [size_put]; omega)
  case o11_4 =>
    
    go_simp
    have hB := (Below.refl w4.heap.size w4).alloc (Nat.le_refl _) (.cells #[.bool false, .slice none 0 0, .int .i64 0] 24)
    have D4 := heap_alloc_last w4 (.cells #[.bool false, .slice none 0 0, .int .i64 0] 24)
    have mw17 : w4.heap.size < (w4.alloc (.cells #[.bool false, .slice none 0 0, .int .i64 0] 24)).heap.size := by simp
    generalize hw : w4.alloc (.cells #[.bool false, .slice none 0 0, .int .i64 0] 24) = w17 at *
    have lw17 : w4.heap.size ≤ w17.heap.size := hB.size
    replace h1 := h1.below hB (by omega)
    replace D1 := (hB.block _ (by omega)).trans D1
    replace D2 := (hB.block _ (by omega)).trans D2
    have c18 := hB0.trans (hB.mono (by omega))
    clear hB
    try clear hw
    refine hK _ _ ⟨fun _ _ p hp => c18.block p hp, ?_⟩
    clear hK K
    try simp only [Act.put, List.setIfInBounds_toArray, List.set_cons_zero, List.set_cons_succ]
    refine stepK (i := 3) (L := #[true, true, true, true, true, true, true, false, false, false, false, true, false, false]) rfl (by rfl) (by kernel_rfl) (by rfl) (fun K hK => ?_)
    go_simp
    go_at_call 69
    refine (In_any w17 a.neg a.m a.e A1 n1 c1 (h1.more (Nat.zero_le _) (by omega)) hn1 a.e (Nat.le_refl _) (by omega) a.m HX.out a.e rfl).mono ?_
    rintro e' w19 ⟨P1, i1, d1, rfl, lc1, ln1, hB, IN1⟩
    have lw19 : w17.heap.size ≤ w19.heap.size := hB.size
    replace h1 := h1.below hB (by omega)
    replace D1 := (hB.block _ (by omega)).trans D1
    replace D2 := (hB.block _ (by omega)).trans D2
    replace D4 := (hB.block _ (by omega)).trans D4
    have c20 := c18.trans (hB.mono (by omega))
    clear hB
    refine hK _ _ ⟨fun _ _ p hp => c20.block p hp, ?_⟩
    clear hK K
    try simp only [Act.put, List.setIfInBounds_toArray, List.set_cons_zero, List.set_cons_succ]
    refine stepK (i := 7) (L := #[true, true, true, true, true, true, true, true, false, false, false, true, false, false]) rfl (by rfl) (by kernel_rfl) (by rfl) (fun K hK => ?_)
    go_simp
    go_at_call 67
    refine (rFormed_any w19 a.neg P1 i1 d1 _ (IN1.more (Nat.zero_le _) (by omega)) dig2 lc1 (by omega) (a.e + 1) (by omega) _ rfl a.m num2 r code HF.out).mono ?_
    rintro e' w21 ⟨P4, i4, d4, rfl, lc4, hB, IN4⟩
    have lw21 : w19.heap.size ≤ w21.heap.size := hB.size
    replace h1 := h1.below hB (by omega)
    replace IN1 := IN1.below hB (by omega)
    replace D1 := (hB.block _ (by omega)).trans D1
    replace D2 := (hB.block _ (by omega)).trans D2
    replace D4 := (hB.block _ (by omega)).trans D4
    have c22 := c20.trans (hB.mono (by omega))
    clear hB
    refine hK _ _ ⟨fun _ _ p hp => c22.block p hp, ?_⟩
    clear hK K
    try simp only [Act.put, List.setIfInBounds_toArray, List.set_cons_zero, List.set_cons_succ]
    refine pureE (i := 8) (L := #[true, true, true, true, true, true, true, true, true, false, false, true, false, false]) (v := ?_) rfl (by rfl) (by kernel_rfl) (by kernel_rfl) (by kernel_rfl) (fun _ _ _ h => h) (by rfl) ?hy42 ?rest42
    case hy42 => intro w; go_simp; (try with_reducible rfl)
    try simp only [Act.put, List.setIfInBounds_toArray, List.set_cons_zero, List.set_cons_succ]
    refine pureE (i := 9) (L := #[true, true, true, true, true, true, true, true, true, true, false, true, false, false]) (v := ?_) rfl (by rfl) (by kernel_rfl) (by kernel_rfl) (by kernel_rfl) (fun _ _ _ h => h) (by rfl) ?hy43 ?rest43
    case hy43 => intro w; go_simp; (try with_reducible rfl)
    try simp only [Act.put, List.setIfInBounds_toArray, List.set_cons_zero, List.set_cons_succ]
    refine pureE (i := 10) (L := #[true, true, true, true, true, true, true, true, true, true, true, true, false, false]) (v := ?_) rfl (by rfl) (by kernel_rfl) (by kernel_rfl) (by kernel_rfl) (fun _ _ _ h => h) (by rfl) ?hy44 ?rest44
    case hy44 => intro w; go_simp; (try with_reducible rfl)
    try simp only [Act.put, List.setIfInBounds_toArray, List.set_cons_zero, List.set_cons_succ]
    refine stepK (i := 12) (L := #[true, true, true, true, true, true, true, true, true, true, true, true, true, false]) rfl (by rfl) (by kernel_rfl) (by rfl) (fun K hK => ?_)
    go_simp
    obtain ⟨⟨p1, p2, p3⟩, p4, p5, p6⟩ := boxD D4
    go_simp
    refine hK _ _ ⟨fun h => absurd h (by decide), ?_⟩
    clear hK K
    try simp only [Act.put, List.setIfInBounds_toArray, List.set_cons_zero, List.set_cons_succ]
    refine pureE (i := 13) (L := #[true, true, true, true, true, true, true, true, true, true, true, true, true, true]) (v := ?_) rfl (by rfl) (by kernel_rfl) (by kernel_rfl) (by kernel_rfl) (fun _ _ _ h => h) (by rfl) ?hy46 ?rest46
    case hy46 => intro w; go_simp; (try with_reducible rfl)
    try simp only [Act.put, List.setIfInBounds_toArray, List.set_cons_zero, List.set_cons_succ]
    refine doneE (by kernel_rfl) ?_ _
    clear p1 p2 p3 p4 p5 p6
    have q4 := box_put D4 (.bool r.neg) (.slice P4 i4 d4) (.int .i64 r.e)
    have d7 := below_put c22 (by omega : w2.heap.size ≤ w4.heap.size) (.bool r.neg) (.slice P4 i4 d4) (.int .i64 r.e)
    have J4 := ints_put IN4 (g := w4.heap.size) (by omega) (.bool r.neg) (.slice P4 i4 d4) (.int .i64 r.e)
    have s7 : w21.heap.size ≤ (((w21.setCell ⟨w4.heap.size, 0, none⟩ (.bool r.neg)).setCell ⟨w4.heap.size, 1, none⟩ (.slice P4 i4 d4)).setCell ⟨w4.heap.size, 2, none⟩ (.int .i64 r.e)).heap.size := by rw [size_put]; exact Nat.le_refl _
    generalize hw : ((w21.setCell ⟨w4.heap.size, 0, none⟩ (.bool r.neg)).setCell ⟨w4.heap.size, 1, none⟩ (.slice P4 i4 d4)).setCell ⟨w4.heap.size, 2, none⟩ (.int .i64 r.e) = w23 at *
    try clear hw
    have e8 := c3.trans (d7.mono (by omega))
    have X9 := (d7.block _ (by omega)).trans sv_D2
    obtain ⟨⟨p1, p2, p3⟩, p4, p5, p6⟩ := boxD q4
    obtain ⟨⟨z1, z2, z3⟩, z4, z5, z6⟩ := boxD X9
    go_wp2
    refine bodyPost_ret (v := .tuple #[.agg #[.bool r.neg, .slice P4 i4 d4, .int .i64 r.e], .int .i64 code]) (by simp [results, Tryd.results25, go_sem, z1, z2, z3]) rfl ⟨P4, i4, d4, rfl, lc4, ?_, ?_⟩
    · exact below_put e8 (by omega) _ _ _
    · exact (ints_put J4 (.inl (by omega)) _ _ _).more (by omega) (by rw [size_put]; omega)
theorem rAdd_all (w : World) (s1 s2 : Bool) (A1 A2 : Option Addr) (n1 c1 n2 c2 : Nat) (xs1 xs2 : List Int) (e1 e2 : Int) (h1 : Ints w 0 w.heap.size .u32 A1 n1 xs1) (h2 : Ints w 0 w.heap.size .u32 A2 n2 xs2) (r : Dn) (code : Int) (h : addX s1 xs1 e1 s2 xs2 e2 = (r, code)) :
    Calls Tryd.prog 21 #[.agg #[.bool s1, .slice A1 n1 c1, .int .i64 e1], .agg #[.bool s2, .slice A2 n2 c2, .int .i64 e2]] w (Formed w r code) := by
  unfold addX at h
  split at h
  · rename_i hm
    obtain ⟨y1, k1, k2⟩ := dn_ok (dig_ints h1) hm.1
    obtain ⟨y2, k3, k4⟩ := dn_ok (dig_ints h2) hm.2
    have := rAdd_dn w (dn s1 xs1 e1) (dn s2 xs2 e2) y1 y2 A1 A2 n1 c1 n2 c2 (by rw [k1]; exact h1) (by rw [k3]; exact h2) r code h
    rw [k2, k4] at this
    exact this
  · rename_i hm
    injection h with h3 h4
    subst h3 h4
    exact (rAdd_bad w s1 s2 A1 A2 n1 c1 n2 c2 xs1 xs2 e1 e2 h1 h2 (Classical.not_and_iff_not_or_not.1 hm)).mono fun _ _ k => bad_formed k
theorem rSub_all (w : World) (s1 s2 : Bool) (A1 A2 : Option Addr) (n1 c1 n2 c2 : Nat) (xs1 xs2 : List Int) (e1 e2 : Int) (h1 : Ints w 0 w.heap.size .u32 A1 n1 xs1) (h2 : Ints w 0 w.heap.size .u32 A2 n2 xs2) (r : Dn) (code : Int) (h : subX s1 xs1 e1 s2 xs2 e2 = (r, code)) :
    Calls Tryd.prog 23 #[.agg #[.bool s1, .slice A1 n1 c1, .int .i64 e1], .agg #[.bool s2, .slice A2 n2 c2, .int .i64 e2]] w (Formed w r code) := by
  unfold subX at h
  split at h
  · rename_i hm
    obtain ⟨y1, k1, k2⟩ := dn_ok (dig_ints h1) hm.1
    obtain ⟨y2, k3, k4⟩ := dn_ok (dig_ints h2) hm.2
    have := rSub_dn w (dn s1 xs1 e1) (dn s2 xs2 e2) y1 y2 A1 A2 n1 c1 n2 c2 (by rw [k1]; exact h1) (by rw [k3]; exact h2) r code h
    rw [k2, k4] at this
    exact this
  · rename_i hm
    injection h with h3 h4
    subst h3 h4
    exact (rSub_bad w s1 s2 A1 A2 n1 c1 n2 c2 xs1 xs2 e1 e2 h1 h2 (Classical.not_and_iff_not_or_not.1 hm)).mono fun _ _ k => bad_formed k
theorem rHalf_all (w : World) (s1 : Bool) (A1 : Option Addr) (n1 c1 : Nat) (xs1 : List Int) (e1 : Int) (h1 : Ints w 0 w.heap.size .u32 A1 n1 xs1) (r : Dn) (code : Int) (h : halfX s1 xs1 e1 = (r, code)) :
    Calls Tryd.prog 25 #[.agg #[.bool s1, .slice A1 n1 c1, .int .i64 e1]] w (Formed w r code) := by
  unfold halfX at h
  split at h
  · rename_i hm
    obtain ⟨y1, k1, k2⟩ := dn_ok (dig_ints h1) hm
    have := rHalf_dn w (dn s1 xs1 e1) y1 A1 n1 c1 (by rw [k1]; exact h1) r code h
    rw [k2] at this
    exact this
  · rename_i hm
    injection h with h3 h4
    subst h3 h4
    exact (rHalf_bad w s1 A1 n1 c1 xs1 e1 h1 hm).mono fun _ _ k => bad_formed k
end Dy
end Go.Proofs.YtlbkepiflhchdaaDoor

namespace Go.Proofs.YtlbkepiflhchdaaDoor
open Go.RowKit
namespace Dy
open Dp
/-- Cells that may be written. -/
def WrD (w : World) (b off n : Nat) : Prop := ∀ j, j < n → (∃ u, w.cell? ⟨b, off + j, none⟩ = some u) ∧ w.frozen? ⟨b, off + j, none⟩ = false
theorem WrD.set_ {w : World} {b off n : Nat} (h : WrD w b off n) (p : Addr) (v : Value) : WrD (w.setCell p v) b off n := fun j hj => by
  obtain ⟨⟨u, h1⟩, h2⟩ := h j hj
  refine ⟨?_, by rw [World.frozen?_setCell]; exact h2⟩
  by_cases e : p = ⟨b, off + j, none⟩
  · subst e
    exact ⟨v, World.cell?_setCell_same' _ _ _ (by rw [h1]; rfl)⟩
  · exact ⟨u, (World.cell?_setCell_other _ _ _ _ e).trans h1⟩
/-- What lies from hi on stays, too. -/
def From (hi : Nat) (w w' : World) : Prop := ∀ k, hi ≤ k → k < w.heap.size → w'.heap[k]? = w.heap[k]?
theorem From.setCell {hi : Nat} {w0 w : World} (h : From hi w0 w) {p : Addr} (hp : p.block < hi) (v : Value) : From hi w0 (w.setCell p v) := fun k h1 h2 => by
  rw [← h k h1 h2]
  exact Below.heap_setCell _ _ _ _ (by omega)
set_option maxHeartbeats 800000 in
set_option maxRecDepth 100000 in
/-- headcountlaw02.spoil: just the row's own range is written. -/
theorem spoilD_any (w : World) (s : Bool) (A : Option Addr) (n c : Nat) (xs : List Int) (ex : Int) (lo hi : Nat) (h : Ints w lo hi .u32 A n xs) (hn : n ≤ 1000000) (hhi : hi ≤ w.heap.size) (hlo : lo ≤ w.heap.size) :
    Calls Tryd.prog 27 #[.agg #[.bool s, .slice A n c, .int .i64 ex]] w fun e w' => e = .returned (.tuple #[]) ∧ Below lo w w' ∧ From hi w w' := by
  generalize hw : w.alloc (.cells #[.bool s, .slice A n c, .int .i64 ex] 24) = w1 at *
  have X1 : w1.heap[w.heap.size]? = some (.cells #[.bool s, .slice A n c, .int .i64 ex] 24 (0, 0)) := by rw [← hw]; exact heap_alloc_last _ _
  have b1 : Below lo w w1 := by rw [← hw]; exact (Below.refl _ w).alloc hlo _
  have f1 : From hi w w1 := by rw [← hw]; exact fun k _ h2 => Below.heap_alloc _ _ _ h2
  have hc : 0 < n → ∃ b off, A = some ⟨b, off, none⟩ ∧ lo ≤ b ∧ b < hi ∧ WrD w1 b off n := fun h0 => by
    obtain ⟨b, off, e, h1, h2, hc⟩ := h.row h0
    refine ⟨b, off, e, h1, h2, fun j hj => ?_⟩
    have h3 : w1.heap[b]? = w.heap[b]? := by rw [← hw]; exact Below.heap_alloc _ _ _ (by omega)
    obtain ⟨h4, h5⟩ := hc j hj
    exact ⟨⟨_, by rw [World.cell?_of_block h3]; exact h4⟩, by rw [World.frozen?_of_block h3]; exact h5⟩
  clear h
  go_enter Tryd.func27, Tryd.ntmps27
  go_wp2
  try clear hw
  go_loopw [2] (fun iv wr => ∃ i : Nat, iv = .int .i64 i ∧ i ≤ n ∧ wr.heap[w.heap.size]? = some (.cells #[.bool s, .slice A n c, .int .i64 ex] 24 (0, 0)) ∧ Below lo w wr ∧ From hi w wr ∧ (0 < n → ∃ b off, A = some ⟨b, off, none⟩ ∧ lo ≤ b ∧ b < hi ∧ WrD wr b off n)) (fun iv _ => n - (intOf iv).toNat)
  case atStart => exact ⟨0, rfl, Nat.zero_le _, X1, b1, f1, hc⟩
  case round =>
    clear X1 b1 f1 hc
    obtain ⟨i, rfl, hi1, X1, b1, f1, hc⟩ := hrel
    obtain ⟨⟨y1, y2, y3⟩, y4, y5, y6⟩ := boxD X1
    by_cases hlt : i < n
    · obtain ⟨b, off, rfl, hb1, hb2, hW⟩ := hc (by omega)
      clear hc
      obtain ⟨⟨u, q1⟩, q2⟩ := hW i hlt
      have hwr : IntKind.i64.wrap ((i : Int) + 1) = ((i + 1 : Nat) : Int) := by rw [IntKind.wrap_i64]; omega
      go_wp2
      go_roundw
      case rel => exact ⟨i + 1, by first | rfl | (congr 1; omega) | go_num, by omega, (Below.heap_setCell _ _ _ _ (by simp; omega)).trans X1, b1.setCell hb1 _, f1.setCell hb2 _, fun _ => ⟨b, off, rfl, hb1, hb2, hW.set_ _ _⟩⟩
      case measure => first | (simp [intOf]; done) | (simp [intOf]; omega)
    · obtain rfl : i = n := by omega
      clear hc
      go_wp2
      go_end0
      exact ⟨rfl, b1, f1⟩
theorem ints_spoilt {w w' : World} {lo hi l h n : Nat} {k : IntKind} {A : Option Addr} {xs : List Int} (hI : Ints w l h k A n xs) (hb : Below lo w w') (hf : From hi w w') (hs : h ≤ w.heap.size) (hd : h ≤ lo ∨ hi ≤ l) : Ints w' l h k A n xs :=
  ⟨hI.len, hI.wf, hI.big, fun h0 => by
    obtain ⟨b, off, e, h1, h2, hc⟩ := hI.row h0
    have h3 : w'.heap[b]? = w.heap[b]? := by
      rcases hd with hd | hd
      · exact hb.block b (by omega)
      · exact hf b (by omega) (by omega)
    exact ⟨b, off, e, h1, h2, fun j hj => ⟨by rw [World.cell?_of_block h3]; exact (hc j hj).1, by rw [World.frozen?_of_block h3]; exact (hc j hj).2⟩⟩⟩
theorem box_spoilt {w w' : World} {lo hi g : Nat} {o : Obj} (h : w.heap[g]? = some o) (hb : Below lo w w') (hf : From hi w w') (hd : g < lo ∨ hi ≤ g) : w'.heap[g]? = some o := by
  rcases hd with hd | hd
  · exact (hb.block g hd).trans h
  · exact (hf g hd (Array.getElem?_eq_some_iff.1 h).1).trans h
theorem great_len {s : Bool} {xs : List Int} {e : Int} {n : Nat} {gr : Bool} (hl : xs.length = n) (h : Pa.Dy.great ⟨s, xs, e⟩ = gr) : gr = false → n ≤ 42 := by
  rintro rfl
  simp [Pa.Dy.great] at h
  omega
theorem box_far {w : World} {g g' : Nat} (h : g ≠ g') (x y z : Value) : (((w.setCell ⟨g, 0, none⟩ x).setCell ⟨g, 1, none⟩ y).setCell ⟨g, 2, none⟩ z).heap[g']? = w.heap[g']? := by
  simp [World.setCell, Array.getElem?_modify, h]
theorem same_can (r : Dn) : Pa.Dy.same ⟨r.neg, canon 4294967296 r.m, r.e⟩ ⟨r.neg, canon 4294967296 r.m, r.e⟩ = true := Pa.Dy.same_refl _
theorem canon_big {w : World} {lo hi : Nat} {A : Option Addr} {n : Nat} {a : Dn} (h : Ints w lo hi .u32 A n (canon 4294967296 a.m)) (ha : a.May) : n ≤ 1000000 := Nat.le_trans (ints_may h ha) (by decide)
end Dy
end Go.Proofs.YtlbkepiflhchdaaDoor
