/- The law RatioTells: a walk (printed by a program of mine). -/
import Derived.Test.YtbbnbgllgomolaaBq12
namespace Go.Proofs.Ytbbnbgllgomolaa
open Go.RowKit
namespace Dy
open Dp
set_option maxHeartbeats 25600000 in
set_option maxRecDepth 100000 in
theorem tells03_walk (w : World) (s1 : Bool) (A1 : Option Addr) (n1 c1 : Nat) (xs1 : List Int) (e1 : Int) (h1 : Ints w 0 w.heap.size .u32 A1 n1 xs1) (s2 : Bool) (A2 : Option Addr) (n2 c2 : Nat) (xs2 : List Int) (e2 : Int) (h2 : Ints w 0 w.heap.size .u32 A2 n2 xs2) (k : Int) :
    Calls Try.prog 5 #[.agg #[.bool s1, .slice A1 n1 c1, .int .i64 e1], .agg #[.bool s2, .slice A2 n2 c2, .int .i64 e2], .int .i64 k] w (YesR w) := by
  have L1 := Lib.hid h1.len
  have L2 := Lib.hid h2.len
  obtain ⟨rx, kx, hx⟩ : ∃ r c, toX s1 xs1 e1 s2 xs2 e2 k s1 = (r, c) := ⟨_, _, rfl⟩
  obtain ⟨rp, kp, hp⟩ : ∃ r c, toX s1 xs1 e1 s2 xs2 e2 k (!s1) = (r, c) := ⟨_, _, rfl⟩
  obtain ⟨rs, ks, hs⟩ : ∃ r c, nearX s1 xs1 e1 s2 xs2 e2 = (r, c) := ⟨_, _, rfl⟩
  have HX := Lib.hid hx
  have HP := Lib.hid hp
  have HS := Lib.hid hs
  clear hx hp hs
  generalize hw : (w.alloc (.cells #[.bool s1, .slice A1 n1 c1, .int .i64 e1] 25)).alloc (.cells #[.bool s2, .slice A2 n2 c2, .int .i64 e2] 25) = w1 at *
  obtain ⟨D1, D2, b1, l1, l2⟩ := boxes2 w _ _ hw
  replace h1 := h1.below b1 (Nat.le_refl _)
  replace h2 := h2.below b1 (Nat.le_refl _)
  go_enter Try.func5, Try.ntmps5
  obtain ⟨⟨pD1, qD1, rD1⟩, uD1, vD1, xD1⟩ := boxD D1
  go_wp2_with fail
  obtain ⟨gr1, hgr1⟩ : ∃ gr, Pa.Dy.great ⟨s1, xs1, e1⟩ = gr := ⟨_, rfl⟩
  try clear hw
  refine (Pa.rGreat_any w1 s1 A1 n1 c1 xs1 e1 L1.out gr1 hgr1).mono ?_
  rintro e' w2 ⟨rfl, hB⟩
  clear pD1 qD1 rD1 uD1 vD1 xD1
  have lw2 : w1.heap.size ≤ w2.heap.size := hB.size
  replace h1 := h1.below hB (by omega)
  replace h2 := h2.below hB (by omega)
  replace D1 := (hB.block _ (by omega)).trans D1
  replace D2 := (hB.block _ (by omega)).trans D2
  have c3 := b1.trans (hB.mono (by omega))
  clear hB
  have q1 := great_lenR L1.out hgr1
  clear hgr1
  cases gr1
  rotate_left
  · go_wp2
    go_ret
    exact ⟨rfl, c3⟩
  obtain ⟨⟨pD2, qD2, rD2⟩, uD2, vD2, xD2⟩ := boxD D2
  go_wp2_with fail
  obtain ⟨gr2, hgr2⟩ : ∃ gr, Pa.Dy.great ⟨s2, xs2, e2⟩ = gr := ⟨_, rfl⟩
  refine (Pa.rGreat_any w2 s2 A2 n2 c2 xs2 e2 L2.out gr2 hgr2).mono ?_
  rintro e' w4 ⟨rfl, hB⟩
  clear pD2 qD2 rD2 uD2 vD2 xD2
  have lw4 : w2.heap.size ≤ w4.heap.size := hB.size
  replace h1 := h1.below hB (by omega)
  replace h2 := h2.below hB (by omega)
  replace D1 := (hB.block _ (by omega)).trans D1
  replace D2 := (hB.block _ (by omega)).trans D2
  have c5 := c3.trans (hB.mono (by omega))
  clear hB
  have q2 := great_lenR L2.out hgr2
  clear hgr2
  cases gr2
  rotate_left
  · go_wp2
    go_ret
    exact ⟨rfl, c5⟩
  replace q1 : n1 ≤ 42 := by simpa using q1
  replace q2 : n2 ≤ 42 := by simpa using q2
  go_upto_region 3 with fail
  go_cut [7, 8] from 27 to 32 (fun s5 s6 wx => ∃ g5 g6 T5 m5 T6 m6, s5 = .pointer (some ⟨g5, 0, none⟩) ∧ s6 = .pointer (some ⟨g6, 0, none⟩) ∧ g5 < wx.heap.size ∧ g6 < wx.heap.size ∧ wx.heap[g5]? = some (.cells #[.bool s1, .slice T5 n1 m5, .int .i64 e1] 25 (0, 0)) ∧ wx.heap[g6]? = some (.cells #[.bool s2, .slice T6 n2 m6, .int .i64 e2] 25 (0, 0)) ∧ Below w4.heap.size w4 wx ∧ Ints wx 0 wx.heap.size .u32 T5 n1 xs1 ∧ Ints wx 0 wx.heap.size .u32 T6 n2 xs2)
  case first =>
    have kD : Keeps w4 w4.drew := fun _ _ => rfl
    have hB : Below w4.heap.size w4 w4.drew := (Below.refl _ _).drew
    refine region_E (Keeps w4) [] (m := 8) (L := #[false, false, false, false, false, false, false, false]) (by kernel_rfl) (by rfl) (by rfl) ?_
    generalize w4.drew = w6 at *
    have lw6 : w4.heap.size ≤ w6.heap.size := hB.size
    have sv_D1 := D1
    have sv_D2 := D2
    replace h1 := h1.below hB (by omega)
    replace h2 := h2.below hB (by omega)
    replace D1 := (hB.block _ (by omega)).trans D1
    replace D2 := (hB.block _ (by omega)).trans D2
    have hB0 := hB
    clear hB
    refine readE (i := 0) (L := #[true, false, false, false, false, false, false, false]) (v := .agg #[.bool s1, .slice A1 n1 c1, .int .i64 e1]) rfl (by rfl) (by kernel_rfl) (by kernel_rfl) (by kernel_rfl) (fun _ _ _ h => h) (by assumption) (by rfl) ?hy0_1 ?rest0_1
    case hy0_1 =>
      intro w' h1
      obtain ⟨⟨k1, k2, k3⟩, _⟩ := boxD ((h1 _ (by omega)).trans sv_D1)
      go_simp
    try simp only [Act.put, List.setIfInBounds_toArray, List.set_cons_zero, List.set_cons_succ]
    refine readE (i := 2) (L := #[true, false, true, false, false, false, false, false]) (v := .agg #[.bool s2, .slice A2 n2 c2, .int .i64 e2]) rfl (by rfl) (by kernel_rfl) (by kernel_rfl) (by kernel_rfl) (fun _ _ _ h => h) (by assumption) (by rfl) ?hy2_2 ?rest2_2
    case hy2_2 =>
      intro w' h1
      obtain ⟨⟨k1, k2, k3⟩, _⟩ := boxD ((h1 _ (by omega)).trans sv_D2)
      go_simp
    try simp only [Act.put, List.setIfInBounds_toArray, List.set_cons_zero, List.set_cons_succ]
    refine stepK3 (i := 1) (j := 4) (k := 5) (Li := #[true, true, true, false, false, false, false, false]) (Lj := #[true, false, true, false, true, false, false, false]) (Lk := #[true, false, true, false, false, true, false, false]) rfl rfl rfl (by rfl) (by rfl) (by rfl) (by kernel_rfl) (by rfl) (by rfl) (by rfl) (fun K hK => ?o1_3) (fun K hK => ?o4_3) (fun K hK => ?o5_3)
    case o1_3 =>
      
      go_simp
      go_at_call 35
      refine (Pa.rTwin_any w6 s1 A1 n1 c1 xs1 e1 (h1.more (Nat.zero_le _) (by omega)) (by omega)).mono ?_
      rintro e' w7 ⟨T1, m1, rfl, lm1, hB, lt1, IT1⟩
      have lw7 : w6.heap.size ≤ w7.heap.size := hB.size
      replace h1 := h1.below hB (by omega)
      replace h2 := h2.below hB (by omega)
      replace D1 := (hB.block _ (by omega)).trans D1
      replace D2 := (hB.block _ (by omega)).trans D2
      have c8 := hB0.trans (hB.mono (by omega))
      clear hB
      refine hK _ _ ⟨fun _ _ p hp => c8.block p hp, ?_⟩
      clear hK K
      try simp only [Act.put, List.setIfInBounds_toArray, List.set_cons_zero, List.set_cons_succ]
      refine stepK3 (i := 3) (j := 4) (k := 5) (Li := #[true, true, true, true, false, false, false, false]) (Lj := #[true, true, true, false, true, false, false, false]) (Lk := #[true, true, true, false, false, true, false, false]) rfl rfl rfl (by rfl) (by rfl) (by rfl) (by kernel_rfl) (by rfl) (by rfl) (by rfl) (fun K hK => ?o3_4) (fun K hK => ?o4_4) (fun K hK => ?o5_4)
      case o3_4 =>
        
        go_simp
        go_at_call 35
        refine (Pa.rTwin_any w7 s2 A2 n2 c2 xs2 e2 (h2.more (Nat.zero_le _) (by omega)) (by omega)).mono ?_
        rintro e' w9 ⟨T2, m2, rfl, lm2, hB, lt2, IT2⟩
        have lw9 : w7.heap.size ≤ w9.heap.size := hB.size
        replace h1 := h1.below hB (by omega)
        replace h2 := h2.below hB (by omega)
        replace IT1 := IT1.below hB (by omega)
        replace D1 := (hB.block _ (by omega)).trans D1
        replace D2 := (hB.block _ (by omega)).trans D2
        have c10 := c8.trans (hB.mono (by omega))
        clear hB
        refine hK _ _ ⟨fun _ _ p hp => c10.block p hp, ?_⟩
        clear hK K
        try simp only [Act.put, List.setIfInBounds_toArray, List.set_cons_zero, List.set_cons_succ]
        refine stepK2 (i := 4) (j := 5) (Li := #[true, true, true, true, true, false, false, false]) (Lj := #[true, true, true, true, false, true, false, false]) rfl rfl (by rfl) (by rfl) (by kernel_rfl) (by rfl) (by rfl) (fun K hK => ?o4_5) (fun K hK => ?o5_5)
        case o4_5 =>
          
          go_simp
          have hB := (Below.refl w9.heap.size w9).alloc (Nat.le_refl _) (.cells #[.bool false, .slice none 0 0, .int .i64 0] 25)
          have B5 := heap_alloc_last w9 (.cells #[.bool false, .slice none 0 0, .int .i64 0] 25)
          have mw11 : w9.heap.size < (w9.alloc (.cells #[.bool false, .slice none 0 0, .int .i64 0] 25)).heap.size := by simp
          generalize hw : w9.alloc (.cells #[.bool false, .slice none 0 0, .int .i64 0] 25) = w11 at *
          have lw11 : w9.heap.size ≤ w11.heap.size := hB.size
          replace h1 := h1.below hB (by omega)
          replace h2 := h2.below hB (by omega)
          replace IT1 := IT1.below hB (by omega)
          replace IT2 := IT2.below hB (by omega)
          replace D1 := (hB.block _ (by omega)).trans D1
          replace D2 := (hB.block _ (by omega)).trans D2
          have c12 := c10.trans (hB.mono (by omega))
          clear hB
          try clear hw
          refine hK _ _ ⟨fun _ _ p hp => c12.block p hp, ?_⟩
          clear hK K
          try simp only [Act.put, List.setIfInBounds_toArray, List.set_cons_zero, List.set_cons_succ]
          refine stepK (i := 5) (L := #[true, true, true, true, true, true, false, false]) rfl (by rfl) (by kernel_rfl) (by rfl) (fun K hK => ?_)
          go_simp
          have hB := (Below.refl w11.heap.size w11).alloc (Nat.le_refl _) (.cells #[.bool false, .slice none 0 0, .int .i64 0] 25)
          have B6 := heap_alloc_last w11 (.cells #[.bool false, .slice none 0 0, .int .i64 0] 25)
          have mw13 : w11.heap.size < (w11.alloc (.cells #[.bool false, .slice none 0 0, .int .i64 0] 25)).heap.size := by simp
          generalize hw : w11.alloc (.cells #[.bool false, .slice none 0 0, .int .i64 0] 25) = w13 at *
          have lw13 : w11.heap.size ≤ w13.heap.size := hB.size
          replace h1 := h1.below hB (by omega)
          replace h2 := h2.below hB (by omega)
          replace IT1 := IT1.below hB (by omega)
          replace IT2 := IT2.below hB (by omega)
          replace D1 := (hB.block _ (by omega)).trans D1
          replace D2 := (hB.block _ (by omega)).trans D2
          replace B5 := (hB.block _ (by omega)).trans B5
          have c14 := c12.trans (hB.mono (by omega))
          clear hB
          try clear hw
          refine hK _ _ ⟨fun _ _ p hp => c14.block p hp, ?_⟩
          clear hK K
          try simp only [Act.put, List.setIfInBounds_toArray, List.set_cons_zero, List.set_cons_succ]
          refine stepK (i := 6) (L := #[true, true, true, true, true, true, true, false]) rfl (by rfl) (by kernel_rfl) (by rfl) (fun K hK => ?_)
          go_simp
          obtain ⟨⟨p1, p2, p3⟩, p4, p5, p6⟩ := boxD B5
          go_simp
          refine hK _ _ ⟨fun _ _ p hp => (below_put c14 (by omega) _ _ _).block p hp, ?_⟩
          clear hK K
          try simp only [Act.put, List.setIfInBounds_toArray, List.set_cons_zero, List.set_cons_succ]
          refine stepK (i := 7) (L := #[true, true, true, true, true, true, true, true]) rfl (by rfl) (by kernel_rfl) (by rfl) (fun K hK => ?_)
          go_simp
          obtain ⟨⟨p1, p2, p3⟩, p4, p5, p6⟩ := boxD B6
          go_simp
          refine hK _ _ ⟨fun _ _ p hp => (below_put (below_put c14 (by omega) _ _ _) (by omega) _ _ _).block p hp, ?_⟩
          clear hK K
          try simp only [Act.put, List.setIfInBounds_toArray, List.set_cons_zero, List.set_cons_succ]
          refine doneE (by kernel_rfl) ?_ _
          go_wp2_with fail
          go_meet
          refine ⟨w9.heap.size, w11.heap.size, T1, m1, T2, m2, rfl, rfl, by rw [size_put, size_put]; omega, by rw [size_put, size_put]; omega, ?_, ?_, ?_, ?_, ?_⟩
          · exact (box_farR (by omega) _ _ _).trans (box_put B5 (.bool s1) (.slice T1 n1 m1) (.int .i64 e1))
          · exact box_put ((box_farR (by omega) _ _ _).trans B6) (.bool s2) (.slice T2 n2 m2) (.int .i64 e2)
          · exact (below_put (below_put c14 (by omega) _ _ _) (by omega) _ _ _)
          · exact (ints_put (ints_put IT1 (by omega) _ _ _) (by omega) _ _ _).more (by omega) (by rw [size_put, size_put]; omega)
          · exact (ints_put (ints_put IT2 (by omega) _ _ _) (by omega) _ _ _).more (by omega) (by rw [size_put, size_put]; omega)
        case o5_5 =>
          
          go_simp
          have hB := (Below.refl w9.heap.size w9).alloc (Nat.le_refl _) (.cells #[.bool false, .slice none 0 0, .int .i64 0] 25)
          have B6 := heap_alloc_last w9 (.cells #[.bool false, .slice none 0 0, .int .i64 0] 25)
          have mw15 : w9.heap.size < (w9.alloc (.cells #[.bool false, .slice none 0 0, .int .i64 0] 25)).heap.size := by simp
          generalize hw : w9.alloc (.cells #[.bool false, .slice none 0 0, .int .i64 0] 25) = w15 at *
          have lw15 : w9.heap.size ≤ w15.heap.size := hB.size
          replace h1 := h1.below hB (by omega)
          replace h2 := h2.below hB (by omega)
          replace IT1 := IT1.below hB (by omega)
          replace IT2 := IT2.below hB (by omega)
          replace D1 := (hB.block _ (by omega)).trans D1
          replace D2 := (hB.block _ (by omega)).trans D2
          have c16 := c10.trans (hB.mono (by omega))
          clear hB
          try clear hw
          refine hK _ _ ⟨fun _ _ p hp => c16.block p hp, ?_⟩
          clear hK K
          try simp only [Act.put, List.setIfInBounds_toArray, List.set_cons_zero, List.set_cons_succ]
          refine stepK (i := 4) (L := #[true, true, true, true, true, true, false, false]) rfl (by rfl) (by kernel_rfl) (by rfl) (fun K hK => ?_)
          go_simp
          have hB := (Below.refl w15.heap.size w15).alloc (Nat.le_refl _) (.cells #[.bool false, .slice none 0 0, .int .i64 0] 25)
          have B5 := heap_alloc_last w15 (.cells #[.bool false, .slice none 0 0, .int .i64 0] 25)
          have mw17 : w15.heap.size < (w15.alloc (.cells #[.bool false, .slice none 0 0, .int .i64 0] 25)).heap.size := by simp
          generalize hw : w15.alloc (.cells #[.bool false, .slice none 0 0, .int .i64 0] 25) = w17 at *
          have lw17 : w15.heap.size ≤ w17.heap.size := hB.size
          replace h1 := h1.below hB (by omega)
          replace h2 := h2.below hB (by omega)
          replace IT1 := IT1.below hB (by omega)
          replace IT2 := IT2.below hB (by omega)
          replace D1 := (hB.block _ (by omega)).trans D1
          replace D2 := (hB.block _ (by omega)).trans D2
          replace B6 := (hB.block _ (by omega)).trans B6
          have c18 := c16.trans (hB.mono (by omega))
          clear hB
          try clear hw
          refine hK _ _ ⟨fun _ _ p hp => c18.block p hp, ?_⟩
          clear hK K
          try simp only [Act.put, List.setIfInBounds_toArray, List.set_cons_zero, List.set_cons_succ]
          refine stepK (i := 6) (L := #[true, true, true, true, true, true, true, false]) rfl (by rfl) (by kernel_rfl) (by rfl) (fun K hK => ?_)
          go_simp
          obtain ⟨⟨p1, p2, p3⟩, p4, p5, p6⟩ := boxD B5
          go_simp
          refine hK _ _ ⟨fun _ _ p hp => (below_put c18 (by omega) _ _ _).block p hp, ?_⟩
          clear hK K
          try simp only [Act.put, List.setIfInBounds_toArray, List.set_cons_zero, List.set_cons_succ]
          refine stepK (i := 7) (L := #[true, true, true, true, true, true, true, true]) rfl (by rfl) (by kernel_rfl) (by rfl) (fun K hK => ?_)
          go_simp
          obtain ⟨⟨p1, p2, p3⟩, p4, p5, p6⟩ := boxD B6
          go_simp
          refine hK _ _ ⟨fun _ _ p hp => (below_put (below_put c18 (by omega) _ _ _) (by omega) _ _ _).block p hp, ?_⟩
          clear hK K
          try simp only [Act.put, List.setIfInBounds_toArray, List.set_cons_zero, List.set_cons_succ]
          refine doneE (by kernel_rfl) ?_ _
          go_wp2_with fail
          go_meet
          refine ⟨w15.heap.size, w9.heap.size, T1, m1, T2, m2, rfl, rfl, by rw [size_put, size_put]; omega, by rw [size_put, size_put]; omega, ?_, ?_, ?_, ?_, ?_⟩
          · exact (box_farR (by omega) _ _ _).trans (box_put B5 (.bool s1) (.slice T1 n1 m1) (.int .i64 e1))
          · exact box_put ((box_farR (by omega) _ _ _).trans B6) (.bool s2) (.slice T2 n2 m2) (.int .i64 e2)
          · exact (below_put (below_put c18 (by omega) _ _ _) (by omega) _ _ _)
          · exact (ints_put (ints_put IT1 (by omega) _ _ _) (by omega) _ _ _).more (by omega) (by rw [size_put, size_put]; omega)
          · exact (ints_put (ints_put IT2 (by omega) _ _ _) (by omega) _ _ _).more (by omega) (by rw [size_put, size_put]; omega)
      case o4_4 =>
        
        go_simp
        have hB := (Below.refl w7.heap.size w7).alloc (Nat.le_refl _) (.cells #[.bool false, .slice none 0 0, .int .i64 0] 25)
        have B5 := heap_alloc_last w7 (.cells #[.bool false, .slice none 0 0, .int .i64 0] 25)
        have mw19 : w7.heap.size < (w7.alloc (.cells #[.bool false, .slice none 0 0, .int .i64 0] 25)).heap.size := by simp
        generalize hw : w7.alloc (.cells #[.bool false, .slice none 0 0, .int .i64 0] 25) = w19 at *
        have lw19 : w7.heap.size ≤ w19.heap.size := hB.size
        replace h1 := h1.below hB (by omega)
        replace h2 := h2.below hB (by omega)
        replace IT1 := IT1.below hB (by omega)
        replace D1 := (hB.block _ (by omega)).trans D1
        replace D2 := (hB.block _ (by omega)).trans D2
        have c20 := c8.trans (hB.mono (by omega))
        clear hB
        try clear hw
        refine hK _ _ ⟨fun _ _ p hp => c20.block p hp, ?_⟩
        clear hK K
        try simp only [Act.put, List.setIfInBounds_toArray, List.set_cons_zero, List.set_cons_succ]
        refine stepK2 (i := 3) (j := 5) (Li := #[true, true, true, true, true, false, false, false]) (Lj := #[true, true, true, false, true, true, false, false]) rfl rfl (by rfl) (by rfl) (by kernel_rfl) (by rfl) (by rfl) (fun K hK => ?o3_6) (fun K hK => ?o5_6)
        case o3_6 =>
          
          go_simp
          go_at_call 35
          refine (Pa.rTwin_any w19 s2 A2 n2 c2 xs2 e2 (h2.more (Nat.zero_le _) (by omega)) (by omega)).mono ?_
          rintro e' w21 ⟨T2, m2, rfl, lm2, hB, lt2, IT2⟩
          have lw21 : w19.heap.size ≤ w21.heap.size := hB.size
          replace h1 := h1.below hB (by omega)
          replace h2 := h2.below hB (by omega)
          replace IT1 := IT1.below hB (by omega)
          replace D1 := (hB.block _ (by omega)).trans D1
          replace D2 := (hB.block _ (by omega)).trans D2
          replace B5 := (hB.block _ (by omega)).trans B5
          have c22 := c20.trans (hB.mono (by omega))
          clear hB
          refine hK _ _ ⟨fun _ _ p hp => c22.block p hp, ?_⟩
          clear hK K
          try simp only [Act.put, List.setIfInBounds_toArray, List.set_cons_zero, List.set_cons_succ]
          refine stepK (i := 5) (L := #[true, true, true, true, true, true, false, false]) rfl (by rfl) (by kernel_rfl) (by rfl) (fun K hK => ?_)
          go_simp
          have hB := (Below.refl w21.heap.size w21).alloc (Nat.le_refl _) (.cells #[.bool false, .slice none 0 0, .int .i64 0] 25)
          have B6 := heap_alloc_last w21 (.cells #[.bool false, .slice none 0 0, .int .i64 0] 25)
          have mw23 : w21.heap.size < (w21.alloc (.cells #[.bool false, .slice none 0 0, .int .i64 0] 25)).heap.size := by simp
          generalize hw : w21.alloc (.cells #[.bool false, .slice none 0 0, .int .i64 0] 25) = w23 at *
          have lw23 : w21.heap.size ≤ w23.heap.size := hB.size
          replace h1 := h1.below hB (by omega)
          replace h2 := h2.below hB (by omega)
          replace IT1 := IT1.below hB (by omega)
          replace IT2 := IT2.below hB (by omega)
          replace D1 := (hB.block _ (by omega)).trans D1
          replace D2 := (hB.block _ (by omega)).trans D2
          replace B5 := (hB.block _ (by omega)).trans B5
          have c24 := c22.trans (hB.mono (by omega))
          clear hB
          try clear hw
          refine hK _ _ ⟨fun _ _ p hp => c24.block p hp, ?_⟩
          clear hK K
          try simp only [Act.put, List.setIfInBounds_toArray, List.set_cons_zero, List.set_cons_succ]
          refine stepK (i := 6) (L := #[true, true, true, true, true, true, true, false]) rfl (by rfl) (by kernel_rfl) (by rfl) (fun K hK => ?_)
          go_simp
          obtain ⟨⟨p1, p2, p3⟩, p4, p5, p6⟩ := boxD B5
          go_simp
          refine hK _ _ ⟨fun _ _ p hp => (below_put c24 (by omega) _ _ _).block p hp, ?_⟩
          clear hK K
          try simp only [Act.put, List.setIfInBounds_toArray, List.set_cons_zero, List.set_cons_succ]
          refine stepK (i := 7) (L := #[true, true, true, true, true, true, true, true]) rfl (by rfl) (by kernel_rfl) (by rfl) (fun K hK => ?_)
          go_simp
          obtain ⟨⟨p1, p2, p3⟩, p4, p5, p6⟩ := boxD B6
          go_simp
          refine hK _ _ ⟨fun _ _ p hp => (below_put (below_put c24 (by omega) _ _ _) (by omega) _ _ _).block p hp, ?_⟩
          clear hK K
          try simp only [Act.put, List.setIfInBounds_toArray, List.set_cons_zero, List.set_cons_succ]
          refine doneE (by kernel_rfl) ?_ _
          go_wp2_with fail
          go_meet
          refine ⟨w7.heap.size, w21.heap.size, T1, m1, T2, m2, rfl, rfl, by rw [size_put, size_put]; omega, by rw [size_put, size_put]; omega, ?_, ?_, ?_, ?_, ?_⟩
          · exact (box_farR (by omega) _ _ _).trans (box_put B5 (.bool s1) (.slice T1 n1 m1) (.int .i64 e1))
          · exact box_put ((box_farR (by omega) _ _ _).trans B6) (.bool s2) (.slice T2 n2 m2) (.int .i64 e2)
          · exact (below_put (below_put c24 (by omega) _ _ _) (by omega) _ _ _)
          · exact (ints_put (ints_put IT1 (by omega) _ _ _) (by omega) _ _ _).more (by omega) (by rw [size_put, size_put]; omega)
          · exact (ints_put (ints_put IT2 (by omega) _ _ _) (by omega) _ _ _).more (by omega) (by rw [size_put, size_put]; omega)
        case o5_6 =>
          
          go_simp
          have hB := (Below.refl w19.heap.size w19).alloc (Nat.le_refl _) (.cells #[.bool false, .slice none 0 0, .int .i64 0] 25)
          have B6 := heap_alloc_last w19 (.cells #[.bool false, .slice none 0 0, .int .i64 0] 25)
          have mw25 : w19.heap.size < (w19.alloc (.cells #[.bool false, .slice none 0 0, .int .i64 0] 25)).heap.size := by simp
          generalize hw : w19.alloc (.cells #[.bool false, .slice none 0 0, .int .i64 0] 25) = w25 at *
          have lw25 : w19.heap.size ≤ w25.heap.size := hB.size
          replace h1 := h1.below hB (by omega)
          replace h2 := h2.below hB (by omega)
          replace IT1 := IT1.below hB (by omega)
          replace D1 := (hB.block _ (by omega)).trans D1
          replace D2 := (hB.block _ (by omega)).trans D2
          replace B5 := (hB.block _ (by omega)).trans B5
          have c26 := c20.trans (hB.mono (by omega))
          clear hB
          try clear hw
          refine hK _ _ ⟨fun _ _ p hp => c26.block p hp, ?_⟩
          clear hK K
          try simp only [Act.put, List.setIfInBounds_toArray, List.set_cons_zero, List.set_cons_succ]
          refine stepK (i := 3) (L := #[true, true, true, true, true, true, false, false]) rfl (by rfl) (by kernel_rfl) (by rfl) (fun K hK => ?_)
          go_simp
          go_at_call 35
          refine (Pa.rTwin_any w25 s2 A2 n2 c2 xs2 e2 (h2.more (Nat.zero_le _) (by omega)) (by omega)).mono ?_
          rintro e' w27 ⟨T2, m2, rfl, lm2, hB, lt2, IT2⟩
          have lw27 : w25.heap.size ≤ w27.heap.size := hB.size
          replace h1 := h1.below hB (by omega)
          replace h2 := h2.below hB (by omega)
          replace IT1 := IT1.below hB (by omega)
          replace D1 := (hB.block _ (by omega)).trans D1
          replace D2 := (hB.block _ (by omega)).trans D2
          replace B5 := (hB.block _ (by omega)).trans B5
          replace B6 := (hB.block _ (by omega)).trans B6
          have c28 := c26.trans (hB.mono (by omega))
          clear hB
          refine hK _ _ ⟨fun _ _ p hp => c28.block p hp, ?_⟩
          clear hK K
          try simp only [Act.put, List.setIfInBounds_toArray, List.set_cons_zero, List.set_cons_succ]
          refine stepK (i := 6) (L := #[true, true, true, true, true, true, true, false]) rfl (by rfl) (by kernel_rfl) (by rfl) (fun K hK => ?_)
          go_simp
          obtain ⟨⟨p1, p2, p3⟩, p4, p5, p6⟩ := boxD B5
          go_simp
          refine hK _ _ ⟨fun _ _ p hp => (below_put c28 (by omega) _ _ _).block p hp, ?_⟩
          clear hK K
          try simp only [Act.put, List.setIfInBounds_toArray, List.set_cons_zero, List.set_cons_succ]
          refine stepK (i := 7) (L := #[true, true, true, true, true, true, true, true]) rfl (by rfl) (by kernel_rfl) (by rfl) (fun K hK => ?_)
          go_simp
          obtain ⟨⟨p1, p2, p3⟩, p4, p5, p6⟩ := boxD B6
          go_simp
          refine hK _ _ ⟨fun _ _ p hp => (below_put (below_put c28 (by omega) _ _ _) (by omega) _ _ _).block p hp, ?_⟩
          clear hK K
          try simp only [Act.put, List.setIfInBounds_toArray, List.set_cons_zero, List.set_cons_succ]
          refine doneE (by kernel_rfl) ?_ _
          go_wp2_with fail
          go_meet
          refine ⟨w7.heap.size, w19.heap.size, T1, m1, T2, m2, rfl, rfl, by rw [size_put, size_put]; omega, by rw [size_put, size_put]; omega, ?_, ?_, ?_, ?_, ?_⟩
          · exact (box_farR (by omega) _ _ _).trans (box_put B5 (.bool s1) (.slice T1 n1 m1) (.int .i64 e1))
          · exact box_put ((box_farR (by omega) _ _ _).trans B6) (.bool s2) (.slice T2 n2 m2) (.int .i64 e2)
          · exact (below_put (below_put c28 (by omega) _ _ _) (by omega) _ _ _)
          · exact (ints_put (ints_put IT1 (by omega) _ _ _) (by omega) _ _ _).more (by omega) (by rw [size_put, size_put]; omega)
          · exact (ints_put (ints_put IT2 (by omega) _ _ _) (by omega) _ _ _).more (by omega) (by rw [size_put, size_put]; omega)
      case o5_4 =>
        
        go_simp
        have hB := (Below.refl w7.heap.size w7).alloc (Nat.le_refl _) (.cells #[.bool false, .slice none 0 0, .int .i64 0] 25)
        have B6 := heap_alloc_last w7 (.cells #[.bool false, .slice none 0 0, .int .i64 0] 25)
        have mw29 : w7.heap.size < (w7.alloc (.cells #[.bool false, .slice none 0 0, .int .i64 0] 25)).heap.size := by simp
        generalize hw : w7.alloc (.cells #[.bool false, .slice none 0 0, .int .i64 0] 25) = w29 at *
        have lw29 : w7.heap.size ≤ w29.heap.size := hB.size
        replace h1 := h1.below hB (by omega)
        replace h2 := h2.below hB (by omega)
        replace IT1 := IT1.below hB (by omega)
        replace D1 := (hB.block _ (by omega)).trans D1
        replace D2 := (hB.block _ (by omega)).trans D2
        have c30 := c8.trans (hB.mono (by omega))
        clear hB
        try clear hw
        refine hK _ _ ⟨fun _ _ p hp => c30.block p hp, ?_⟩
        clear hK K
        try simp only [Act.put, List.setIfInBounds_toArray, List.set_cons_zero, List.set_cons_succ]
        refine stepK2 (i := 3) (j := 4) (Li := #[true, true, true, true, false, true, false, false]) (Lj := #[true, true, true, false, true, true, false, false]) rfl rfl (by rfl) (by rfl) (by kernel_rfl) (by rfl) (by rfl) (fun K hK => ?o3_7) (fun K hK => ?o4_7)
        case o3_7 =>
          
          go_simp
          go_at_call 35
          refine (Pa.rTwin_any w29 s2 A2 n2 c2 xs2 e2 (h2.more (Nat.zero_le _) (by omega)) (by omega)).mono ?_
          rintro e' w31 ⟨T2, m2, rfl, lm2, hB, lt2, IT2⟩
          have lw31 : w29.heap.size ≤ w31.heap.size := hB.size
          replace h1 := h1.below hB (by omega)
          replace h2 := h2.below hB (by omega)
          replace IT1 := IT1.below hB (by omega)
          replace D1 := (hB.block _ (by omega)).trans D1
          replace D2 := (hB.block _ (by omega)).trans D2
          replace B6 := (hB.block _ (by omega)).trans B6
          have c32 := c30.trans (hB.mono (by omega))
          clear hB
          refine hK _ _ ⟨fun _ _ p hp => c32.block p hp, ?_⟩
          clear hK K
          try simp only [Act.put, List.setIfInBounds_toArray, List.set_cons_zero, List.set_cons_succ]
          refine stepK (i := 4) (L := #[true, true, true, true, true, true, false, false]) rfl (by rfl) (by kernel_rfl) (by rfl) (fun K hK => ?_)
          go_simp
          have hB := (Below.refl w31.heap.size w31).alloc (Nat.le_refl _) (.cells #[.bool false, .slice none 0 0, .int .i64 0] 25)
          have B5 := heap_alloc_last w31 (.cells #[.bool false, .slice none 0 0, .int .i64 0] 25)
          have mw33 : w31.heap.size < (w31.alloc (.cells #[.bool false, .slice none 0 0, .int .i64 0] 25)).heap.size := by simp
          generalize hw : w31.alloc (.cells #[.bool false, .slice none 0 0, .int .i64 0] 25) = w33 at *
          have lw33 : w31.heap.size ≤ w33.heap.size := hB.size
          replace h1 := h1.below hB (by omega)
          replace h2 := h2.below hB (by omega)
          replace IT1 := IT1.below hB (by omega)
          replace IT2 := IT2.below hB (by omega)
          replace D1 := (hB.block _ (by omega)).trans D1
          replace D2 := (hB.block _ (by omega)).trans D2
          replace B6 := (hB.block _ (by omega)).trans B6
          have c34 := c32.trans (hB.mono (by omega))
          clear hB
          try clear hw
          refine hK _ _ ⟨fun _ _ p hp => c34.block p hp, ?_⟩
          clear hK K
          try simp only [Act.put, List.setIfInBounds_toArray, List.set_cons_zero, List.set_cons_succ]
          refine stepK (i := 6) (L := #[true, true, true, true, true, true, true, false]) rfl (by rfl) (by kernel_rfl) (by rfl) (fun K hK => ?_)
          go_simp
          obtain ⟨⟨p1, p2, p3⟩, p4, p5, p6⟩ := boxD B5
          go_simp
          refine hK _ _ ⟨fun _ _ p hp => (below_put c34 (by omega) _ _ _).block p hp, ?_⟩
          clear hK K
          try simp only [Act.put, List.setIfInBounds_toArray, List.set_cons_zero, List.set_cons_succ]
          refine stepK (i := 7) (L := #[true, true, true, true, true, true, true, true]) rfl (by rfl) (by kernel_rfl) (by rfl) (fun K hK => ?_)
          go_simp
          obtain ⟨⟨p1, p2, p3⟩, p4, p5, p6⟩ := boxD B6
          go_simp
          refine hK _ _ ⟨fun _ _ p hp => (below_put (below_put c34 (by omega) _ _ _) (by omega) _ _ _).block p hp, ?_⟩
          clear hK K
          try simp only [Act.put, List.setIfInBounds_toArray, List.set_cons_zero, List.set_cons_succ]
          refine doneE (by kernel_rfl) ?_ _
          go_wp2_with fail
          go_meet
          refine ⟨w31.heap.size, w7.heap.size, T1, m1, T2, m2, rfl, rfl, by rw [size_put, size_put]; omega, by rw [size_put, size_put]; omega, ?_, ?_, ?_, ?_, ?_⟩
          · exact (box_farR (by omega) _ _ _).trans (box_put B5 (.bool s1) (.slice T1 n1 m1) (.int .i64 e1))
          · exact box_put ((box_farR (by omega) _ _ _).trans B6) (.bool s2) (.slice T2 n2 m2) (.int .i64 e2)
          · exact (below_put (below_put c34 (by omega) _ _ _) (by omega) _ _ _)
          · exact (ints_put (ints_put IT1 (by omega) _ _ _) (by omega) _ _ _).more (by omega) (by rw [size_put, size_put]; omega)
          · exact (ints_put (ints_put IT2 (by omega) _ _ _) (by omega) _ _ _).more (by omega) (by rw [size_put, size_put]; omega)
        case o4_7 =>
          
          go_simp
          have hB := (Below.refl w29.heap.size w29).alloc (Nat.le_refl _) (.cells #[.bool false, .slice none 0 0, .int .i64 0] 25)
          have B5 := heap_alloc_last w29 (.cells #[.bool false, .slice none 0 0, .int .i64 0] 25)
          have mw35 : w29.heap.size < (w29.alloc (.cells #[.bool false, .slice none 0 0, .int .i64 0] 25)).heap.size := by simp
          generalize hw : w29.alloc (.cells #[.bool false, .slice none 0 0, .int .i64 0] 25) = w35 at *
          have lw35 : w29.heap.size ≤ w35.heap.size := hB.size
          replace h1 := h1.below hB (by omega)
          replace h2 := h2.below hB (by omega)
          replace IT1 := IT1.below hB (by omega)
          replace D1 := (hB.block _ (by omega)).trans D1
          replace D2 := (hB.block _ (by omega)).trans D2
          replace B6 := (hB.block _ (by omega)).trans B6
          have c36 := c30.trans (hB.mono (by omega))
          clear hB
          try clear hw
          refine hK _ _ ⟨fun _ _ p hp => c36.block p hp, ?_⟩
          clear hK K
          try simp only [Act.put, List.setIfInBounds_toArray, List.set_cons_zero, List.set_cons_succ]
          refine stepK (i := 3) (L := #[true, true, true, true, true, true, false, false]) rfl (by rfl) (by kernel_rfl) (by rfl) (fun K hK => ?_)
          go_simp
          go_at_call 35
          refine (Pa.rTwin_any w35 s2 A2 n2 c2 xs2 e2 (h2.more (Nat.zero_le _) (by omega)) (by omega)).mono ?_
          rintro e' w37 ⟨T2, m2, rfl, lm2, hB, lt2, IT2⟩
          have lw37 : w35.heap.size ≤ w37.heap.size := hB.size
          replace h1 := h1.below hB (by omega)
          replace h2 := h2.below hB (by omega)
          replace IT1 := IT1.below hB (by omega)
          replace D1 := (hB.block _ (by omega)).trans D1
          replace D2 := (hB.block _ (by omega)).trans D2
          replace B6 := (hB.block _ (by omega)).trans B6
          replace B5 := (hB.block _ (by omega)).trans B5
          have c38 := c36.trans (hB.mono (by omega))
          clear hB
          refine hK _ _ ⟨fun _ _ p hp => c38.block p hp, ?_⟩
          clear hK K
          try simp only [Act.put, List.setIfInBounds_toArray, List.set_cons_zero, List.set_cons_succ]
          refine stepK (i := 6) (L := #[true, true, true, true, true, true, true, false]) rfl (by rfl) (by kernel_rfl) (by rfl) (fun K hK => ?_)
          go_simp
          obtain ⟨⟨p1, p2, p3⟩, p4, p5, p6⟩ := boxD B5
          go_simp
          refine hK _ _ ⟨fun _ _ p hp => (below_put c38 (by omega) _ _ _).block p hp, ?_⟩
          clear hK K
          try simp only [Act.put, List.setIfInBounds_toArray, List.set_cons_zero, List.set_cons_succ]
          refine stepK (i := 7) (L := #[true, true, true, true, true, true, true, true]) rfl (by rfl) (by kernel_rfl) (by rfl) (fun K hK => ?_)
          go_simp
          obtain ⟨⟨p1, p2, p3⟩, p4, p5, p6⟩ := boxD B6
          go_simp
          refine hK _ _ ⟨fun _ _ p hp => (below_put (below_put c38 (by omega) _ _ _) (by omega) _ _ _).block p hp, ?_⟩
          clear hK K
          try simp only [Act.put, List.setIfInBounds_toArray, List.set_cons_zero, List.set_cons_succ]
          refine doneE (by kernel_rfl) ?_ _
          go_wp2_with fail
          go_meet
          refine ⟨w29.heap.size, w7.heap.size, T1, m1, T2, m2, rfl, rfl, by rw [size_put, size_put]; omega, by rw [size_put, size_put]; omega, ?_, ?_, ?_, ?_, ?_⟩
          · exact (box_farR (by omega) _ _ _).trans (box_put B5 (.bool s1) (.slice T1 n1 m1) (.int .i64 e1))
          · exact box_put ((box_farR (by omega) _ _ _).trans B6) (.bool s2) (.slice T2 n2 m2) (.int .i64 e2)
          · exact (below_put (below_put c38 (by omega) _ _ _) (by omega) _ _ _)
          · exact (ints_put (ints_put IT1 (by omega) _ _ _) (by omega) _ _ _).more (by omega) (by rw [size_put, size_put]; omega)
          · exact (ints_put (ints_put IT2 (by omega) _ _ _) (by omega) _ _ _).more (by omega) (by rw [size_put, size_put]; omega)
    case o4_3 =>
      
      go_simp
      have hB := (Below.refl w6.heap.size w6).alloc (Nat.le_refl _) (.cells #[.bool false, .slice none 0 0, .int .i64 0] 25)
      have B5 := heap_alloc_last w6 (.cells #[.bool false, .slice none 0 0, .int .i64 0] 25)
      have mw39 : w6.heap.size < (w6.alloc (.cells #[.bool false, .slice none 0 0, .int .i64 0] 25)).heap.size := by simp
      generalize hw : w6.alloc (.cells #[.bool false, .slice none 0 0, .int .i64 0] 25) = w39 at *
      have lw39 : w6.heap.size ≤ w39.heap.size := hB.size
      replace h1 := h1.below hB (by omega)
      replace h2 := h2.below hB (by omega)
      replace D1 := (hB.block _ (by omega)).trans D1
      replace D2 := (hB.block _ (by omega)).trans D2
      have c40 := hB0.trans (hB.mono (by omega))
      clear hB
      try clear hw
      refine hK _ _ ⟨fun _ _ p hp => c40.block p hp, ?_⟩
      clear hK K
      try simp only [Act.put, List.setIfInBounds_toArray, List.set_cons_zero, List.set_cons_succ]
      refine stepK2 (i := 1) (j := 5) (Li := #[true, true, true, false, true, false, false, false]) (Lj := #[true, false, true, false, true, true, false, false]) rfl rfl (by rfl) (by rfl) (by kernel_rfl) (by rfl) (by rfl) (fun K hK => ?o1_8) (fun K hK => ?o5_8)
      case o1_8 =>
        
        go_simp
        go_at_call 35
        refine (Pa.rTwin_any w39 s1 A1 n1 c1 xs1 e1 (h1.more (Nat.zero_le _) (by omega)) (by omega)).mono ?_
        rintro e' w41 ⟨T1, m1, rfl, lm1, hB, lt1, IT1⟩
        have lw41 : w39.heap.size ≤ w41.heap.size := hB.size
        replace h1 := h1.below hB (by omega)
        replace h2 := h2.below hB (by omega)
        replace D1 := (hB.block _ (by omega)).trans D1
        replace D2 := (hB.block _ (by omega)).trans D2
        replace B5 := (hB.block _ (by omega)).trans B5
        have c42 := c40.trans (hB.mono (by omega))
        clear hB
        refine hK _ _ ⟨fun _ _ p hp => c42.block p hp, ?_⟩
        clear hK K
        try simp only [Act.put, List.setIfInBounds_toArray, List.set_cons_zero, List.set_cons_succ]
        refine stepK2 (i := 3) (j := 5) (Li := #[true, true, true, true, true, false, false, false]) (Lj := #[true, true, true, false, true, true, false, false]) rfl rfl (by rfl) (by rfl) (by kernel_rfl) (by rfl) (by rfl) (fun K hK => ?o3_9) (fun K hK => ?o5_9)
        case o3_9 =>
          
          go_simp
          go_at_call 35
          refine (Pa.rTwin_any w41 s2 A2 n2 c2 xs2 e2 (h2.more (Nat.zero_le _) (by omega)) (by omega)).mono ?_
          rintro e' w43 ⟨T2, m2, rfl, lm2, hB, lt2, IT2⟩
          have lw43 : w41.heap.size ≤ w43.heap.size := hB.size
          replace h1 := h1.below hB (by omega)
          replace h2 := h2.below hB (by omega)
          replace IT1 := IT1.below hB (by omega)
          replace D1 := (hB.block _ (by omega)).trans D1
          replace D2 := (hB.block _ (by omega)).trans D2
          replace B5 := (hB.block _ (by omega)).trans B5
          have c44 := c42.trans (hB.mono (by omega))
          clear hB
          refine hK _ _ ⟨fun _ _ p hp => c44.block p hp, ?_⟩
          clear hK K
          try simp only [Act.put, List.setIfInBounds_toArray, List.set_cons_zero, List.set_cons_succ]
          refine stepK (i := 5) (L := #[true, true, true, true, true, true, false, false]) rfl (by rfl) (by kernel_rfl) (by rfl) (fun K hK => ?_)
          go_simp
          have hB := (Below.refl w43.heap.size w43).alloc (Nat.le_refl _) (.cells #[.bool false, .slice none 0 0, .int .i64 0] 25)
          have B6 := heap_alloc_last w43 (.cells #[.bool false, .slice none 0 0, .int .i64 0] 25)
          have mw45 : w43.heap.size < (w43.alloc (.cells #[.bool false, .slice none 0 0, .int .i64 0] 25)).heap.size := by simp
          generalize hw : w43.alloc (.cells #[.bool false, .slice none 0 0, .int .i64 0] 25) = w45 at *
          have lw45 : w43.heap.size ≤ w45.heap.size := hB.size
          replace h1 := h1.below hB (by omega)
          replace h2 := h2.below hB (by omega)
          replace IT1 := IT1.below hB (by omega)
          replace IT2 := IT2.below hB (by omega)
          replace D1 := (hB.block _ (by omega)).trans D1
          replace D2 := (hB.block _ (by omega)).trans D2
          replace B5 := (hB.block _ (by omega)).trans B5
          have c46 := c44.trans (hB.mono (by omega))
          clear hB
          try clear hw
          refine hK _ _ ⟨fun _ _ p hp => c46.block p hp, ?_⟩
          clear hK K
          try simp only [Act.put, List.setIfInBounds_toArray, List.set_cons_zero, List.set_cons_succ]
          refine stepK (i := 6) (L := #[true, true, true, true, true, true, true, false]) rfl (by rfl) (by kernel_rfl) (by rfl) (fun K hK => ?_)
          go_simp
          obtain ⟨⟨p1, p2, p3⟩, p4, p5, p6⟩ := boxD B5
          go_simp
          refine hK _ _ ⟨fun _ _ p hp => (below_put c46 (by omega) _ _ _).block p hp, ?_⟩
          clear hK K
          try simp only [Act.put, List.setIfInBounds_toArray, List.set_cons_zero, List.set_cons_succ]
          refine stepK (i := 7) (L := #[true, true, true, true, true, true, true, true]) rfl (by rfl) (by kernel_rfl) (by rfl) (fun K hK => ?_)
          go_simp
          obtain ⟨⟨p1, p2, p3⟩, p4, p5, p6⟩ := boxD B6
          go_simp
          refine hK _ _ ⟨fun _ _ p hp => (below_put (below_put c46 (by omega) _ _ _) (by omega) _ _ _).block p hp, ?_⟩
          clear hK K
          try simp only [Act.put, List.setIfInBounds_toArray, List.set_cons_zero, List.set_cons_succ]
          refine doneE (by kernel_rfl) ?_ _
          go_wp2_with fail
          go_meet
          refine ⟨w6.heap.size, w43.heap.size, T1, m1, T2, m2, rfl, rfl, by rw [size_put, size_put]; omega, by rw [size_put, size_put]; omega, ?_, ?_, ?_, ?_, ?_⟩
          · exact (box_farR (by omega) _ _ _).trans (box_put B5 (.bool s1) (.slice T1 n1 m1) (.int .i64 e1))
          · exact box_put ((box_farR (by omega) _ _ _).trans B6) (.bool s2) (.slice T2 n2 m2) (.int .i64 e2)
          · exact (below_put (below_put c46 (by omega) _ _ _) (by omega) _ _ _)
          · exact (ints_put (ints_put IT1 (by omega) _ _ _) (by omega) _ _ _).more (by omega) (by rw [size_put, size_put]; omega)
          · exact (ints_put (ints_put IT2 (by omega) _ _ _) (by omega) _ _ _).more (by omega) (by rw [size_put, size_put]; omega)
        case o5_9 =>
          
          go_simp
          have hB := (Below.refl w41.heap.size w41).alloc (Nat.le_refl _) (.cells #[.bool false, .slice none 0 0, .int .i64 0] 25)
          have B6 := heap_alloc_last w41 (.cells #[.bool false, .slice none 0 0, .int .i64 0] 25)
          have mw47 : w41.heap.size < (w41.alloc (.cells #[.bool false, .slice none 0 0, .int .i64 0] 25)).heap.size := by simp
          generalize hw : w41.alloc (.cells #[.bool false, .slice none 0 0, .int .i64 0] 25) = w47 at *
          have lw47 : w41.heap.size ≤ w47.heap.size := hB.size
          replace h1 := h1.below hB (by omega)
          replace h2 := h2.below hB (by omega)
          replace IT1 := IT1.below hB (by omega)
          replace D1 := (hB.block _ (by omega)).trans D1
          replace D2 := (hB.block _ (by omega)).trans D2
          replace B5 := (hB.block _ (by omega)).trans B5
          have c48 := c42.trans (hB.mono (by omega))
          clear hB
          try clear hw
          refine hK _ _ ⟨fun _ _ p hp => c48.block p hp, ?_⟩
          clear hK K
          try simp only [Act.put, List.setIfInBounds_toArray, List.set_cons_zero, List.set_cons_succ]
          refine stepK (i := 3) (L := #[true, true, true, true, true, true, false, false]) rfl (by rfl) (by kernel_rfl) (by rfl) (fun K hK => ?_)
          go_simp
          go_at_call 35
          refine (Pa.rTwin_any w47 s2 A2 n2 c2 xs2 e2 (h2.more (Nat.zero_le _) (by omega)) (by omega)).mono ?_
          rintro e' w49 ⟨T2, m2, rfl, lm2, hB, lt2, IT2⟩
          have lw49 : w47.heap.size ≤ w49.heap.size := hB.size
          replace h1 := h1.below hB (by omega)
          replace h2 := h2.below hB (by omega)
          replace IT1 := IT1.below hB (by omega)
          replace D1 := (hB.block _ (by omega)).trans D1
          replace D2 := (hB.block _ (by omega)).trans D2
          replace B5 := (hB.block _ (by omega)).trans B5
          replace B6 := (hB.block _ (by omega)).trans B6
          have c50 := c48.trans (hB.mono (by omega))
          clear hB
          refine hK _ _ ⟨fun _ _ p hp => c50.block p hp, ?_⟩
          clear hK K
          try simp only [Act.put, List.setIfInBounds_toArray, List.set_cons_zero, List.set_cons_succ]
          refine stepK (i := 6) (L := #[true, true, true, true, true, true, true, false]) rfl (by rfl) (by kernel_rfl) (by rfl) (fun K hK => ?_)
          go_simp
          obtain ⟨⟨p1, p2, p3⟩, p4, p5, p6⟩ := boxD B5
          go_simp
          refine hK _ _ ⟨fun _ _ p hp => (below_put c50 (by omega) _ _ _).block p hp, ?_⟩
          clear hK K
          try simp only [Act.put, List.setIfInBounds_toArray, List.set_cons_zero, List.set_cons_succ]
          refine stepK (i := 7) (L := #[true, true, true, true, true, true, true, true]) rfl (by rfl) (by kernel_rfl) (by rfl) (fun K hK => ?_)
          go_simp
          obtain ⟨⟨p1, p2, p3⟩, p4, p5, p6⟩ := boxD B6
          go_simp
          refine hK _ _ ⟨fun _ _ p hp => (below_put (below_put c50 (by omega) _ _ _) (by omega) _ _ _).block p hp, ?_⟩
          clear hK K
          try simp only [Act.put, List.setIfInBounds_toArray, List.set_cons_zero, List.set_cons_succ]
          refine doneE (by kernel_rfl) ?_ _
          go_wp2_with fail
          go_meet
          refine ⟨w6.heap.size, w41.heap.size, T1, m1, T2, m2, rfl, rfl, by rw [size_put, size_put]; omega, by rw [size_put, size_put]; omega, ?_, ?_, ?_, ?_, ?_⟩
          · exact (box_farR (by omega) _ _ _).trans (box_put B5 (.bool s1) (.slice T1 n1 m1) (.int .i64 e1))
          · exact box_put ((box_farR (by omega) _ _ _).trans B6) (.bool s2) (.slice T2 n2 m2) (.int .i64 e2)
          · exact (below_put (below_put c50 (by omega) _ _ _) (by omega) _ _ _)
          · exact (ints_put (ints_put IT1 (by omega) _ _ _) (by omega) _ _ _).more (by omega) (by rw [size_put, size_put]; omega)
          · exact (ints_put (ints_put IT2 (by omega) _ _ _) (by omega) _ _ _).more (by omega) (by rw [size_put, size_put]; omega)
      case o5_8 =>
        
        go_simp
        have hB := (Below.refl w39.heap.size w39).alloc (Nat.le_refl _) (.cells #[.bool false, .slice none 0 0, .int .i64 0] 25)
        have B6 := heap_alloc_last w39 (.cells #[.bool false, .slice none 0 0, .int .i64 0] 25)
        have mw51 : w39.heap.size < (w39.alloc (.cells #[.bool false, .slice none 0 0, .int .i64 0] 25)).heap.size := by simp
        generalize hw : w39.alloc (.cells #[.bool false, .slice none 0 0, .int .i64 0] 25) = w51 at *
        have lw51 : w39.heap.size ≤ w51.heap.size := hB.size
        replace h1 := h1.below hB (by omega)
        replace h2 := h2.below hB (by omega)
        replace D1 := (hB.block _ (by omega)).trans D1
        replace D2 := (hB.block _ (by omega)).trans D2
        replace B5 := (hB.block _ (by omega)).trans B5
        have c52 := c40.trans (hB.mono (by omega))
        clear hB
        try clear hw
        refine hK _ _ ⟨fun _ _ p hp => c52.block p hp, ?_⟩
        clear hK K
        try simp only [Act.put, List.setIfInBounds_toArray, List.set_cons_zero, List.set_cons_succ]
        refine stepK (i := 1) (L := #[true, true, true, false, true, true, false, false]) rfl (by rfl) (by kernel_rfl) (by rfl) (fun K hK => ?_)
        go_simp
        go_at_call 35
        refine (Pa.rTwin_any w51 s1 A1 n1 c1 xs1 e1 (h1.more (Nat.zero_le _) (by omega)) (by omega)).mono ?_
        rintro e' w53 ⟨T1, m1, rfl, lm1, hB, lt1, IT1⟩
        have lw53 : w51.heap.size ≤ w53.heap.size := hB.size
        replace h1 := h1.below hB (by omega)
        replace h2 := h2.below hB (by omega)
        replace D1 := (hB.block _ (by omega)).trans D1
        replace D2 := (hB.block _ (by omega)).trans D2
        replace B5 := (hB.block _ (by omega)).trans B5
        replace B6 := (hB.block _ (by omega)).trans B6
        have c54 := c52.trans (hB.mono (by omega))
        clear hB
        refine hK _ _ ⟨fun _ _ p hp => c54.block p hp, ?_⟩
        clear hK K
        try simp only [Act.put, List.setIfInBounds_toArray, List.set_cons_zero, List.set_cons_succ]
        refine stepK (i := 3) (L := #[true, true, true, true, true, true, false, false]) rfl (by rfl) (by kernel_rfl) (by rfl) (fun K hK => ?_)
        go_simp
        go_at_call 35
        refine (Pa.rTwin_any w53 s2 A2 n2 c2 xs2 e2 (h2.more (Nat.zero_le _) (by omega)) (by omega)).mono ?_
        rintro e' w55 ⟨T2, m2, rfl, lm2, hB, lt2, IT2⟩
        have lw55 : w53.heap.size ≤ w55.heap.size := hB.size
        replace h1 := h1.below hB (by omega)
        replace h2 := h2.below hB (by omega)
        replace IT1 := IT1.below hB (by omega)
        replace D1 := (hB.block _ (by omega)).trans D1
        replace D2 := (hB.block _ (by omega)).trans D2
        replace B5 := (hB.block _ (by omega)).trans B5
        replace B6 := (hB.block _ (by omega)).trans B6
        have c56 := c54.trans (hB.mono (by omega))
        clear hB
        refine hK _ _ ⟨fun _ _ p hp => c56.block p hp, ?_⟩
        clear hK K
        try simp only [Act.put, List.setIfInBounds_toArray, List.set_cons_zero, List.set_cons_succ]
        refine stepK (i := 6) (L := #[true, true, true, true, true, true, true, false]) rfl (by rfl) (by kernel_rfl) (by rfl) (fun K hK => ?_)
        go_simp
        obtain ⟨⟨p1, p2, p3⟩, p4, p5, p6⟩ := boxD B5
        go_simp
        refine hK _ _ ⟨fun _ _ p hp => (below_put c56 (by omega) _ _ _).block p hp, ?_⟩
        clear hK K
        try simp only [Act.put, List.setIfInBounds_toArray, List.set_cons_zero, List.set_cons_succ]
        refine stepK (i := 7) (L := #[true, true, true, true, true, true, true, true]) rfl (by rfl) (by kernel_rfl) (by rfl) (fun K hK => ?_)
        go_simp
        obtain ⟨⟨p1, p2, p3⟩, p4, p5, p6⟩ := boxD B6
        go_simp
        refine hK _ _ ⟨fun _ _ p hp => (below_put (below_put c56 (by omega) _ _ _) (by omega) _ _ _).block p hp, ?_⟩
        clear hK K
        try simp only [Act.put, List.setIfInBounds_toArray, List.set_cons_zero, List.set_cons_succ]
        refine doneE (by kernel_rfl) ?_ _
        go_wp2_with fail
        go_meet
        refine ⟨w6.heap.size, w39.heap.size, T1, m1, T2, m2, rfl, rfl, by rw [size_put, size_put]; omega, by rw [size_put, size_put]; omega, ?_, ?_, ?_, ?_, ?_⟩
        · exact (box_farR (by omega) _ _ _).trans (box_put B5 (.bool s1) (.slice T1 n1 m1) (.int .i64 e1))
        · exact box_put ((box_farR (by omega) _ _ _).trans B6) (.bool s2) (.slice T2 n2 m2) (.int .i64 e2)
        · exact (below_put (below_put c56 (by omega) _ _ _) (by omega) _ _ _)
        · exact (ints_put (ints_put IT1 (by omega) _ _ _) (by omega) _ _ _).more (by omega) (by rw [size_put, size_put]; omega)
        · exact (ints_put (ints_put IT2 (by omega) _ _ _) (by omega) _ _ _).more (by omega) (by rw [size_put, size_put]; omega)
    case o5_3 =>
      
      go_simp
      have hB := (Below.refl w6.heap.size w6).alloc (Nat.le_refl _) (.cells #[.bool false, .slice none 0 0, .int .i64 0] 25)
      have B6 := heap_alloc_last w6 (.cells #[.bool false, .slice none 0 0, .int .i64 0] 25)
      have mw57 : w6.heap.size < (w6.alloc (.cells #[.bool false, .slice none 0 0, .int .i64 0] 25)).heap.size := by simp
      generalize hw : w6.alloc (.cells #[.bool false, .slice none 0 0, .int .i64 0] 25) = w57 at *
      have lw57 : w6.heap.size ≤ w57.heap.size := hB.size
      replace h1 := h1.below hB (by omega)
      replace h2 := h2.below hB (by omega)
      replace D1 := (hB.block _ (by omega)).trans D1
      replace D2 := (hB.block _ (by omega)).trans D2
      have c58 := hB0.trans (hB.mono (by omega))
      clear hB
      try clear hw
      refine hK _ _ ⟨fun _ _ p hp => c58.block p hp, ?_⟩
      clear hK K
      try simp only [Act.put, List.setIfInBounds_toArray, List.set_cons_zero, List.set_cons_succ]
      refine stepK2 (i := 1) (j := 4) (Li := #[true, true, true, false, false, true, false, false]) (Lj := #[true, false, true, false, true, true, false, false]) rfl rfl (by rfl) (by rfl) (by kernel_rfl) (by rfl) (by rfl) (fun K hK => ?o1_10) (fun K hK => ?o4_10)
      case o1_10 =>
        
        go_simp
        go_at_call 35
        refine (Pa.rTwin_any w57 s1 A1 n1 c1 xs1 e1 (h1.more (Nat.zero_le _) (by omega)) (by omega)).mono ?_
        rintro e' w59 ⟨T1, m1, rfl, lm1, hB, lt1, IT1⟩
        have lw59 : w57.heap.size ≤ w59.heap.size := hB.size
        replace h1 := h1.below hB (by omega)
        replace h2 := h2.below hB (by omega)
        replace D1 := (hB.block _ (by omega)).trans D1
        replace D2 := (hB.block _ (by omega)).trans D2
        replace B6 := (hB.block _ (by omega)).trans B6
        have c60 := c58.trans (hB.mono (by omega))
        clear hB
        refine hK _ _ ⟨fun _ _ p hp => c60.block p hp, ?_⟩
        clear hK K
        try simp only [Act.put, List.setIfInBounds_toArray, List.set_cons_zero, List.set_cons_succ]
        refine stepK2 (i := 3) (j := 4) (Li := #[true, true, true, true, false, true, false, false]) (Lj := #[true, true, true, false, true, true, false, false]) rfl rfl (by rfl) (by rfl) (by kernel_rfl) (by rfl) (by rfl) (fun K hK => ?o3_11) (fun K hK => ?o4_11)
        case o3_11 =>
          
          go_simp
          go_at_call 35
          refine (Pa.rTwin_any w59 s2 A2 n2 c2 xs2 e2 (h2.more (Nat.zero_le _) (by omega)) (by omega)).mono ?_
          rintro e' w61 ⟨T2, m2, rfl, lm2, hB, lt2, IT2⟩
          have lw61 : w59.heap.size ≤ w61.heap.size := hB.size
          replace h1 := h1.below hB (by omega)
          replace h2 := h2.below hB (by omega)
          replace IT1 := IT1.below hB (by omega)
          replace D1 := (hB.block _ (by omega)).trans D1
          replace D2 := (hB.block _ (by omega)).trans D2
          replace B6 := (hB.block _ (by omega)).trans B6
          have c62 := c60.trans (hB.mono (by omega))
          clear hB
          refine hK _ _ ⟨fun _ _ p hp => c62.block p hp, ?_⟩
          clear hK K
          try simp only [Act.put, List.setIfInBounds_toArray, List.set_cons_zero, List.set_cons_succ]
          refine stepK (i := 4) (L := #[true, true, true, true, true, true, false, false]) rfl (by rfl) (by kernel_rfl) (by rfl) (fun K hK => ?_)
          go_simp
          have hB := (Below.refl w61.heap.size w61).alloc (Nat.le_refl _) (.cells #[.bool false, .slice none 0 0, .int .i64 0] 25)
          have B5 := heap_alloc_last w61 (.cells #[.bool false, .slice none 0 0, .int .i64 0] 25)
          have mw63 : w61.heap.size < (w61.alloc (.cells #[.bool false, .slice none 0 0, .int .i64 0] 25)).heap.size := by simp
          generalize hw : w61.alloc (.cells #[.bool false, .slice none 0 0, .int .i64 0] 25) = w63 at *
          have lw63 : w61.heap.size ≤ w63.heap.size := hB.size
          replace h1 := h1.below hB (by omega)
          replace h2 := h2.below hB (by omega)
          replace IT1 := IT1.below hB (by omega)
          replace IT2 := IT2.below hB (by omega)
          replace D1 := (hB.block _ (by omega)).trans D1
          replace D2 := (hB.block _ (by omega)).trans D2
          replace B6 := (hB.block _ (by omega)).trans B6
          have c64 := c62.trans (hB.mono (by omega))
          clear hB
          try clear hw
          refine hK _ _ ⟨fun _ _ p hp => c64.block p hp, ?_⟩
          clear hK K
          try simp only [Act.put, List.setIfInBounds_toArray, List.set_cons_zero, List.set_cons_succ]
          refine stepK (i := 6) (L := #[true, true, true, true, true, true, true, false]) rfl (by rfl) (by kernel_rfl) (by rfl) (fun K hK => ?_)
          go_simp
          obtain ⟨⟨p1, p2, p3⟩, p4, p5, p6⟩ := boxD B5
          go_simp
          refine hK _ _ ⟨fun _ _ p hp => (below_put c64 (by omega) _ _ _).block p hp, ?_⟩
          clear hK K
          try simp only [Act.put, List.setIfInBounds_toArray, List.set_cons_zero, List.set_cons_succ]
          refine stepK (i := 7) (L := #[true, true, true, true, true, true, true, true]) rfl (by rfl) (by kernel_rfl) (by rfl) (fun K hK => ?_)
          go_simp
          obtain ⟨⟨p1, p2, p3⟩, p4, p5, p6⟩ := boxD B6
          go_simp
          refine hK _ _ ⟨fun _ _ p hp => (below_put (below_put c64 (by omega) _ _ _) (by omega) _ _ _).block p hp, ?_⟩
          clear hK K
          try simp only [Act.put, List.setIfInBounds_toArray, List.set_cons_zero, List.set_cons_succ]
          refine doneE (by kernel_rfl) ?_ _
          go_wp2_with fail
          go_meet
          refine ⟨w61.heap.size, w6.heap.size, T1, m1, T2, m2, rfl, rfl, by rw [size_put, size_put]; omega, by rw [size_put, size_put]; omega, ?_, ?_, ?_, ?_, ?_⟩
          · exact (box_farR (by omega) _ _ _).trans (box_put B5 (.bool s1) (.slice T1 n1 m1) (.int .i64 e1))
          · exact box_put ((box_farR (by omega) _ _ _).trans B6) (.bool s2) (.slice T2 n2 m2) (.int .i64 e2)
          · exact (below_put (below_put c64 (by omega) _ _ _) (by omega) _ _ _)
          · exact (ints_put (ints_put IT1 (by omega) _ _ _) (by omega) _ _ _).more (by omega) (by rw [size_put, size_put]; omega)
          · exact (ints_put (ints_put IT2 (by omega) _ _ _) (by omega) _ _ _).more (by omega) (by rw [size_put, size_put]; omega)
        case o4_11 =>
          
          go_simp
          have hB := (Below.refl w59.heap.size w59).alloc (Nat.le_refl _) (.cells #[.bool false, .slice none 0 0, .int .i64 0] 25)
          have B5 := heap_alloc_last w59 (.cells #[.bool false, .slice none 0 0, .int .i64 0] 25)
          have mw65 : w59.heap.size < (w59.alloc (.cells #[.bool false, .slice none 0 0, .int .i64 0] 25)).heap.size := by simp
          generalize hw : w59.alloc (.cells #[.bool false, .slice none 0 0, .int .i64 0] 25) = w65 at *
          have lw65 : w59.heap.size ≤ w65.heap.size := hB.size
          replace h1 := h1.below hB (by omega)
          replace h2 := h2.below hB (by omega)
          replace IT1 := IT1.below hB (by omega)
          replace D1 := (hB.block _ (by omega)).trans D1
          replace D2 := (hB.block _ (by omega)).trans D2
          replace B6 := (hB.block _ (by omega)).trans B6
          have c66 := c60.trans (hB.mono (by omega))
          clear hB
          try clear hw
          refine hK _ _ ⟨fun _ _ p hp => c66.block p hp, ?_⟩
          clear hK K
          try simp only [Act.put, List.setIfInBounds_toArray, List.set_cons_zero, List.set_cons_succ]
          refine stepK (i := 3) (L := #[true, true, true, true, true, true, false, false]) rfl (by rfl) (by kernel_rfl) (by rfl) (fun K hK => ?_)
          go_simp
          go_at_call 35
          refine (Pa.rTwin_any w65 s2 A2 n2 c2 xs2 e2 (h2.more (Nat.zero_le _) (by omega)) (by omega)).mono ?_
          rintro e' w67 ⟨T2, m2, rfl, lm2, hB, lt2, IT2⟩
          have lw67 : w65.heap.size ≤ w67.heap.size := hB.size
          replace h1 := h1.below hB (by omega)
          replace h2 := h2.below hB (by omega)
          replace IT1 := IT1.below hB (by omega)
          replace D1 := (hB.block _ (by omega)).trans D1
          replace D2 := (hB.block _ (by omega)).trans D2
          replace B6 := (hB.block _ (by omega)).trans B6
          replace B5 := (hB.block _ (by omega)).trans B5
          have c68 := c66.trans (hB.mono (by omega))
          clear hB
          refine hK _ _ ⟨fun _ _ p hp => c68.block p hp, ?_⟩
          clear hK K
          try simp only [Act.put, List.setIfInBounds_toArray, List.set_cons_zero, List.set_cons_succ]
          refine stepK (i := 6) (L := #[true, true, true, true, true, true, true, false]) rfl (by rfl) (by kernel_rfl) (by rfl) (fun K hK => ?_)
          go_simp
          obtain ⟨⟨p1, p2, p3⟩, p4, p5, p6⟩ := boxD B5
          go_simp
          refine hK _ _ ⟨fun _ _ p hp => (below_put c68 (by omega) _ _ _).block p hp, ?_⟩
          clear hK K
          try simp only [Act.put, List.setIfInBounds_toArray, List.set_cons_zero, List.set_cons_succ]
          refine stepK (i := 7) (L := #[true, true, true, true, true, true, true, true]) rfl (by rfl) (by kernel_rfl) (by rfl) (fun K hK => ?_)
          go_simp
          obtain ⟨⟨p1, p2, p3⟩, p4, p5, p6⟩ := boxD B6
          go_simp
          refine hK _ _ ⟨fun _ _ p hp => (below_put (below_put c68 (by omega) _ _ _) (by omega) _ _ _).block p hp, ?_⟩
          clear hK K
          try simp only [Act.put, List.setIfInBounds_toArray, List.set_cons_zero, List.set_cons_succ]
          refine doneE (by kernel_rfl) ?_ _
          go_wp2_with fail
          go_meet
          refine ⟨w59.heap.size, w6.heap.size, T1, m1, T2, m2, rfl, rfl, by rw [size_put, size_put]; omega, by rw [size_put, size_put]; omega, ?_, ?_, ?_, ?_, ?_⟩
          · exact (box_farR (by omega) _ _ _).trans (box_put B5 (.bool s1) (.slice T1 n1 m1) (.int .i64 e1))
          · exact box_put ((box_farR (by omega) _ _ _).trans B6) (.bool s2) (.slice T2 n2 m2) (.int .i64 e2)
          · exact (below_put (below_put c68 (by omega) _ _ _) (by omega) _ _ _)
          · exact (ints_put (ints_put IT1 (by omega) _ _ _) (by omega) _ _ _).more (by omega) (by rw [size_put, size_put]; omega)
          · exact (ints_put (ints_put IT2 (by omega) _ _ _) (by omega) _ _ _).more (by omega) (by rw [size_put, size_put]; omega)
      case o4_10 =>
        
        go_simp
        have hB := (Below.refl w57.heap.size w57).alloc (Nat.le_refl _) (.cells #[.bool false, .slice none 0 0, .int .i64 0] 25)
        have B5 := heap_alloc_last w57 (.cells #[.bool false, .slice none 0 0, .int .i64 0] 25)
        have mw69 : w57.heap.size < (w57.alloc (.cells #[.bool false, .slice none 0 0, .int .i64 0] 25)).heap.size := by simp
        generalize hw : w57.alloc (.cells #[.bool false, .slice none 0 0, .int .i64 0] 25) = w69 at *
        have lw69 : w57.heap.size ≤ w69.heap.size := hB.size
        replace h1 := h1.below hB (by omega)
        replace h2 := h2.below hB (by omega)
        replace D1 := (hB.block _ (by omega)).trans D1
        replace D2 := (hB.block _ (by omega)).trans D2
        replace B6 := (hB.block _ (by omega)).trans B6
        have c70 := c58.trans (hB.mono (by omega))
        clear hB
        try clear hw
        refine hK _ _ ⟨fun _ _ p hp => c70.block p hp, ?_⟩
        clear hK K
        try simp only [Act.put, List.setIfInBounds_toArray, List.set_cons_zero, List.set_cons_succ]
        refine stepK (i := 1) (L := #[true, true, true, false, true, true, false, false]) rfl (by rfl) (by kernel_rfl) (by rfl) (fun K hK => ?_)
        go_simp
        go_at_call 35
        refine (Pa.rTwin_any w69 s1 A1 n1 c1 xs1 e1 (h1.more (Nat.zero_le _) (by omega)) (by omega)).mono ?_
        rintro e' w71 ⟨T1, m1, rfl, lm1, hB, lt1, IT1⟩
        have lw71 : w69.heap.size ≤ w71.heap.size := hB.size
        replace h1 := h1.below hB (by omega)
        replace h2 := h2.below hB (by omega)
        replace D1 := (hB.block _ (by omega)).trans D1
        replace D2 := (hB.block _ (by omega)).trans D2
        replace B6 := (hB.block _ (by omega)).trans B6
        replace B5 := (hB.block _ (by omega)).trans B5
        have c72 := c70.trans (hB.mono (by omega))
        clear hB
        refine hK _ _ ⟨fun _ _ p hp => c72.block p hp, ?_⟩
        clear hK K
        try simp only [Act.put, List.setIfInBounds_toArray, List.set_cons_zero, List.set_cons_succ]
        refine stepK (i := 3) (L := #[true, true, true, true, true, true, false, false]) rfl (by rfl) (by kernel_rfl) (by rfl) (fun K hK => ?_)
        go_simp
        go_at_call 35
        refine (Pa.rTwin_any w71 s2 A2 n2 c2 xs2 e2 (h2.more (Nat.zero_le _) (by omega)) (by omega)).mono ?_
        rintro e' w73 ⟨T2, m2, rfl, lm2, hB, lt2, IT2⟩
        have lw73 : w71.heap.size ≤ w73.heap.size := hB.size
        replace h1 := h1.below hB (by omega)
        replace h2 := h2.below hB (by omega)
        replace IT1 := IT1.below hB (by omega)
        replace D1 := (hB.block _ (by omega)).trans D1
        replace D2 := (hB.block _ (by omega)).trans D2
        replace B6 := (hB.block _ (by omega)).trans B6
        replace B5 := (hB.block _ (by omega)).trans B5
        have c74 := c72.trans (hB.mono (by omega))
        clear hB
        refine hK _ _ ⟨fun _ _ p hp => c74.block p hp, ?_⟩
        clear hK K
        try simp only [Act.put, List.setIfInBounds_toArray, List.set_cons_zero, List.set_cons_succ]
        refine stepK (i := 6) (L := #[true, true, true, true, true, true, true, false]) rfl (by rfl) (by kernel_rfl) (by rfl) (fun K hK => ?_)
        go_simp
        obtain ⟨⟨p1, p2, p3⟩, p4, p5, p6⟩ := boxD B5
        go_simp
        refine hK _ _ ⟨fun _ _ p hp => (below_put c74 (by omega) _ _ _).block p hp, ?_⟩
        clear hK K
        try simp only [Act.put, List.setIfInBounds_toArray, List.set_cons_zero, List.set_cons_succ]
        refine stepK (i := 7) (L := #[true, true, true, true, true, true, true, true]) rfl (by rfl) (by kernel_rfl) (by rfl) (fun K hK => ?_)
        go_simp
        obtain ⟨⟨p1, p2, p3⟩, p4, p5, p6⟩ := boxD B6
        go_simp
        refine hK _ _ ⟨fun _ _ p hp => (below_put (below_put c74 (by omega) _ _ _) (by omega) _ _ _).block p hp, ?_⟩
        clear hK K
        try simp only [Act.put, List.setIfInBounds_toArray, List.set_cons_zero, List.set_cons_succ]
        refine doneE (by kernel_rfl) ?_ _
        go_wp2_with fail
        go_meet
        refine ⟨w57.heap.size, w6.heap.size, T1, m1, T2, m2, rfl, rfl, by rw [size_put, size_put]; omega, by rw [size_put, size_put]; omega, ?_, ?_, ?_, ?_, ?_⟩
        · exact (box_farR (by omega) _ _ _).trans (box_put B5 (.bool s1) (.slice T1 n1 m1) (.int .i64 e1))
        · exact box_put ((box_farR (by omega) _ _ _).trans B6) (.bool s2) (.slice T2 n2 m2) (.int .i64 e2)
        · exact (below_put (below_put c74 (by omega) _ _ _) (by omega) _ _ _)
        · exact (ints_put (ints_put IT1 (by omega) _ _ _) (by omega) _ _ _).more (by omega) (by rw [size_put, size_put]; omega)
        · exact (ints_put (ints_put IT2 (by omega) _ _ _) (by omega) _ _ _).more (by omega) (by rw [size_put, size_put]; omega)
  case rest =>
    obtain ⟨g5, g6, T5, m5, T6, m6, rfl, rfl, lg5, lg6, D5, D6, hB, t1, t2⟩ := hcut
    have b0_ : Below w.heap.size w w4 := c5
    have S1 : w.heap.size < w4.heap.size := by omega
    have S2 : w.heap.size + 1 < w4.heap.size := by omega
    replace h1 : Ints w4 0 w4.heap.size .u32 A1 n1 xs1 := h1.more (Nat.le_refl _) (by omega)
    replace h2 : Ints w4 0 w4.heap.size .u32 A2 n2 xs2 := h2.more (Nat.le_refl _) (by omega)
    obtain ⟨⟨q1_0, q1_1, q1_2⟩, q1_3, q1_4, q1_5⟩ := boxD D5
    obtain ⟨⟨q2_0, q2_1, q2_2⟩, q2_3, q2_4, q2_5⟩ := boxD D6
    go_wp2_with fail
    refine (Floor_all wc s1 s2 T5 T6 n1 m5 n2 m6 xs1 xs2 e1 e2 t1 t2 k rx kx HX.out).mono ?_
    rintro e' v3 ⟨P9, i9, d9, rfl, lc9, j4, J9⟩
    clear q1_0 q1_1 q1_2 q1_3 q1_4 q1_5 q2_0 q2_1 q2_2 q2_3 q2_4 q2_5
    try clear hw
    replace J9 := ints_all J9
    have j6 := (Below.refl v3.heap.size v3).alloc (Nat.le_refl _) (.cells #[.bool rx.neg, .slice P9 i9 d9, .int .i64 rx.e] 25)
    have E9 := heap_alloc_last v3 (.cells #[.bool rx.neg, .slice P9 i9 d9, .int .i64 rx.e] 25)
    have s7 : v3.heap.size < (v3.alloc (.cells #[.bool rx.neg, .slice P9 i9 d9, .int .i64 rx.e] 25)).heap.size := by simp
    generalize hw : v3.alloc (.cells #[.bool rx.neg, .slice P9 i9 d9, .int .i64 rx.e] 25) = v5 at *
    obtain ⟨⟨q8_0, q8_1, q8_2⟩, q8_3, q8_4, q8_5⟩ := boxD (box_later D1 (later hB (later j4 j6)) S1)
    obtain ⟨⟨q9_0, q9_1, q9_2⟩, q9_3, q9_4, q9_5⟩ := boxD (box_later D2 (later hB (later j4 j6)) S2)
    go_wp2_with fail
    refine (rFloor_all v5 s1 s2 A1 A2 n1 c1 n2 c2 xs1 xs2 e1 e2 (ints_on h1 (later hB (later j4 j6))) (ints_on h2 (later hB (later j4 j6))) k rx kx HX.out).mono ?_
    rintro e' v10 ⟨P11, i11, d11, rfl, lc11, j11, J11⟩
    clear q8_0 q8_1 q8_2 q8_3 q8_4 q8_5 q9_0 q9_1 q9_2 q9_3 q9_4 q9_5
    try clear hw
    replace J11 := ints_all J11
    have j13 := (Below.refl v10.heap.size v10).alloc (Nat.le_refl _) (.cells #[.bool rx.neg, .slice P11 i11 d11, .int .i64 rx.e] 25)
    have E11 := heap_alloc_last v10 (.cells #[.bool rx.neg, .slice P11 i11 d11, .int .i64 rx.e] 25)
    have s14 : v10.heap.size < (v10.alloc (.cells #[.bool rx.neg, .slice P11 i11 d11, .int .i64 rx.e] 25)).heap.size := by simp
    generalize hw : v10.alloc (.cells #[.bool rx.neg, .slice P11 i11 d11, .int .i64 rx.e] 25) = v12 at *
    obtain ⟨⟨q15_0, q15_1, q15_2⟩, q15_3, q15_4, q15_5⟩ := boxD (box_later D5 (later j4 (later j6 (later j11 j13))) lg5)
    obtain ⟨⟨q16_0, q16_1, q16_2⟩, q16_3, q16_4, q16_5⟩ := boxD (box_later D6 (later j4 (later j6 (later j11 j13))) lg6)
    go_wp2_with fail
    refine (Ceil_all v12 s1 s2 T5 T6 n1 m5 n2 m6 xs1 xs2 e1 e2 (ints_on t1 (later j4 (later j6 (later j11 j13)))) (ints_on t2 (later j4 (later j6 (later j11 j13)))) k rp kp HP.out).mono ?_
    rintro e' v17 ⟨P13, i13, d13, rfl, lc13, j18, J13⟩
    clear q15_0 q15_1 q15_2 q15_3 q15_4 q15_5 q16_0 q16_1 q16_2 q16_3 q16_4 q16_5
    try clear hw
    replace J13 := ints_all J13
    have j20 := (Below.refl v17.heap.size v17).alloc (Nat.le_refl _) (.cells #[.bool rp.neg, .slice P13 i13 d13, .int .i64 rp.e] 25)
    have E13 := heap_alloc_last v17 (.cells #[.bool rp.neg, .slice P13 i13 d13, .int .i64 rp.e] 25)
    have s21 : v17.heap.size < (v17.alloc (.cells #[.bool rp.neg, .slice P13 i13 d13, .int .i64 rp.e] 25)).heap.size := by simp
    generalize hw : v17.alloc (.cells #[.bool rp.neg, .slice P13 i13 d13, .int .i64 rp.e] 25) = v19 at *
    obtain ⟨⟨q22_0, q22_1, q22_2⟩, q22_3, q22_4, q22_5⟩ := boxD (box_later D1 (later hB (later j4 (later j6 (later j11 (later j13 (later j18 j20)))))) S1)
    obtain ⟨⟨q23_0, q23_1, q23_2⟩, q23_3, q23_4, q23_5⟩ := boxD (box_later D2 (later hB (later j4 (later j6 (later j11 (later j13 (later j18 j20)))))) S2)
    go_wp2_with fail
    refine (rCeil_all v19 s1 s2 A1 A2 n1 c1 n2 c2 xs1 xs2 e1 e2 (ints_on h1 (later hB (later j4 (later j6 (later j11 (later j13 (later j18 j20))))))) (ints_on h2 (later hB (later j4 (later j6 (later j11 (later j13 (later j18 j20))))))) k rp kp HP.out).mono ?_
    rintro e' v24 ⟨P15, i15, d15, rfl, lc15, j25, J15⟩
    clear q22_0 q22_1 q22_2 q22_3 q22_4 q22_5 q23_0 q23_1 q23_2 q23_3 q23_4 q23_5
    try clear hw
    replace J15 := ints_all J15
    have j27 := (Below.refl v24.heap.size v24).alloc (Nat.le_refl _) (.cells #[.bool rp.neg, .slice P15 i15 d15, .int .i64 rp.e] 25)
    have E15 := heap_alloc_last v24 (.cells #[.bool rp.neg, .slice P15 i15 d15, .int .i64 rp.e] 25)
    have s28 : v24.heap.size < (v24.alloc (.cells #[.bool rp.neg, .slice P15 i15 d15, .int .i64 rp.e] 25)).heap.size := by simp
    generalize hw : v24.alloc (.cells #[.bool rp.neg, .slice P15 i15 d15, .int .i64 rp.e] 25) = v26 at *
    obtain ⟨⟨q29_0, q29_1, q29_2⟩, q29_3, q29_4, q29_5⟩ := boxD (box_later D5 (later j4 (later j6 (later j11 (later j13 (later j18 (later j20 (later j25 j27))))))) lg5)
    obtain ⟨⟨q30_0, q30_1, q30_2⟩, q30_3, q30_4, q30_5⟩ := boxD (box_later D6 (later j4 (later j6 (later j11 (later j13 (later j18 (later j20 (later j25 j27))))))) lg6)
    go_wp2_with fail
    refine (near_all v26 s1 s2 T5 T6 n1 m5 n2 m6 xs1 xs2 e1 e2 (ints_on t1 (later j4 (later j6 (later j11 (later j13 (later j18 (later j20 (later j25 j27)))))))) (ints_on t2 (later j4 (later j6 (later j11 (later j13 (later j18 (later j20 (later j25 j27)))))))) rs ks HS.out).mono ?_
    rintro e' v31 ⟨P17, i17, d17, rfl, lc17, j32, J17⟩
    clear q29_0 q29_1 q29_2 q29_3 q29_4 q29_5 q30_0 q30_1 q30_2 q30_3 q30_4 q30_5
    try clear hw
    replace J17 := ints_all J17
    have j34 := (Below.refl v31.heap.size v31).alloc (Nat.le_refl _) (.cells #[.bool rs.neg, .slice P17 i17 d17, .int .i64 rs.e] 25)
    have E17 := heap_alloc_last v31 (.cells #[.bool rs.neg, .slice P17 i17 d17, .int .i64 rs.e] 25)
    have s35 : v31.heap.size < (v31.alloc (.cells #[.bool rs.neg, .slice P17 i17 d17, .int .i64 rs.e] 25)).heap.size := by simp
    generalize hw : v31.alloc (.cells #[.bool rs.neg, .slice P17 i17 d17, .int .i64 rs.e] 25) = v33 at *
    obtain ⟨⟨q36_0, q36_1, q36_2⟩, q36_3, q36_4, q36_5⟩ := boxD (box_later D1 (later hB (later j4 (later j6 (later j11 (later j13 (later j18 (later j20 (later j25 (later j27 (later j32 j34)))))))))) S1)
    obtain ⟨⟨q37_0, q37_1, q37_2⟩, q37_3, q37_4, q37_5⟩ := boxD (box_later D2 (later hB (later j4 (later j6 (later j11 (later j13 (later j18 (later j20 (later j25 (later j27 (later j32 j34)))))))))) S2)
    go_wp2_with fail
    refine (rNear_all v33 s1 s2 A1 A2 n1 c1 n2 c2 xs1 xs2 e1 e2 (ints_on h1 (later hB (later j4 (later j6 (later j11 (later j13 (later j18 (later j20 (later j25 (later j27 (later j32 j34))))))))))) (ints_on h2 (later hB (later j4 (later j6 (later j11 (later j13 (later j18 (later j20 (later j25 (later j27 (later j32 j34))))))))))) rs ks HS.out).mono ?_
    rintro e' v38 ⟨P19, i19, d19, rfl, lc19, j39, J19⟩
    clear q36_0 q36_1 q36_2 q36_3 q36_4 q36_5 q37_0 q37_1 q37_2 q37_3 q37_4 q37_5
    try clear hw
    replace J19 := ints_all J19
    have j41 := (Below.refl v38.heap.size v38).alloc (Nat.le_refl _) (.cells #[.bool rs.neg, .slice P19 i19 d19, .int .i64 rs.e] 25)
    have E19 := heap_alloc_last v38 (.cells #[.bool rs.neg, .slice P19 i19 d19, .int .i64 rs.e] 25)
    have s42 : v38.heap.size < (v38.alloc (.cells #[.bool rs.neg, .slice P19 i19 d19, .int .i64 rs.e] 25)).heap.size := by simp
    generalize hw : v38.alloc (.cells #[.bool rs.neg, .slice P19 i19 d19, .int .i64 rs.e] 25) = v40 at *
    have ex : (kx == kx) = true := by simp
    have ep : (kp == kp) = true := by simp
    have es : (ks == ks) = true := by simp
    obtain ⟨⟨q43_0, q43_1, q43_2⟩, q43_3, q43_4, q43_5⟩ := boxD (box_later E9 (later j11 (later j13 (later j18 (later j20 (later j25 (later j27 (later j32 (later j34 (later j39 j41))))))))) s7)
    obtain ⟨⟨q44_0, q44_1, q44_2⟩, q44_3, q44_4, q44_5⟩ := boxD (box_later E11 (later j18 (later j20 (later j25 (later j27 (later j32 (later j34 (later j39 j41))))))) s14)
    go_wp2_with fail
    refine (Pa.rSame_any v40 _ _ _ _ _ _ _ _ _ _ _ _ (ints_on J9 (later j6 (later j11 (later j13 (later j18 (later j20 (later j25 (later j27 (later j32 (later j34 (later j39 j41))))))))))) (ints_on J11 (later j13 (later j18 (later j20 (later j25 (later j27 (later j32 (later j34 (later j39 j41))))))))) true (same_canR rx)).mono ?_
    rintro e' v45 ⟨rfl, j46⟩
    clear q43_0 q43_1 q43_2 q43_3 q43_4 q43_5 q44_0 q44_1 q44_2 q44_3 q44_4 q44_5
    try clear hw
    obtain ⟨⟨q47_0, q47_1, q47_2⟩, q47_3, q47_4, q47_5⟩ := boxD (box_later E13 (later j25 (later j27 (later j32 (later j34 (later j39 (later j41 j46)))))) s21)
    obtain ⟨⟨q48_0, q48_1, q48_2⟩, q48_3, q48_4, q48_5⟩ := boxD (box_later E15 (later j32 (later j34 (later j39 (later j41 j46)))) s28)
    go_wp2_with fail
    refine (Pa.rSame_any v45 _ _ _ _ _ _ _ _ _ _ _ _ (ints_on J13 (later j20 (later j25 (later j27 (later j32 (later j34 (later j39 (later j41 j46)))))))) (ints_on J15 (later j27 (later j32 (later j34 (later j39 (later j41 j46)))))) true (same_canR rp)).mono ?_
    rintro e' v49 ⟨rfl, j50⟩
    clear q47_0 q47_1 q47_2 q47_3 q47_4 q47_5 q48_0 q48_1 q48_2 q48_3 q48_4 q48_5
    try clear hw
    obtain ⟨⟨q51_0, q51_1, q51_2⟩, q51_3, q51_4, q51_5⟩ := boxD (box_later E17 (later j39 (later j41 (later j46 j50))) s35)
    obtain ⟨⟨q52_0, q52_1, q52_2⟩, q52_3, q52_4, q52_5⟩ := boxD (box_later E19 (later j46 j50) s42)
    go_wp2_with fail
    refine (Pa.rSame_any v49 _ _ _ _ _ _ _ _ _ _ _ _ (ints_on J17 (later j34 (later j39 (later j41 (later j46 j50))))) (ints_on J19 (later j41 (later j46 j50))) true (same_canR rs)).mono ?_
    rintro e' v53 ⟨rfl, j54⟩
    clear q51_0 q51_1 q51_2 q51_3 q51_4 q51_5 q52_0 q52_1 q52_2 q52_3 q52_4 q52_5
    try clear hw
    obtain ⟨⟨q55_0, q55_1, q55_2⟩, q55_3, q55_4, q55_5⟩ := boxD (box_later D5 (later j4 (later j6 (later j11 (later j13 (later j18 (later j20 (later j25 (later j27 (later j32 (later j34 (later j39 (later j41 (later j46 (later j50 j54)))))))))))))) lg5)
    obtain ⟨⟨q56_0, q56_1, q56_2⟩, q56_3, q56_4, q56_5⟩ := boxD (box_later D1 (later hB (later j4 (later j6 (later j11 (later j13 (later j18 (later j20 (later j25 (later j27 (later j32 (later j34 (later j39 (later j41 (later j46 (later j50 j54))))))))))))))) S1)
    go_wp2_with fail
    refine (Pa.rSame_any v53 _ _ _ _ _ _ _ _ _ _ _ _ (ints_on t1 (later j4 (later j6 (later j11 (later j13 (later j18 (later j20 (later j25 (later j27 (later j32 (later j34 (later j39 (later j41 (later j46 (later j50 j54))))))))))))))) (ints_on h1 (later hB (later j4 (later j6 (later j11 (later j13 (later j18 (later j20 (later j25 (later j27 (later j32 (later j34 (later j39 (later j41 (later j46 (later j50 j54)))))))))))))))) true (Pa.Dy.same_refl _)).mono ?_
    rintro e' v57 ⟨rfl, j58⟩
    clear q55_0 q55_1 q55_2 q55_3 q55_4 q55_5 q56_0 q56_1 q56_2 q56_3 q56_4 q56_5
    try clear hw
    obtain ⟨⟨q59_0, q59_1, q59_2⟩, q59_3, q59_4, q59_5⟩ := boxD (box_later D6 (later j4 (later j6 (later j11 (later j13 (later j18 (later j20 (later j25 (later j27 (later j32 (later j34 (later j39 (later j41 (later j46 (later j50 (later j54 j58))))))))))))))) lg6)
    obtain ⟨⟨q60_0, q60_1, q60_2⟩, q60_3, q60_4, q60_5⟩ := boxD (box_later D2 (later hB (later j4 (later j6 (later j11 (later j13 (later j18 (later j20 (later j25 (later j27 (later j32 (later j34 (later j39 (later j41 (later j46 (later j50 (later j54 j58)))))))))))))))) S2)
    go_wp2_with fail
    refine (Pa.rSame_any v57 _ _ _ _ _ _ _ _ _ _ _ _ (ints_on t2 (later j4 (later j6 (later j11 (later j13 (later j18 (later j20 (later j25 (later j27 (later j32 (later j34 (later j39 (later j41 (later j46 (later j50 (later j54 j58)))))))))))))))) (ints_on h2 (later hB (later j4 (later j6 (later j11 (later j13 (later j18 (later j20 (later j25 (later j27 (later j32 (later j34 (later j39 (later j41 (later j46 (later j50 (later j54 j58))))))))))))))))) true (Pa.Dy.same_refl _)).mono ?_
    rintro e' v61 ⟨rfl, j62⟩
    clear q59_0 q59_1 q59_2 q59_3 q59_4 q59_5 q60_0 q60_1 q60_2 q60_3 q60_4 q60_5
    try clear hw
    go_wp2
    go_ret
    exact ⟨rfl, (later b0_ (later hB (later j4 (later j6 (later j11 (later j13 (later j18 (later j20 (later j25 (later j27 (later j32 (later j34 (later j39 (later j41 (later j46 (later j50 (later j54 (later j58 j62))))))))))))))))))⟩
end Dy
end Go.Proofs.Ytbbnbgllgomolaa
