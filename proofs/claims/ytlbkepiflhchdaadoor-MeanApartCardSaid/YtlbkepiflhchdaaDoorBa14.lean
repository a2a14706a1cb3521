/- The reference's Cmp: a walk (printed by a program of mine). -/
/- The reference's Cmp, of dyads that stand for numbers. -/
/- headcountref16.apart: a walk (printed by a program of mine). -/
import Derived.Test.YtlbkepiflhchdaaDoorBa09
import Derived.Test.YtlbkepiflhchdaaDoorBa11
import Derived.Test.YtlbkepiflhchdaaDoorBa13
namespace Go.Proofs.YtlbkepiflhchdaaDoor
open Go.RowKit
namespace Dy
open Dp
theorem canon_zero_iff {v : Nat} : canon 2 v = [] ↔ v = 0 := by
  constructor
  · intro h
    exact canon_nil (by decide) h
  · intro h
    subst h
    rfl
set_option maxHeartbeats 12800000 in
set_option maxRecDepth 100000 in
theorem rCmp_dn (w : World) (a b : Dn) (ha : a.May) (hb : b.May) (A1 A2 : Option Addr) (n1 c1 n2 c2 : Nat) (h1 : Ints w 0 w.heap.size .u32 A1 n1 (canon 4294967296 a.m)) (h2 : Ints w 0 w.heap.size .u32 A2 n2 (canon 4294967296 b.m)) (z : Int) (h : cmpD a b = z) :
    Calls Tryd.prog 107 #[.agg #[.bool a.neg, .slice A1 n1 c1, .int .i64 a.e], .agg #[.bool b.neg, .slice A2 n2 c2, .int .i64 b.e]] w fun e w' => e = .returned (.tuple #[.int .i64 z, .int .i64 0]) ∧ Below w.heap.size w w' := by
  have hn1 := ints_may h1 ha
  have hn2 := ints_may h2 hb
  have ea : a.e ≤ 1024 := ha.2.1
  have eb : b.e ≤ 1024 := hb.2.1
  have ma := Lib.hid (dn_may ha)
  have mb := Lib.hid (dn_may hb)
  obtain ⟨KX, hK⟩ : ∃ KX, max a.e b.e = KX := ⟨_, rfl⟩
  have kl : KX ≤ 1024 := by omega
  have ka : a.e ≤ KX := by omega
  have kb : b.e ≤ KX := by omega
  obtain ⟨t, ht⟩ : ∃ t, (if n2 = 0 then b.neg else !b.neg) = t := ⟨_, rfl⟩
  have ht2 : b.m ≠ 0 → t = !b.neg := fun hm => by
    have : n2 ≠ 0 := fun e => by
      have hl := h2.len
      rw [e] at hl
      have h0 : canon 4294967296 b.m = [] := List.eq_nil_of_length_eq_zero hl
      exact hm (canon_nil (by decide) h0)
    rw [← ht, if_neg this]
  obtain ⟨x, hx⟩ : ∃ x, 2 ^ (KX - a.e) * a.m = x := ⟨_, rfl⟩
  obtain ⟨y, hy⟩ : ∃ y, 2 ^ (KX - b.e) * b.m = y := ⟨_, rfl⟩
  obtain ⟨s, v, hp⟩ : ∃ s v, plusS a.neg x t y = (s, v) := ⟨_, _, rfl⟩
  have hz : z = if v = 0 then 0 else if s then -1 else 1 := by
    rw [← h]
    refine cmp_by a b t ht2 s v ?_
    rw [hK, Nat.mul_comm a.m, Nat.mul_comm b.m, hx, hy]
    exact hp
  have HX := Lib.hid hx
  have HY := Lib.hid hy
  have HP := Lib.hid hp
  have HT := Lib.hid ht
  have HZ := Lib.hid hz
  clear hx hy hp ht ht2 hz h ha hb
  generalize hw : (w.alloc (.cells #[.bool a.neg, .slice A1 n1 c1, .int .i64 a.e] 24)).alloc (.cells #[.bool b.neg, .slice A2 n2 c2, .int .i64 b.e] 24) = w1 at *
  obtain ⟨D1, D2, b1, l1, l2⟩ := boxes2 w _ _ hw
  replace h1 := h1.below b1 (Nat.le_refl _)
  replace h2 := h2.below b1 (Nat.le_refl _)
  obtain ⟨⟨pD1, qD1, rD1⟩, uD1, vD1, xD1⟩ := boxD D1
  go_enter Tryd.func107, Tryd.ntmps107
  go_wp2_with fail
  try clear hw
  refine (rMay_ok w1 0 w.heap.size a.neg A1 n1 c1 _ a.e h1 (by omega) ma.out).mono ?_
  rintro e' w2 ⟨rfl, hB⟩
  clear pD1 qD1 rD1 uD1 vD1 xD1
  have lw2 : w1.heap.size ≤ w2.heap.size := hB.size
  replace h1 := h1.below hB (by omega)
  replace h2 := h2.below hB (by omega)
  replace D1 := (hB.block _ (by omega)).trans D1
  replace D2 := (hB.block _ (by omega)).trans D2
  have c3 := b1.trans (hB.mono (by omega))
  clear hB
  obtain ⟨⟨pD2, qD2, rD2⟩, uD2, vD2, xD2⟩ := boxD D2
  go_wp2_with fail
  refine (rMay_ok w2 0 w.heap.size b.neg A2 n2 c2 _ b.e h2 (by omega) mb.out).mono ?_
  rintro e' w4 ⟨rfl, hB⟩
  clear pD2 qD2 rD2 uD2 vD2 xD2
  have lw4 : w2.heap.size ≤ w4.heap.size := hB.size
  replace h1 := h1.below hB (by omega)
  replace h2 := h2.below hB (by omega)
  replace D1 := (hB.block _ (by omega)).trans D1
  replace D2 := (hB.block _ (by omega)).trans D2
  have c5 := c3.trans (hB.mono (by omega))
  clear hB
  obtain ⟨⟨pD1, qD1, rD1⟩, uD1, vD1, xD1⟩ := boxD D1
  obtain ⟨⟨pD2, qD2, rD2⟩, uD2, vD2, xD2⟩ := boxD D2
  have hkk := Lib.hid hK
  clear hK
  go_upto_region 3 with fail
  go_cut [6] from 16 to 20 (fun s6 wx => s6 = .int .i64 (KX : Int) ∧ w4 = wx)
  case first =>
    go_wp2_with fail
    all_goals
      go_meet
      exact ⟨by have := hkk.out; congr 1; omega, rfl⟩
  case rest =>
    obtain ⟨rfl, rfl⟩ := hcut
    clear pD1 qD1 rD1 uD1 vD1 xD1 pD2 qD2 rD2 uD2 vD2 xD2
    go_wp2_with fail
    have kD : Keeps w4 w4.drew := fun _ _ => rfl
    have hB : Below w4.heap.size w4 w4.drew := (Below.refl _ _).drew
    refine region_E (Keeps w4) [9] (m := 10) (L := #[false, false, false, false, false, false, false, false, false, false]) (by kernel_rfl) (by rfl) (by rfl) ?_
    generalize w4.drew = w6 at *
    have lw6 : w4.heap.size ≤ w6.heap.size := hB.size
    have sv_D1 := D1
    have sv_D2 := D2
    replace h1 := h1.below hB (by omega)
    replace h2 := h2.below hB (by omega)
    replace D1 := (hB.block _ (by omega)).trans D1
    replace D2 := (hB.block _ (by omega)).trans D2
    have hB0 := hB
    clear hB
    refine pureE (i := 1) (L := #[false, true, false, false, false, false, false, false, false, false]) (v := ?_) rfl (by rfl) (by kernel_rfl) (by kernel_rfl) (by kernel_rfl) (fun _ _ _ h => h) (by rfl) ?hy1 ?rest1
    case hy1 => intro w; go_simp; (try with_reducible rfl)
    try simp only [Act.put, List.setIfInBounds_toArray, List.set_cons_zero, List.set_cons_succ]
    refine pureE (i := 5) (L := #[false, true, false, false, false, true, false, false, false, false]) (v := ?_) rfl (by rfl) (by kernel_rfl) (by kernel_rfl) (by kernel_rfl) (fun _ _ _ h => h) (by rfl) ?hy2 ?rest2
    case hy2 => intro w; go_simp; (try with_reducible rfl)
    try simp only [Act.put, List.setIfInBounds_toArray, List.set_cons_zero, List.set_cons_succ]
    refine readE (i := 0) (L := #[true, true, false, false, false, true, false, false, false, false]) (v := .agg #[.bool a.neg, .slice A1 n1 c1, .int .i64 a.e]) rfl (by rfl) (by kernel_rfl) (by kernel_rfl) (by kernel_rfl) (fun _ _ _ h => h) (by assumption) (by rfl) ?hy0_1 ?rest0_1
    case hy0_1 =>
      intro w' h1
      obtain ⟨⟨k1, k2, k3⟩, _⟩ := boxD ((h1 _ (by omega)).trans sv_D1)
      go_simp
    try simp only [Act.put, List.setIfInBounds_toArray, List.set_cons_zero, List.set_cons_succ]
    refine readE (i := 3) (L := #[true, true, false, true, false, true, false, false, false, false]) (v := .agg #[.bool b.neg, .slice A2 n2 c2, .int .i64 b.e]) rfl (by rfl) (by kernel_rfl) (by kernel_rfl) (by kernel_rfl) (fun _ _ _ h => h) (by assumption) (by rfl) ?hy3_2 ?rest3_2
    case hy3_2 =>
      intro w' h1
      obtain ⟨⟨k1, k2, k3⟩, _⟩ := boxD ((h1 _ (by omega)).trans sv_D2)
      go_simp
    try simp only [Act.put, List.setIfInBounds_toArray, List.set_cons_zero, List.set_cons_succ]
    refine stepK2 (i := 2) (j := 8) (Li := #[true, true, true, true, false, true, false, false, false, false]) (Lj := #[true, true, false, true, false, true, false, false, true, false]) rfl rfl (by rfl) (by rfl) (by kernel_rfl) (by rfl) (by rfl) (fun K hK => ?o2_3) (fun K hK => ?o8_3)
    case o2_3 =>
      
      go_simp
      go_at_call 69
      refine (In_any w6 a.neg a.m a.e A1 n1 c1 (h1.more (Nat.zero_le _) (by omega)) hn1 KX ka (by omega) x HX.out KX rfl).mono ?_
      rintro e' w7 ⟨P1, i1, d1, rfl, lc1, ln1, hB, IN1⟩
      have lw7 : w6.heap.size ≤ w7.heap.size := hB.size
      replace h1 := h1.below hB (by omega)
      replace h2 := h2.below hB (by omega)
      replace D1 := (hB.block _ (by omega)).trans D1
      replace D2 := (hB.block _ (by omega)).trans D2
      have c8 := hB0.trans (hB.mono (by omega))
      clear hB
      refine hK _ _ ⟨fun _ _ p hp => c8.block p hp, ?_⟩
      clear hK K
      try simp only [Act.put, List.setIfInBounds_toArray, List.set_cons_zero, List.set_cons_succ]
      refine stepK2 (i := 4) (j := 8) (Li := #[true, true, true, true, true, true, false, false, false, false]) (Lj := #[true, true, true, true, false, true, false, false, true, false]) rfl rfl (by rfl) (by rfl) (by kernel_rfl) (by rfl) (by rfl) (fun K hK => ?o4_4) (fun K hK => ?o8_4)
      case o4_4 =>
        
        go_simp
        go_at_call 71
        refine (rMinus_any w7 b.neg A2 n2 c2 b.e t HT.out).mono ?_
        rintro e' w9 ⟨rfl, hB⟩
        have lw9 : w7.heap.size ≤ w9.heap.size := hB.size
        replace h1 := h1.below hB (by omega)
        replace h2 := h2.below hB (by omega)
        replace IN1 := IN1.below hB (by omega)
        replace D1 := (hB.block _ (by omega)).trans D1
        replace D2 := (hB.block _ (by omega)).trans D2
        have c10 := c8.trans (hB.mono (by omega))
        clear hB
        refine hK _ _ ⟨fun _ _ p hp => c10.block p hp, ?_⟩
        clear hK K
        try simp only [Act.put, List.setIfInBounds_toArray, List.set_cons_zero, List.set_cons_succ]
        refine stepK2 (i := 6) (j := 8) (Li := #[true, true, true, true, true, true, true, false, false, false]) (Lj := #[true, true, true, true, true, true, false, false, true, false]) rfl rfl (by rfl) (by rfl) (by kernel_rfl) (by rfl) (by rfl) (fun K hK => ?o6_5) (fun K hK => ?o8_5)
        case o6_5 =>
          
          go_simp
          go_at_call 69
          refine (In_any w9 t b.m b.e A2 n2 c2 (h2.more (Nat.zero_le _) (by omega)) hn2 KX kb (by omega) y HY.out KX rfl).mono ?_
          rintro e' w11 ⟨P2, i2, d2, rfl, lc2, ln2, hB, IN2⟩
          have lw11 : w9.heap.size ≤ w11.heap.size := hB.size
          replace h1 := h1.below hB (by omega)
          replace h2 := h2.below hB (by omega)
          replace IN1 := IN1.below hB (by omega)
          replace D1 := (hB.block _ (by omega)).trans D1
          replace D2 := (hB.block _ (by omega)).trans D2
          have c12 := c10.trans (hB.mono (by omega))
          clear hB
          refine hK _ _ ⟨fun _ _ p hp => c12.block p hp, ?_⟩
          clear hK K
          try simp only [Act.put, List.setIfInBounds_toArray, List.set_cons_zero, List.set_cons_succ]
          refine stepK2 (i := 7) (j := 8) (Li := #[true, true, true, true, true, true, true, true, false, false]) (Lj := #[true, true, true, true, true, true, true, false, true, false]) rfl rfl (by rfl) (by rfl) (by kernel_rfl) (by rfl) (by rfl) (fun K hK => ?o7_6) (fun K hK => ?o8_6)
          case o7_6 =>
            
            go_simp
            go_at_call 68
            refine (rPlus_any w11 a.neg t x y P1 i1 d1 P2 i2 d2 (IN1.more (Nat.zero_le _) (by omega)) (IN2.more (Nat.zero_le _) (by omega)) ln1 ln2 s v HP.out).mono ?_
            rintro e' w13 ⟨P3, i3, d3, rfl, lc3, hB, IN3⟩
            have lw13 : w11.heap.size ≤ w13.heap.size := hB.size
            replace h1 := h1.below hB (by omega)
            replace h2 := h2.below hB (by omega)
            replace IN1 := IN1.below hB (by omega)
            replace IN2 := IN2.below hB (by omega)
            replace D1 := (hB.block _ (by omega)).trans D1
            replace D2 := (hB.block _ (by omega)).trans D2
            have c14 := c12.trans (hB.mono (by omega))
            clear hB
            refine hK _ _ ⟨fun _ _ p hp => c14.block p hp, ?_⟩
            clear hK K
            try simp only [Act.put, List.setIfInBounds_toArray, List.set_cons_zero, List.set_cons_succ]
            refine stepK (i := 8) (L := #[true, true, true, true, true, true, true, true, true, false]) rfl (by rfl) (by kernel_rfl) (by rfl) (fun K hK => ?_)
            go_simp
            have hB := (Below.refl w13.heap.size w13).alloc (Nat.le_refl _) (.cells #[.bool false, .slice none 0 0] 87)
            have D4 := heap_alloc_last w13 (.cells #[.bool false, .slice none 0 0] 87)
            have mw15 : w13.heap.size < (w13.alloc (.cells #[.bool false, .slice none 0 0] 87)).heap.size := by simp
            generalize hw : w13.alloc (.cells #[.bool false, .slice none 0 0] 87) = w15 at *
            have lw15 : w13.heap.size ≤ w15.heap.size := hB.size
            replace h1 := h1.below hB (by omega)
            replace h2 := h2.below hB (by omega)
            replace IN1 := IN1.below hB (by omega)
            replace IN2 := IN2.below hB (by omega)
            replace IN3 := IN3.below hB (by omega)
            replace D1 := (hB.block _ (by omega)).trans D1
            replace D2 := (hB.block _ (by omega)).trans D2
            have c16 := c14.trans (hB.mono (by omega))
            clear hB
            try clear hw
            refine hK _ _ ⟨fun _ _ p hp => c16.block p hp, ?_⟩
            clear hK K
            try simp only [Act.put, List.setIfInBounds_toArray, List.set_cons_zero, List.set_cons_succ]
            refine stepK (i := 9) (L := #[true, true, true, true, true, true, true, true, true, true]) rfl (by rfl) (by kernel_rfl) (by rfl) (fun K hK => ?_)
            go_simp
            have p1 := cell_of_row _ _ 0 _ _ _ D4
            have p2 := cell_of_row _ _ 1 _ _ _ D4
            have p3 := frozen_of_row _ _ 0 _ _ D4
            have p4 := frozen_of_row _ _ 1 _ _ D4
            go_simp
            refine hK _ _ ⟨fun h => absurd h (by decide), ?_⟩
            clear hK K
            try simp only [Act.put, List.setIfInBounds_toArray, List.set_cons_zero, List.set_cons_succ]
            refine doneE (by kernel_rfl) ?_ _
            clear p1 p2 p3 p4
            have q4 : ((w15.setCell ⟨w13.heap.size, 0, none⟩ (.bool s)).setCell ⟨w13.heap.size, 1, none⟩ (.slice P3 i3 d3)).heap[w13.heap.size]? = some (.cells #[.bool s, .slice P3 i3 d3] 87 (0, 0)) := by simp [World.setCell, Array.getElem?_modify, D4]
            have d7 : Below w4.heap.size w4 ((w15.setCell ⟨w13.heap.size, 0, none⟩ (.bool s)).setCell ⟨w13.heap.size, 1, none⟩ (.slice P3 i3 d3)) := (c16.setCell (show w4.heap.size ≤ w13.heap.size by omega) _).setCell (show w4.heap.size ≤ w13.heap.size by omega) _
            have J4 := ints_far (ints_far IN3 (p := ⟨w13.heap.size, 0, none⟩) (by simp only; omega) (.bool s)) (p := ⟨w13.heap.size, 1, none⟩) (by simp only; omega) (.slice P3 i3 d3)
            have s7 : w15.heap.size ≤ ((w15.setCell ⟨w13.heap.size, 0, none⟩ (.bool s)).setCell ⟨w13.heap.size, 1, none⟩ (.slice P3 i3 d3)).heap.size := by simp [World.setCell]
            generalize hw : (w15.setCell ⟨w13.heap.size, 0, none⟩ (.bool s)).setCell ⟨w13.heap.size, 1, none⟩ (.slice P3 i3 d3) = w17 at *
            try clear hw
            have e8 := c5.trans (d7.mono (by omega))
            have k1 := cell_of_row w17 _ 0 _ _ _ q4
            have k2 := cell_of_row w17 _ 1 _ _ _ q4
            go_wp2_with fail
            refine (Cut_any w17 _ _ P3 i3 d3 _ J4 dig2 lc3).mono ?_
            rintro e' w' ⟨⟨m, rfl, hm, hI⟩, rfl⟩
            have hml : Hid (m = 0 ↔ v = 0) := Lib.hid (by
              have hl := hI.len
              rw [num2] at hl
              constructor
              · intro e
                rw [e] at hl
                exact canon_zero_iff.1 (List.eq_nil_of_length_eq_zero hl)
              · intro e
                rw [canon_zero_iff.2 e] at hl
                exact hl.symm)
            by_cases h0 : m = 0
            · have hz : z = 0 := by rw [HZ.out, if_pos (hml.out.1 h0)]
              subst hz h0
              go_wp2
              go_ret2
              exact ⟨rfl, e8⟩
            · have hv : ¬ v = 0 := fun e => h0 (hml.out.2 e)
              cases s
              · have hz : z = 1 := by rw [HZ.out, if_neg hv]; rfl
                subst hz
                go_wp2
                go_ret2
                exact ⟨rfl, e8⟩
              · have hz : z = -1 := by rw [HZ.out, if_neg hv]; rfl
                subst hz
                go_wp2
                go_ret2
                exact ⟨rfl, e8⟩
          case o8_6 =>
            
            go_simp
            have hB := (Below.refl w11.heap.size w11).alloc (Nat.le_refl _) (.cells #[.bool false, .slice none 0 0] 87)
            have D4 := heap_alloc_last w11 (.cells #[.bool false, .slice none 0 0] 87)
            have mw18 : w11.heap.size < (w11.alloc (.cells #[.bool false, .slice none 0 0] 87)).heap.size := by simp
            generalize hw : w11.alloc (.cells #[.bool false, .slice none 0 0] 87) = w18 at *
            have lw18 : w11.heap.size ≤ w18.heap.size := hB.size
            replace h1 := h1.below hB (by omega)
            replace h2 := h2.below hB (by omega)
            replace IN1 := IN1.below hB (by omega)
            replace IN2 := IN2.below hB (by omega)
            replace D1 := (hB.block _ (by omega)).trans D1
            replace D2 := (hB.block _ (by omega)).trans D2
            have c19 := c12.trans (hB.mono (by omega))
            clear hB
            try clear hw
            refine hK _ _ ⟨fun _ _ p hp => c19.block p hp, ?_⟩
            clear hK K
            try simp only [Act.put, List.setIfInBounds_toArray, List.set_cons_zero, List.set_cons_succ]
            refine stepK (i := 7) (L := #[true, true, true, true, true, true, true, true, true, false]) rfl (by rfl) (by kernel_rfl) (by rfl) (fun K hK => ?_)
            go_simp
            go_at_call 68
            refine (rPlus_any w18 a.neg t x y P1 i1 d1 P2 i2 d2 (IN1.more (Nat.zero_le _) (by omega)) (IN2.more (Nat.zero_le _) (by omega)) ln1 ln2 s v HP.out).mono ?_
            rintro e' w20 ⟨P3, i3, d3, rfl, lc3, hB, IN3⟩
            have lw20 : w18.heap.size ≤ w20.heap.size := hB.size
            replace h1 := h1.below hB (by omega)
            replace h2 := h2.below hB (by omega)
            replace IN1 := IN1.below hB (by omega)
            replace IN2 := IN2.below hB (by omega)
            replace D1 := (hB.block _ (by omega)).trans D1
            replace D2 := (hB.block _ (by omega)).trans D2
            replace D4 := (hB.block _ (by omega)).trans D4
            have c21 := c19.trans (hB.mono (by omega))
            clear hB
            refine hK _ _ ⟨fun _ _ p hp => c21.block p hp, ?_⟩
            clear hK K
            try simp only [Act.put, List.setIfInBounds_toArray, List.set_cons_zero, List.set_cons_succ]
            refine stepK (i := 9) (L := #[true, true, true, true, true, true, true, true, true, true]) rfl (by rfl) (by kernel_rfl) (by rfl) (fun K hK => ?_)
            go_simp
            have p1 := cell_of_row _ _ 0 _ _ _ D4
            have p2 := cell_of_row _ _ 1 _ _ _ D4
            have p3 := frozen_of_row _ _ 0 _ _ D4
            have p4 := frozen_of_row _ _ 1 _ _ D4
            go_simp
            refine hK _ _ ⟨fun h => absurd h (by decide), ?_⟩
            clear hK K
            try simp only [Act.put, List.setIfInBounds_toArray, List.set_cons_zero, List.set_cons_succ]
            refine doneE (by kernel_rfl) ?_ _
            clear p1 p2 p3 p4
            have q4 : ((w20.setCell ⟨w11.heap.size, 0, none⟩ (.bool s)).setCell ⟨w11.heap.size, 1, none⟩ (.slice P3 i3 d3)).heap[w11.heap.size]? = some (.cells #[.bool s, .slice P3 i3 d3] 87 (0, 0)) := by simp [World.setCell, Array.getElem?_modify, D4]
            have d7 : Below w4.heap.size w4 ((w20.setCell ⟨w11.heap.size, 0, none⟩ (.bool s)).setCell ⟨w11.heap.size, 1, none⟩ (.slice P3 i3 d3)) := (c21.setCell (show w4.heap.size ≤ w11.heap.size by omega) _).setCell (show w4.heap.size ≤ w11.heap.size by omega) _
            have J4 := ints_far (ints_far IN3 (p := ⟨w11.heap.size, 0, none⟩) (by simp only; omega) (.bool s)) (p := ⟨w11.heap.size, 1, none⟩) (by simp only; omega) (.slice P3 i3 d3)
            have s7 : w20.heap.size ≤ ((w20.setCell ⟨w11.heap.size, 0, none⟩ (.bool s)).setCell ⟨w11.heap.size, 1, none⟩ (.slice P3 i3 d3)).heap.size := by simp [World.setCell]
            generalize hw : (w20.setCell ⟨w11.heap.size, 0, none⟩ (.bool s)).setCell ⟨w11.heap.size, 1, none⟩ (.slice P3 i3 d3) = w22 at *
            try clear hw
            have e8 := c5.trans (d7.mono (by omega))
            have k1 := cell_of_row w22 _ 0 _ _ _ q4
            have k2 := cell_of_row w22 _ 1 _ _ _ q4
            go_wp2_with fail
            refine (Cut_any w22 _ _ P3 i3 d3 _ J4 dig2 lc3).mono ?_
            rintro e' w' ⟨⟨m, rfl, hm, hI⟩, rfl⟩
            have hml : Hid (m = 0 ↔ v = 0) := Lib.hid (by
              have hl := hI.len
              rw [num2] at hl
              constructor
              · intro e
                rw [e] at hl
                exact canon_zero_iff.1 (List.eq_nil_of_length_eq_zero hl)
              · intro e
                rw [canon_zero_iff.2 e] at hl
                exact hl.symm)
            by_cases h0 : m = 0
            · have hz : z = 0 := by rw [HZ.out, if_pos (hml.out.1 h0)]
              subst hz h0
              go_wp2
              go_ret2
              exact ⟨rfl, e8⟩
            · have hv : ¬ v = 0 := fun e => h0 (hml.out.2 e)
              cases s
              · have hz : z = 1 := by rw [HZ.out, if_neg hv]; rfl
                subst hz
                go_wp2
                go_ret2
                exact ⟨rfl, e8⟩
              · have hz : z = -1 := by rw [HZ.out, if_neg hv]; rfl
                subst hz
                go_wp2
                go_ret2
                exact ⟨rfl, e8⟩
        case o8_5 =>
          
          go_simp
          have hB := (Below.refl w9.heap.size w9).alloc (Nat.le_refl _) (.cells #[.bool false, .slice none 0 0] 87)
          have D4 := heap_alloc_last w9 (.cells #[.bool false, .slice none 0 0] 87)
          have mw23 : w9.heap.size < (w9.alloc (.cells #[.bool false, .slice none 0 0] 87)).heap.size := by simp
          generalize hw : w9.alloc (.cells #[.bool false, .slice none 0 0] 87) = w23 at *
          have lw23 : w9.heap.size ≤ w23.heap.size := hB.size
          replace h1 := h1.below hB (by omega)
          replace h2 := h2.below hB (by omega)
          replace IN1 := IN1.below hB (by omega)
          replace D1 := (hB.block _ (by omega)).trans D1
          replace D2 := (hB.block _ (by omega)).trans D2
          have c24 := c10.trans (hB.mono (by omega))
          clear hB
          try clear hw
          refine hK _ _ ⟨fun _ _ p hp => c24.block p hp, ?_⟩
          clear hK K
          try simp only [Act.put, List.setIfInBounds_toArray, List.set_cons_zero, List.set_cons_succ]
          refine stepK (i := 6) (L := #[true, true, true, true, true, true, true, false, true, false]) rfl (by rfl) (by kernel_rfl) (by rfl) (fun K hK => ?_)
          go_simp
          go_at_call 69
          refine (In_any w23 t b.m b.e A2 n2 c2 (h2.more (Nat.zero_le _) (by omega)) hn2 KX kb (by omega) y HY.out KX rfl).mono ?_
          rintro e' w25 ⟨P2, i2, d2, rfl, lc2, ln2, hB, IN2⟩
          have lw25 : w23.heap.size ≤ w25.heap.size := hB.size
          replace h1 := h1.below hB (by omega)
          replace h2 := h2.below hB (by omega)
          replace IN1 := IN1.below hB (by omega)
          replace D1 := (hB.block _ (by omega)).trans D1
          replace D2 := (hB.block _ (by omega)).trans D2
          replace D4 := (hB.block _ (by omega)).trans D4
          have c26 := c24.trans (hB.mono (by omega))
          clear hB
          refine hK _ _ ⟨fun _ _ p hp => c26.block p hp, ?_⟩
          clear hK K
          try simp only [Act.put, List.setIfInBounds_toArray, List.set_cons_zero, List.set_cons_succ]
          refine stepK (i := 7) (L := #[true, true, true, true, true, true, true, true, true, false]) rfl (by rfl) (by kernel_rfl) (by rfl) (fun K hK => ?_)
          go_simp
          go_at_call 68
          refine (rPlus_any w25 a.neg t x y P1 i1 d1 P2 i2 d2 (IN1.more (Nat.zero_le _) (by omega)) (IN2.more (Nat.zero_le _) (by omega)) ln1 ln2 s v HP.out).mono ?_
          rintro e' w27 ⟨P3, i3, d3, rfl, lc3, hB, IN3⟩
          have lw27 : w25.heap.size ≤ w27.heap.size := hB.size
          replace h1 := h1.below hB (by omega)
          replace h2 := h2.below hB (by omega)
          replace IN1 := IN1.below hB (by omega)
          replace IN2 := IN2.below hB (by omega)
          replace D1 := (hB.block _ (by omega)).trans D1
          replace D2 := (hB.block _ (by omega)).trans D2
          replace D4 := (hB.block _ (by omega)).trans D4
          have c28 := c26.trans (hB.mono (by omega))
          clear hB
          refine hK _ _ ⟨fun _ _ p hp => c28.block p hp, ?_⟩
          clear hK K
          try simp only [Act.put, List.setIfInBounds_toArray, List.set_cons_zero, List.set_cons_succ]
          refine stepK (i := 9) (L := #[true, true, true, true, true, true, true, true, true, true]) rfl (by rfl) (by kernel_rfl) (by rfl) (fun K hK => ?_)
          go_simp
          have p1 := cell_of_row _ _ 0 _ _ _ D4
          have p2 := cell_of_row _ _ 1 _ _ _ D4
          have p3 := frozen_of_row _ _ 0 _ _ D4
          have p4 := frozen_of_row _ _ 1 _ _ D4
          go_simp
          refine hK _ _ ⟨fun h => absurd h (by decide), ?_⟩
          clear hK K
          try simp only [Act.put, List.setIfInBounds_toArray, List.set_cons_zero, List.set_cons_succ]
          refine doneE (by kernel_rfl) ?_ _
          clear p1 p2 p3 p4
          have q4 : ((w27.setCell ⟨w9.heap.size, 0, none⟩ (.bool s)).setCell ⟨w9.heap.size, 1, none⟩ (.slice P3 i3 d3)).heap[w9.heap.size]? = some (.cells #[.bool s, .slice P3 i3 d3] 87 (0, 0)) := by simp [World.setCell, Array.getElem?_modify, D4]
          have d7 : Below w4.heap.size w4 ((w27.setCell ⟨w9.heap.size, 0, none⟩ (.bool s)).setCell ⟨w9.heap.size, 1, none⟩ (.slice P3 i3 d3)) := (c28.setCell (show w4.heap.size ≤ w9.heap.size by omega) _).setCell (show w4.heap.size ≤ w9.heap.size by omega) _
          have J4 := ints_far (ints_far IN3 (p := ⟨w9.heap.size, 0, none⟩) (by simp only; omega) (.bool s)) (p := ⟨w9.heap.size, 1, none⟩) (by simp only; omega) (.slice P3 i3 d3)
          have s7 : w27.heap.size ≤ ((w27.setCell ⟨w9.heap.size, 0, none⟩ (.bool s)).setCell ⟨w9.heap.size, 1, none⟩ (.slice P3 i3 d3)).heap.size := by simp [World.setCell]
          generalize hw : (w27.setCell ⟨w9.heap.size, 0, none⟩ (.bool s)).setCell ⟨w9.heap.size, 1, none⟩ (.slice P3 i3 d3) = w29 at *
          try clear hw
          have e8 := c5.trans (d7.mono (by omega))
          have k1 := cell_of_row w29 _ 0 _ _ _ q4
          have k2 := cell_of_row w29 _ 1 _ _ _ q4
          go_wp2_with fail
          refine (Cut_any w29 _ _ P3 i3 d3 _ J4 dig2 lc3).mono ?_
          rintro e' w' ⟨⟨m, rfl, hm, hI⟩, rfl⟩
          have hml : Hid (m = 0 ↔ v = 0) := Lib.hid (by
            have hl := hI.len
            rw [num2] at hl
            constructor
            · intro e
              rw [e] at hl
              exact canon_zero_iff.1 (List.eq_nil_of_length_eq_zero hl)
            · intro e
              rw [canon_zero_iff.2 e] at hl
              exact hl.symm)
          by_cases h0 : m = 0
          · have hz : z = 0 := by rw [HZ.out, if_pos (hml.out.1 h0)]
            subst hz h0
            go_wp2
            go_ret2
            exact ⟨rfl, e8⟩
          · have hv : ¬ v = 0 := fun e => h0 (hml.out.2 e)
            cases s
            · have hz : z = 1 := by rw [HZ.out, if_neg hv]; rfl
              subst hz
              go_wp2
              go_ret2
              exact ⟨rfl, e8⟩
            · have hz : z = -1 := by rw [HZ.out, if_neg hv]; rfl
              subst hz
              go_wp2
              go_ret2
              exact ⟨rfl, e8⟩
      case o8_4 =>
        
        go_simp
        have hB := (Below.refl w7.heap.size w7).alloc (Nat.le_refl _) (.cells #[.bool false, .slice none 0 0] 87)
        have D4 := heap_alloc_last w7 (.cells #[.bool false, .slice none 0 0] 87)
        have mw30 : w7.heap.size < (w7.alloc (.cells #[.bool false, .slice none 0 0] 87)).heap.size := by simp
        generalize hw : w7.alloc (.cells #[.bool false, .slice none 0 0] 87) = w30 at *
        have lw30 : w7.heap.size ≤ w30.heap.size := hB.size
        replace h1 := h1.below hB (by omega)
        replace h2 := h2.below hB (by omega)
        replace IN1 := IN1.below hB (by omega)
        replace D1 := (hB.block _ (by omega)).trans D1
        replace D2 := (hB.block _ (by omega)).trans D2
        have c31 := c8.trans (hB.mono (by omega))
        clear hB
        try clear hw
        refine hK _ _ ⟨fun _ _ p hp => c31.block p hp, ?_⟩
        clear hK K
        try simp only [Act.put, List.setIfInBounds_toArray, List.set_cons_zero, List.set_cons_succ]
        refine stepK (i := 4) (L := #[true, true, true, true, true, true, false, false, true, false]) rfl (by rfl) (by kernel_rfl) (by rfl) (fun K hK => ?_)
        go_simp
        go_at_call 71
        refine (rMinus_any w30 b.neg A2 n2 c2 b.e t HT.out).mono ?_
        rintro e' w32 ⟨rfl, hB⟩
        have lw32 : w30.heap.size ≤ w32.heap.size := hB.size
        replace h1 := h1.below hB (by omega)
        replace h2 := h2.below hB (by omega)
        replace IN1 := IN1.below hB (by omega)
        replace D1 := (hB.block _ (by omega)).trans D1
        replace D2 := (hB.block _ (by omega)).trans D2
        replace D4 := (hB.block _ (by omega)).trans D4
        have c33 := c31.trans (hB.mono (by omega))
        clear hB
        refine hK _ _ ⟨fun _ _ p hp => c33.block p hp, ?_⟩
        clear hK K
        try simp only [Act.put, List.setIfInBounds_toArray, List.set_cons_zero, List.set_cons_succ]
        refine stepK (i := 6) (L := #[true, true, true, true, true, true, true, false, true, false]) rfl (by rfl) (by kernel_rfl) (by rfl) (fun K hK => ?_)
        go_simp
        go_at_call 69
        refine (In_any w32 t b.m b.e A2 n2 c2 (h2.more (Nat.zero_le _) (by omega)) hn2 KX kb (by omega) y HY.out KX rfl).mono ?_
        rintro e' w34 ⟨P2, i2, d2, rfl, lc2, ln2, hB, IN2⟩
        have lw34 : w32.heap.size ≤ w34.heap.size := hB.size
        replace h1 := h1.below hB (by omega)
        replace h2 := h2.below hB (by omega)
        replace IN1 := IN1.below hB (by omega)
        replace D1 := (hB.block _ (by omega)).trans D1
        replace D2 := (hB.block _ (by omega)).trans D2
        replace D4 := (hB.block _ (by omega)).trans D4
        have c35 := c33.trans (hB.mono (by omega))
        clear hB
        refine hK _ _ ⟨fun _ _ p hp => c35.block p hp, ?_⟩
        clear hK K
        try simp only [Act.put, List.setIfInBounds_toArray, List.set_cons_zero, List.set_cons_succ]
        refine stepK (i := 7) (L := #[true, true, true, true, true, true, true, true, true, false]) rfl (by rfl) (by kernel_rfl) (by rfl) (fun K hK => ?_)
        go_simp
        go_at_call 68
        refine (rPlus_any w34 a.neg t x y P1 i1 d1 P2 i2 d2 (IN1.more (Nat.zero_le _) (by omega)) (IN2.more (Nat.zero_le _) (by omega)) ln1 ln2 s v HP.out).mono ?_
        rintro e' w36 ⟨P3, i3, d3, rfl, lc3, hB, IN3⟩
        have lw36 : w34.heap.size ≤ w36.heap.size := hB.size
        replace h1 := h1.below hB (by omega)
        replace h2 := h2.below hB (by omega)
        replace IN1 := IN1.below hB (by omega)
        replace IN2 := IN2.below hB (by omega)
        replace D1 := (hB.block _ (by omega)).trans D1
        replace D2 := (hB.block _ (by omega)).trans D2
        replace D4 := (hB.block _ (by omega)).trans D4
        have c37 := c35.trans (hB.mono (by omega))
        clear hB
        refine hK _ _ ⟨fun _ _ p hp => c37.block p hp, ?_⟩
        clear hK K
        try simp only [Act.put, List.setIfInBounds_toArray, List.set_cons_zero, List.set_cons_succ]
        refine stepK (i := 9) (L := #[true, true, true, true, true, true, true, true, true, true]) rfl (by rfl) (by kernel_rfl) (by rfl) (fun K hK => ?_)
        go_simp
        have p1 := cell_of_row _ _ 0 _ _ _ D4
        have p2 := cell_of_row _ _ 1 _ _ _ D4
        have p3 := frozen_of_row _ _ 0 _ _ D4
        have p4 := frozen_of_row _ _ 1 _ _ D4
        go_simp
        refine hK _ _ ⟨fun h => absurd h (by decide), ?_⟩
        clear hK K
        try simp only [Act.put, List.setIfInBounds_toArray, List.set_cons_zero, List.set_cons_succ]
        refine doneE (by kernel_rfl) ?_ _
        clear p1 p2 p3 p4
        have q4 : ((w36.setCell ⟨w7.heap.size, 0, none⟩ (.bool s)).setCell ⟨w7.heap.size, 1, none⟩ (.slice P3 i3 d3)).heap[w7.heap.size]? = some (.cells #[.bool s, .slice P3 i3 d3] 87 (0, 0)) := by simp [World.setCell, Array.getElem?_modify, D4]
        have d7 : Below w4.heap.size w4 ((w36.setCell ⟨w7.heap.size, 0, none⟩ (.bool s)).setCell ⟨w7.heap.size, 1, none⟩ (.slice P3 i3 d3)) := (c37.setCell (show w4.heap.size ≤ w7.heap.size by omega) _).setCell (show w4.heap.size ≤ w7.heap.size by omega) _
        have J4 := ints_far (ints_far IN3 (p := ⟨w7.heap.size, 0, none⟩) (by simp only; omega) (.bool s)) (p := ⟨w7.heap.size, 1, none⟩) (by simp only; omega) (.slice P3 i3 d3)
        have s7 : w36.heap.size ≤ ((w36.setCell ⟨w7.heap.size, 0, none⟩ (.bool s)).setCell ⟨w7.heap.size, 1, none⟩ (.slice P3 i3 d3)).heap.size := by simp [World.setCell]
        generalize hw : (w36.setCell ⟨w7.heap.size, 0, none⟩ (.bool s)).setCell ⟨w7.heap.size, 1, none⟩ (.slice P3 i3 d3) = w38 at *
        try clear hw
        have e8 := c5.trans (d7.mono (by omega))
        have k1 := cell_of_row w38 _ 0 _ _ _ q4
        have k2 := cell_of_row w38 _ 1 _ _ _ q4
        go_wp2_with fail
        refine (Cut_any w38 _ _ P3 i3 d3 _ J4 dig2 lc3).mono ?_
        rintro e' w' ⟨⟨m, rfl, hm, hI⟩, rfl⟩
        have hml : Hid (m = 0 ↔ v = 0) := Lib.hid (by
          have hl := hI.len
          rw [num2] at hl
          constructor
          · intro e
            rw [e] at hl
            exact canon_zero_iff.1 (List.eq_nil_of_length_eq_zero hl)
          · intro e
            rw [canon_zero_iff.2 e] at hl
            exact hl.symm)
        by_cases h0 : m = 0
        · have hz : z = 0 := by rw [HZ.out, if_pos (hml.out.1 h0)]
          subst hz h0
          go_wp2
          go_ret2
          exact ⟨rfl, e8⟩
        · have hv : ¬ v = 0 := fun e => h0 (hml.out.2 e)
          cases s
          · have hz : z = 1 := by rw [HZ.out, if_neg hv]; rfl
            subst hz
            go_wp2
            go_ret2
            exact ⟨rfl, e8⟩
          · have hz : z = -1 := by rw [HZ.out, if_neg hv]; rfl
            subst hz
            go_wp2
            go_ret2
            exact ⟨rfl, e8⟩
    case o8_3 =>
      
      go_simp
      have hB := (Below.refl w6.heap.size w6).alloc (Nat.le_refl _) (.cells #[.bool false, .slice none 0 0] 87)
      have D4 := heap_alloc_last w6 (.cells #[.bool false, .slice none 0 0] 87)
      have mw39 : w6.heap.size < (w6.alloc (.cells #[.bool false, .slice none 0 0] 87)).heap.size := by simp
      generalize hw : w6.alloc (.cells #[.bool false, .slice none 0 0] 87) = w39 at *
      have lw39 : w6.heap.size ≤ w39.heap.size := hB.size
      replace h1 := h1.below hB (by omega)
      replace h2 := h2.below hB (by omega)
      replace D1 := (hB.block _ (by omega)).trans D1
      replace D2 := (hB.block _ (by omega)).trans D2
      have c40 := hB0.trans (hB.mono (by omega))
      clear hB
      try clear hw
      refine hK _ _ ⟨fun _ _ p hp => c40.block p hp, ?_⟩
      clear hK K
      try simp only [Act.put, List.setIfInBounds_toArray, List.set_cons_zero, List.set_cons_succ]
      refine stepK (i := 2) (L := #[true, true, true, true, false, true, false, false, true, false]) rfl (by rfl) (by kernel_rfl) (by rfl) (fun K hK => ?_)
      go_simp
      go_at_call 69
      refine (In_any w39 a.neg a.m a.e A1 n1 c1 (h1.more (Nat.zero_le _) (by omega)) hn1 KX ka (by omega) x HX.out KX rfl).mono ?_
      rintro e' w41 ⟨P1, i1, d1, rfl, lc1, ln1, hB, IN1⟩
      have lw41 : w39.heap.size ≤ w41.heap.size := hB.size
      replace h1 := h1.below hB (by omega)
      replace h2 := h2.below hB (by omega)
      replace D1 := (hB.block _ (by omega)).trans D1
      replace D2 := (hB.block _ (by omega)).trans D2
      replace D4 := (hB.block _ (by omega)).trans D4
      have c42 := c40.trans (hB.mono (by omega))
      clear hB
      refine hK _ _ ⟨fun _ _ p hp => c42.block p hp, ?_⟩
      clear hK K
      try simp only [Act.put, List.setIfInBounds_toArray, List.set_cons_zero, List.set_cons_succ]
      refine stepK (i := 4) (L := #[true, true, true, true, true, true, false, false, true, false]) rfl (by rfl) (by kernel_rfl) (by rfl) (fun K hK => ?_)
      go_simp
      go_at_call 71
      refine (rMinus_any w41 b.neg A2 n2 c2 b.e t HT.out).mono ?_
      rintro e' w43 ⟨rfl, hB⟩
      have lw43 : w41.heap.size ≤ w43.heap.size := hB.size
      replace h1 := h1.below hB (by omega)
      replace h2 := h2.below hB (by omega)
      replace IN1 := IN1.below hB (by omega)
      replace D1 := (hB.block _ (by omega)).trans D1
      replace D2 := (hB.block _ (by omega)).trans D2
      replace D4 := (hB.block _ (by omega)).trans D4
      have c44 := c42.trans (hB.mono (by omega))
      clear hB
      refine hK _ _ ⟨fun _ _ p hp => c44.block p hp, ?_⟩
      clear hK K
      try simp only [Act.put, List.setIfInBounds_toArray, List.set_cons_zero, List.set_cons_succ]
      refine stepK (i := 6) (L := #[true, true, true, true, true, true, true, false, true, false]) rfl (by rfl) (by kernel_rfl) (by rfl) (fun K hK => ?_)
      go_simp
      go_at_call 69
      refine (In_any w43 t b.m b.e A2 n2 c2 (h2.more (Nat.zero_le _) (by omega)) hn2 KX kb (by omega) y HY.out KX rfl).mono ?_
      rintro e' w45 ⟨P2, i2, d2, rfl, lc2, ln2, hB, IN2⟩
      have lw45 : w43.heap.size ≤ w45.heap.size := hB.size
      replace h1 := h1.below hB (by omega)
      replace h2 := h2.below hB (by omega)
      replace IN1 := IN1.below hB (by omega)
      replace D1 := (hB.block _ (by omega)).trans D1
      replace D2 := (hB.block _ (by omega)).trans D2
      replace D4 := (hB.block _ (by omega)).trans D4
      have c46 := c44.trans (hB.mono (by omega))
      clear hB
      refine hK _ _ ⟨fun _ _ p hp => c46.block p hp, ?_⟩
      clear hK K
      try simp only [Act.put, List.setIfInBounds_toArray, List.set_cons_zero, List.set_cons_succ]
      refine stepK (i := 7) (L := #[true, true, true, true, true, true, true, true, true, false]) rfl (by rfl) (by kernel_rfl) (by rfl) (fun K hK => ?_)
      go_simp
      go_at_call 68
      refine (rPlus_any w45 a.neg t x y P1 i1 d1 P2 i2 d2 (IN1.more (Nat.zero_le _) (by omega)) (IN2.more (Nat.zero_le _) (by omega)) ln1 ln2 s v HP.out).mono ?_
      rintro e' w47 ⟨P3, i3, d3, rfl, lc3, hB, IN3⟩
      have lw47 : w45.heap.size ≤ w47.heap.size := hB.size
      replace h1 := h1.below hB (by omega)
      replace h2 := h2.below hB (by omega)
      replace IN1 := IN1.below hB (by omega)
      replace IN2 := IN2.below hB (by omega)
      replace D1 := (hB.block _ (by omega)).trans D1
      replace D2 := (hB.block _ (by omega)).trans D2
      replace D4 := (hB.block _ (by omega)).trans D4
      have c48 := c46.trans (hB.mono (by omega))
      clear hB
      refine hK _ _ ⟨fun _ _ p hp => c48.block p hp, ?_⟩
      clear hK K
      try simp only [Act.put, List.setIfInBounds_toArray, List.set_cons_zero, List.set_cons_succ]
      refine stepK (i := 9) (L := #[true, true, true, true, true, true, true, true, true, true]) rfl (by rfl) (by kernel_rfl) (by rfl) (fun K hK => ?_)
      go_simp
      have p1 := cell_of_row _ _ 0 _ _ _ D4
      have p2 := cell_of_row _ _ 1 _ _ _ D4
      have p3 := frozen_of_row _ _ 0 _ _ D4
      have p4 := frozen_of_row _ _ 1 _ _ D4
      go_simp
      refine hK _ _ ⟨fun h => absurd h (by decide), ?_⟩
      clear hK K
      try simp only [Act.put, List.setIfInBounds_toArray, List.set_cons_zero, List.set_cons_succ]
      refine doneE (by kernel_rfl) ?_ _
      clear p1 p2 p3 p4
      have q4 : ((w47.setCell ⟨w6.heap.size, 0, none⟩ (.bool s)).setCell ⟨w6.heap.size, 1, none⟩ (.slice P3 i3 d3)).heap[w6.heap.size]? = some (.cells #[.bool s, .slice P3 i3 d3] 87 (0, 0)) := by simp [World.setCell, Array.getElem?_modify, D4]
      have d7 : Below w4.heap.size w4 ((w47.setCell ⟨w6.heap.size, 0, none⟩ (.bool s)).setCell ⟨w6.heap.size, 1, none⟩ (.slice P3 i3 d3)) := (c48.setCell (show w4.heap.size ≤ w6.heap.size by omega) _).setCell (show w4.heap.size ≤ w6.heap.size by omega) _
      have J4 := ints_far (ints_far IN3 (p := ⟨w6.heap.size, 0, none⟩) (by simp only; omega) (.bool s)) (p := ⟨w6.heap.size, 1, none⟩) (by simp only; omega) (.slice P3 i3 d3)
      have s7 : w47.heap.size ≤ ((w47.setCell ⟨w6.heap.size, 0, none⟩ (.bool s)).setCell ⟨w6.heap.size, 1, none⟩ (.slice P3 i3 d3)).heap.size := by simp [World.setCell]
      generalize hw : (w47.setCell ⟨w6.heap.size, 0, none⟩ (.bool s)).setCell ⟨w6.heap.size, 1, none⟩ (.slice P3 i3 d3) = w49 at *
      try clear hw
      have e8 := c5.trans (d7.mono (by omega))
      have k1 := cell_of_row w49 _ 0 _ _ _ q4
      have k2 := cell_of_row w49 _ 1 _ _ _ q4
      go_wp2_with fail
      refine (Cut_any w49 _ _ P3 i3 d3 _ J4 dig2 lc3).mono ?_
      rintro e' w' ⟨⟨m, rfl, hm, hI⟩, rfl⟩
      have hml : Hid (m = 0 ↔ v = 0) := Lib.hid (by
        have hl := hI.len
        rw [num2] at hl
        constructor
        · intro e
          rw [e] at hl
          exact canon_zero_iff.1 (List.eq_nil_of_length_eq_zero hl)
        · intro e
          rw [canon_zero_iff.2 e] at hl
          exact hl.symm)
      by_cases h0 : m = 0
      · have hz : z = 0 := by rw [HZ.out, if_pos (hml.out.1 h0)]
        subst hz h0
        go_wp2
        go_ret2
        exact ⟨rfl, e8⟩
      · have hv : ¬ v = 0 := fun e => h0 (hml.out.2 e)
        cases s
        · have hz : z = 1 := by rw [HZ.out, if_neg hv]; rfl
          subst hz
          go_wp2
          go_ret2
          exact ⟨rfl, e8⟩
        · have hz : z = -1 := by rw [HZ.out, if_neg hv]; rfl
          subst hz
          go_wp2
          go_ret2
          exact ⟨rfl, e8⟩
end Dy
end Go.Proofs.YtlbkepiflhchdaaDoor
namespace Go.Proofs.YtlbkepiflhchdaaDoor
open Go.RowKit
namespace Dy
open Dp
/-- headcountref02.Cmp, whatever they are. -/
theorem rCmp_is (w : World) (d d' : Ma.Dv) (a b : Dn) (ia : Ma.Is a d) (ib : Ma.Is b d') (ha : a.May) (hb : b.May) (h1 : Ints w 0 w.heap.size .u32 d.A d.n d.xs) (h2 : Ints w 0 w.heap.size .u32 d'.A d'.n d'.xs) (z : Int) (h : cmpD a b = z) :
    Calls Tryd.prog 107 #[.agg #[.bool d.s, .slice d.A d.n d.c, .int .i64 d.e], .agg #[.bool d'.s, .slice d'.A d'.n d'.c, .int .i64 d'.e]] w fun e w' => e = .returned (.tuple #[.int .i64 z, .int .i64 0]) ∧ Below w.heap.size w w' := by
  obtain ⟨i1, i2, i3⟩ := ia
  obtain ⟨j1, j2, j3⟩ := ib
  rw [i1, i2, j1, j2]
  rw [i3] at h1
  rw [j3] at h2
  exact rCmp_dn w a b ha hb d.A d'.A d.n d.c d'.n d'.c h1 h2 z h
end Dy
end Go.Proofs.YtlbkepiflhchdaaDoor
namespace Go.Proofs.YtlbkepiflhchdaaDoor
open Go.RowKit
namespace Ma
open Dp Dy
/-- What stands amid the rounds of 'apart'. -/
def ApI (w : World) (ds : List Dv) (i : Nat) (P Q : Dv) : Prop := ∃ lo hi : Dn, endsL ((ds.map dnV).take i) = some (lo, hi) ∧ (Is lo P ∧ lo.May ∧ Ints w 0 w.heap.size .u32 P.A P.n P.xs) ∧ (Is hi Q ∧ hi.May ∧ Ints w 0 w.heap.size .u32 Q.A Q.n Q.xs)
theorem ap_first {w : World} {ds : List Dv} {d : Dv} (h0 : 0 < ds.length) (hd : ds[0] = d) (hm : d.may) (hI : Ints w 0 w.heap.size .u32 d.A d.n d.xs) : ApI w ds 1 d d := by
  obtain ⟨y1, y2⟩ := dnV_is hI hm
  refine ⟨dnV d, dnV d, ?_, ⟨y2, y1, hI⟩, ⟨y2, y1, hI⟩⟩
  rw [endsL_take _ 0 (by simpa using h0), List.take_zero, endsL_nil]
  simp [stepE, hd]
theorem ap_next {w : World} {ds : List Dv} {i : Nat} {P Q d : Dv} {lo hi : Dn} (hi1 : i < ds.length) (hd : ds[i] = d) (he : endsL ((ds.map dnV).take i) = some (lo, hi)) (hm : d.may) (hI : Ints w 0 w.heap.size .u32 d.A d.n d.xs)
    (h1 : Is lo P ∧ lo.May ∧ Ints w 0 w.heap.size .u32 P.A P.n P.xs) (h2 : Is hi Q ∧ hi.May ∧ Ints w 0 w.heap.size .u32 Q.A Q.n Q.xs) {P' Q' : Dv}
    (hp : (cmpD (dnV d) lo < 0 ∧ P' = d) ∨ (¬ cmpD (dnV d) lo < 0 ∧ P' = P)) (hq : (0 < cmpD (dnV d) hi ∧ Q' = d) ∨ (¬ 0 < cmpD (dnV d) hi ∧ Q' = Q)) : ApI w ds (i + 1) P' Q' := by
  obtain ⟨y1, y2⟩ := dnV_is hI hm
  refine ⟨if cmpD (dnV d) lo < 0 then dnV d else lo, if 0 < cmpD (dnV d) hi then dnV d else hi, ?_, ?_, ?_⟩
  · rw [endsL_take _ i (by simpa using hi1), he]
    simp [stepE, hd]
  · rcases hp with ⟨k, rfl⟩ | ⟨k, rfl⟩
    · rw [if_pos k]
      exact ⟨y2, y1, hI⟩
    · rw [if_neg k]
      exact h1
  · rcases hq with ⟨k, rfl⟩ | ⟨k, rfl⟩
    · rw [if_pos k]
      exact ⟨y2, y1, hI⟩
    · rw [if_neg k]
      exact h2
set_option maxHeartbeats 25600000 in
set_option maxRecDepth 100000 in
/-- headcountref16.apart. -/
theorem rApart_any (w : World) (A : Option Addr) (n c : Nat) (ds : List Dv) (hL : LDs w 0 w.heap.size A n ds) (hn : n ≤ 1000000) (hn0 : 0 < n) (hmay : ∀ j (h : j < ds.length), ds[j].may) (r : Dn) (code : Int) (h : farL (ds.map dnV) = (r, code)) :
    Calls Tryd.prog 79 #[.slice A n c] w (Formed w r code) := by
  have HL := Lib.hid hL.len
  have H := Lib.hid h
  have HM := Lib.hid hmay
  clear h hmay
  obtain ⟨b0, off, hA, hb1, hb2, hc⟩ := hL.row hn0
  have HC := Lib.hid hc
  have HR := Lib.hid hL.rows
  clear hc
  subst hA
  clear hL
  have h0d : 0 < ds.length := by have := HL.out; omega
  obtain ⟨d, hd⟩ : ∃ d, ds[0] = d := ⟨_, rfl⟩
  have hc0 := HC.out 0 h0d
  have hI0 := HR.out 0 h0d
  have hm0 := HM.out 0 h0d
  rw [hd] at hc0 hI0 hm0
  rw [Nat.zero_mul, Nat.add_zero] at hc0
  have HF := Lib.hid (ap_first h0d hd hm0 hI0)
  clear hd hI0 hm0 h0d
  generalize hw : w.alloc (.cells #[.bool false, .slice none 0 0, .int .i64 0] 24) = w1
  have hZ : w1.heap[w.heap.size]? = some (.cells #[.bool false, .slice none 0 0, .int .i64 0] 24 (0, 0)) := by rw [← hw]; exact heap_alloc_last _ _
  have hb : Below w.heap.size w w1 := by rw [← hw]; exact (Below.refl _ w).alloc (Nat.le_refl _) _
  have l1 : w.heap.size < w1.heap.size := by rw [← hw]; simp
  replace hc0 : DCells w1 b0 off d := hc0.blk (hb.block _ hb2)
  go_enter Tryd.func79, Tryd.ntmps79
  go_upto_region 1 with fail
  try clear hw
  go_cut [4, 5] from 13 to 18 (fun s4 s5 wx => ∃ g4 g5 : Nat, s4 = .pointer (some ⟨g4, 0, none⟩) ∧ s5 = .pointer (some ⟨g5, 0, none⟩) ∧ w.heap.size < g4 ∧ w.heap.size < g5 ∧ g4 ≠ g5 ∧ DBox wx g4 d ∧ DBox wx g5 d ∧ wx.heap[w.heap.size]? = some (.cells #[.bool false, .slice none 0 0, .int .i64 0] 24 (0, 0)) ∧ Below w.heap.size w wx)
  case first =>
    go_wp2_with fail
    refine region_E (Keeps w1) [] (m := 10) (L := #[false, false, false, false, false, false, false, false, false, false]) (by kernel_rfl) (by rfl) (by rfl) ?_
    have kp_ : Keeps w1 w1.drew := fun _ _ => rfl
    have b_ : Below w.heap.size w w1.drew := hb.drew
    have l2 : w1.heap.size ≤ w1.drew.heap.size := Nat.le_refl _
    have lb : b0 < w1.heap.size := by omega
    clear hb
    generalize w1.drew = w2 at *
    refine pureE (i := 0) (L := #[true, false, false, false, false, false, false, false, false, false]) (v := ?_) rfl (by rfl) (by kernel_rfl) (by kernel_rfl) (by kernel_rfl) (fun _ _ _ h => h) (by rfl) ?hy21 ?rest21
    case hy21 => intro w; go_simp; (try with_reducible rfl)
    try simp only [Act.put, List.setIfInBounds_toArray, List.set_cons_zero, List.set_cons_succ]
    refine pureE (i := 1) (L := #[true, true, false, false, false, false, false, false, false, false]) (v := ?_) rfl (by rfl) (by kernel_rfl) (by kernel_rfl) (by kernel_rfl) (fun _ _ _ h => h) (by rfl) ?hy22 ?rest22
    case hy22 => intro w; go_simp; (try with_reducible rfl)
    try simp only [Act.put, List.setIfInBounds_toArray, List.set_cons_zero, List.set_cons_succ]
    refine readE (i := 2) (L := #[true, true, true, false, false, false, false, false, false, false]) (v := .agg #[.bool d.s, .slice d.A d.n d.c, .int .i64 d.e]) rfl (by rfl) (by kernel_rfl) (by kernel_rfl) (by kernel_rfl) (fun _ _ _ h => h) (by assumption) (by rfl) ?ya ?za
    case ya =>
      intro w' h1
      obtain ⟨k0, k1, k2⟩ := hc0.blk (h1 _ lb)
      go_simp
    try simp only [Act.put, List.setIfInBounds_toArray, List.set_cons_zero, List.set_cons_succ]
    refine pureE (i := 3) (L := #[true, true, true, true, false, false, false, false, false, false]) (v := ?_) rfl (by rfl) (by kernel_rfl) (by kernel_rfl) (by kernel_rfl) (fun _ _ _ h => h) (by rfl) ?hy24 ?rest24
    case hy24 => intro w; go_simp; (try with_reducible rfl)
    try simp only [Act.put, List.setIfInBounds_toArray, List.set_cons_zero, List.set_cons_succ]
    refine pureE (i := 4) (L := #[true, true, true, true, true, false, false, false, false, false]) (v := ?_) rfl (by rfl) (by kernel_rfl) (by kernel_rfl) (by kernel_rfl) (fun _ _ _ h => h) (by rfl) ?hy25 ?rest25
    case hy25 => intro w; go_simp; (try with_reducible rfl)
    try simp only [Act.put, List.setIfInBounds_toArray, List.set_cons_zero, List.set_cons_succ]
    refine readE (i := 5) (L := #[true, true, true, true, true, true, false, false, false, false]) (v := .agg #[.bool d.s, .slice d.A d.n d.c, .int .i64 d.e]) rfl (by rfl) (by kernel_rfl) (by kernel_rfl) (by kernel_rfl) (fun _ _ _ h => h) (by assumption) (by rfl) ?yb ?zb
    case yb =>
      intro w' h1
      obtain ⟨k0, k1, k2⟩ := hc0.blk (h1 _ lb)
      go_simp
    try simp only [Act.put, List.setIfInBounds_toArray, List.set_cons_zero, List.set_cons_succ]
    refine stepK2 (i := 6) (j := 7) (Li := #[true, true, true, true, true, true, true, false, false, false]) (Lj := #[true, true, true, true, true, true, false, true, false, false]) rfl rfl (by rfl) (by rfl) (by kernel_rfl) (by rfl) (by rfl) (fun K hK => ?oa) (fun K hK => ?ob)
    case oa =>
      
      go_simp
      have hX6 : (w2.alloc (.cells #[.bool false, .slice none 0 0, .int .i64 0] 24)).heap[w2.heap.size]? = some (.cells #[.bool false, .slice none 0 0, .int .i64 0] 24 (0, 0)) := heap_alloc_last _ _
      have hB : Below w2.heap.size w2 (w2.alloc (.cells #[.bool false, .slice none 0 0, .int .i64 0] 24)) := (Below.refl _ _).alloc (Nat.le_refl _) _
      have lw3 : w2.heap.size < (w2.alloc (.cells #[.bool false, .slice none 0 0, .int .i64 0] 24)).heap.size := by simp
      generalize hw_ : w2.alloc (.cells #[.bool false, .slice none 0 0, .int .i64 0] 24) = w3 at *
      replace kp_ := Keeps.on kp_ (by omega) hB
      replace b_ := b_.trans (hB.mono (by omega))
      clear hB
      refine hK _ _ ⟨fun _ _ => kp_, ?_⟩
      clear hK K
      try simp only [Act.put, List.setIfInBounds_toArray, List.set_cons_zero, List.set_cons_succ]
      refine stepK (i := 7) (L := #[true, true, true, true, true, true, true, true, false, false]) rfl (by rfl) (by kernel_rfl) (by rfl) (fun K hK => ?_)
      go_simp
      have hX7 : (w3.alloc (.cells #[.bool false, .slice none 0 0, .int .i64 0] 24)).heap[w3.heap.size]? = some (.cells #[.bool false, .slice none 0 0, .int .i64 0] 24 (0, 0)) := heap_alloc_last _ _
      have hB : Below w3.heap.size w3 (w3.alloc (.cells #[.bool false, .slice none 0 0, .int .i64 0] 24)) := (Below.refl _ _).alloc (Nat.le_refl _) _
      have lw4 : w3.heap.size < (w3.alloc (.cells #[.bool false, .slice none 0 0, .int .i64 0] 24)).heap.size := by simp
      generalize hw_ : w3.alloc (.cells #[.bool false, .slice none 0 0, .int .i64 0] 24) = w4 at *
      replace kp_ := Keeps.on kp_ (by omega) hB
      replace b_ := b_.trans (hB.mono (by omega))
      replace hX6 := (hB.block _ (by omega)).trans hX6
      clear hB
      refine hK _ _ ⟨fun _ _ => kp_, ?_⟩
      clear hK K
      try simp only [Act.put, List.setIfInBounds_toArray, List.set_cons_zero, List.set_cons_succ]
      obtain ⟨⟨z0, z1, z2⟩, zf⟩ := boxD hX6
      obtain ⟨w5, hw5, hN, hb5, hf5, l5, l5'⟩ := zput hX6 (.bool d.s) (.slice d.A d.n d.c) (.int .i64 d.e)
      refine stepK (i := 8) (L := #[true, true, true, true, true, true, true, true, true, false]) rfl (by rfl) (by kernel_rfl) (by rfl) (fun K hK => ?_)
      go_simp
      try rw [hw5]
      clear hw5 z0 z1 z2 zf
      replace kp_ : Keeps w1 w5 := fun p hp => (hf5 p (by omega)).trans (kp_ p hp)
      replace b_ := hb5 _ _ b_ (by omega)
      replace hX7 := (hf5 _ (by omega)).trans hX7
      clear hX6
      have hX6 := hN
      clear hN hf5 hb5
      refine hK _ _ ⟨fun _ _ => kp_, ?_⟩
      clear hK K
      try simp only [Act.put, List.setIfInBounds_toArray, List.set_cons_zero, List.set_cons_succ]
      skip
      obtain ⟨⟨z0, z1, z2⟩, zf⟩ := boxD hX7
      obtain ⟨w6, hw5, hN, hb5, hf5, l5, l5'⟩ := zput hX7 (.bool d.s) (.slice d.A d.n d.c) (.int .i64 d.e)
      refine stepK (i := 9) (L := #[true, true, true, true, true, true, true, true, true, true]) rfl (by rfl) (by kernel_rfl) (by rfl) (fun K hK => ?_)
      go_simp
      try rw [hw5]
      clear hw5 z0 z1 z2 zf
      replace kp_ : Keeps w1 w6 := fun p hp => (hf5 p (by omega)).trans (kp_ p hp)
      replace b_ := hb5 _ _ b_ (by omega)
      replace hX6 := (hf5 _ (by omega)).trans hX6
      clear hX7
      have hX7 := hN
      clear hN hf5 hb5
      refine hK _ _ ⟨fun _ _ => kp_, ?_⟩
      clear hK K
      try simp only [Act.put, List.setIfInBounds_toArray, List.set_cons_zero, List.set_cons_succ]
      refine doneE (by kernel_rfl) ?_ _
      go_wp2_with fail
      go_meet
      exact ⟨w2.heap.size, w3.heap.size, rfl, rfl, by omega, by omega, by omega, hX6, hX7, (kp_ _ (by omega)).trans hZ, b_⟩
    case ob =>
      
      go_simp
      have hX7 : (w2.alloc (.cells #[.bool false, .slice none 0 0, .int .i64 0] 24)).heap[w2.heap.size]? = some (.cells #[.bool false, .slice none 0 0, .int .i64 0] 24 (0, 0)) := heap_alloc_last _ _
      have hB : Below w2.heap.size w2 (w2.alloc (.cells #[.bool false, .slice none 0 0, .int .i64 0] 24)) := (Below.refl _ _).alloc (Nat.le_refl _) _
      have lw3 : w2.heap.size < (w2.alloc (.cells #[.bool false, .slice none 0 0, .int .i64 0] 24)).heap.size := by simp
      generalize hw_ : w2.alloc (.cells #[.bool false, .slice none 0 0, .int .i64 0] 24) = w3 at *
      replace kp_ := Keeps.on kp_ (by omega) hB
      replace b_ := b_.trans (hB.mono (by omega))
      clear hB
      refine hK _ _ ⟨fun _ _ => kp_, ?_⟩
      clear hK K
      try simp only [Act.put, List.setIfInBounds_toArray, List.set_cons_zero, List.set_cons_succ]
      refine stepK (i := 6) (L := #[true, true, true, true, true, true, true, true, false, false]) rfl (by rfl) (by kernel_rfl) (by rfl) (fun K hK => ?_)
      go_simp
      have hX6 : (w3.alloc (.cells #[.bool false, .slice none 0 0, .int .i64 0] 24)).heap[w3.heap.size]? = some (.cells #[.bool false, .slice none 0 0, .int .i64 0] 24 (0, 0)) := heap_alloc_last _ _
      have hB : Below w3.heap.size w3 (w3.alloc (.cells #[.bool false, .slice none 0 0, .int .i64 0] 24)) := (Below.refl _ _).alloc (Nat.le_refl _) _
      have lw4 : w3.heap.size < (w3.alloc (.cells #[.bool false, .slice none 0 0, .int .i64 0] 24)).heap.size := by simp
      generalize hw_ : w3.alloc (.cells #[.bool false, .slice none 0 0, .int .i64 0] 24) = w4 at *
      replace kp_ := Keeps.on kp_ (by omega) hB
      replace b_ := b_.trans (hB.mono (by omega))
      replace hX7 := (hB.block _ (by omega)).trans hX7
      clear hB
      refine hK _ _ ⟨fun _ _ => kp_, ?_⟩
      clear hK K
      try simp only [Act.put, List.setIfInBounds_toArray, List.set_cons_zero, List.set_cons_succ]
      obtain ⟨⟨z0, z1, z2⟩, zf⟩ := boxD hX6
      obtain ⟨w5, hw5, hN, hb5, hf5, l5, l5'⟩ := zput hX6 (.bool d.s) (.slice d.A d.n d.c) (.int .i64 d.e)
      refine stepK (i := 8) (L := #[true, true, true, true, true, true, true, true, true, false]) rfl (by rfl) (by kernel_rfl) (by rfl) (fun K hK => ?_)
      go_simp
      try rw [hw5]
      clear hw5 z0 z1 z2 zf
      replace kp_ : Keeps w1 w5 := fun p hp => (hf5 p (by omega)).trans (kp_ p hp)
      replace b_ := hb5 _ _ b_ (by omega)
      replace hX7 := (hf5 _ (by omega)).trans hX7
      clear hX6
      have hX6 := hN
      clear hN hf5 hb5
      refine hK _ _ ⟨fun _ _ => kp_, ?_⟩
      clear hK K
      try simp only [Act.put, List.setIfInBounds_toArray, List.set_cons_zero, List.set_cons_succ]
      skip
      obtain ⟨⟨z0, z1, z2⟩, zf⟩ := boxD hX7
      obtain ⟨w6, hw5, hN, hb5, hf5, l5, l5'⟩ := zput hX7 (.bool d.s) (.slice d.A d.n d.c) (.int .i64 d.e)
      refine stepK (i := 9) (L := #[true, true, true, true, true, true, true, true, true, true]) rfl (by rfl) (by kernel_rfl) (by rfl) (fun K hK => ?_)
      go_simp
      try rw [hw5]
      clear hw5 z0 z1 z2 zf
      replace kp_ : Keeps w1 w6 := fun p hp => (hf5 p (by omega)).trans (kp_ p hp)
      replace b_ := hb5 _ _ b_ (by omega)
      replace hX6 := (hf5 _ (by omega)).trans hX6
      clear hX7
      have hX7 := hN
      clear hN hf5 hb5
      refine hK _ _ ⟨fun _ _ => kp_, ?_⟩
      clear hK K
      try simp only [Act.put, List.setIfInBounds_toArray, List.set_cons_zero, List.set_cons_succ]
      refine doneE (by kernel_rfl) ?_ _
      go_wp2_with fail
      go_meet
      exact ⟨w3.heap.size, w2.heap.size, rfl, rfl, by omega, by omega, by omega, hX6, hX7, (kp_ _ (by omega)).trans hZ, b_⟩
  case rest =>
    obtain ⟨g4, g5, rfl, rfl, lg4, lg5, hne, hX4, hX5, hZ2, hb2'⟩ := hcut
    obtain ⟨w2, hwc⟩ : ∃ W : World, W = wc := ⟨_, rfl⟩
    subst hwc
    clear hZ hb l1 hc0
    go_wp2_with fail
    go_loopw [6, 7, 8, 9, 10] (fun iv _ _ _ _ wr => ∃ (i : Nat) (P Q : Dv), iv = .int .i64 i ∧ 1 ≤ i ∧ i ≤ n ∧ DBox wr g4 P ∧ DBox wr g5 Q ∧ wr.heap[w.heap.size]? = some (.cells #[.bool false, .slice none 0 0, .int .i64 0] 24 (0, 0)) ∧ Below w.heap.size w wr ∧ Hid (ApI w ds i P Q)) (fun iv _ _ _ _ _ => n - (intOf iv).toNat)
    case atStart => exact ⟨1, d, d, rfl, Nat.le_refl _, by omega, hX4, hX5, hZ2, hb2', HF⟩
    case round =>
      clear hX4 hX5 hZ2 hb2' HF
      obtain ⟨i, P, Q, rfl, hi1, hi2, hX4, hX5, hZ, hb, hI⟩ := hrel
      obtain ⟨lo, hi, hE, hP, hQ⟩ := hI.out
      obtain ⟨iP, mP, IP⟩ := hP
      obtain ⟨iQ, mQ, IQ⟩ := hQ
      replace hE := Lib.hid hE
      replace iP := Lib.hid iP
      replace iQ := Lib.hid iQ
      replace mP := Lib.hid mP
      replace mQ := Lib.hid mQ
      clear hI
      have l4 := lt_of_heap hX4
      have l5 := lt_of_heap hX5
      by_cases hlt : i < n
      · skip
        have hi3 : i < ds.length := by rw [HL.out]; exact hlt
        obtain ⟨d, hd⟩ : ∃ d, ds[i] = d := ⟨_, rfl⟩
        have hci := HC.out i hi3
        have hID := HR.out i hi3
        have hmd := HM.out i hi3
        rw [hd] at hci hID hmd
        have HD := Lib.hid hd
        obtain ⟨mD, iD⟩ := dnV_is hID hmd
        obtain ⟨z1, hz1⟩ : ∃ z, cmpD (dnV d) lo = z := ⟨_, rfl⟩
        obtain ⟨z2, hz2⟩ : ∃ z, cmpD (dnV d) hi = z := ⟨_, rfl⟩
        have HZ1 := Lib.hid hz1
        have HZ2 := Lib.hid hz2
        replace hmd := Lib.hid hmd
        replace iD := Lib.hid iD
        replace mD := Lib.hid mD
        clear hd hz1 hz2
        replace hci : DCells wr b0 (off + i * 3) d := hci.blk (hb.block _ hb2)
        have hwr : IntKind.i64.wrap ((i : Int) + 1) = ((i + 1 : Nat) : Int) := by rw [IntKind.wrap_i64]; omega
        have lb : b0 < wr.heap.size := by omega
        go_wp2_with fail
        refine region_E (Keeps wr) [] (m := 11) (L := #[false, false, false, false, false, false, false, false, false, false, false]) (by kernel_rfl) (by rfl) (by rfl) ?_
        have kp_ : Keeps wr wr.drew := fun _ _ => rfl
        have b_ : Below w.heap.size w wr.drew := hb.drew
        have l_ : wr.heap.size ≤ wr.drew.heap.size := Nat.le_refl _
        generalize wr.drew = u1 at *
        refine pureE (i := 0) (L := #[true, false, false, false, false, false, false, false, false, false, false]) (v := ?_) rfl (by rfl) (by kernel_rfl) (by kernel_rfl) (by kernel_rfl) (fun _ _ _ h => h) (by rfl) ?hy33 ?rest33
        case hy33 => intro w; go_simp; (try with_reducible rfl)
        try simp only [Act.put, List.setIfInBounds_toArray, List.set_cons_zero, List.set_cons_succ]
        refine pureE (i := 1) (L := #[true, true, false, false, false, false, false, false, false, false, false]) (v := ?_) rfl (by rfl) (by kernel_rfl) (by kernel_rfl) (by kernel_rfl) (fun _ _ _ h => h) (by rfl) ?hy34 ?rest34
        case hy34 => intro w; go_simp; (try with_reducible rfl)
        try simp only [Act.put, List.setIfInBounds_toArray, List.set_cons_zero, List.set_cons_succ]
        refine pureE (i := 2) (L := #[true, true, true, false, false, false, false, false, false, false, false]) (v := ?_) rfl (by rfl) (by kernel_rfl) (by kernel_rfl) (by kernel_rfl) (fun _ _ _ h => h) (by rfl) ?hy35 ?rest35
        case hy35 => intro w; go_simp; (try with_reducible rfl)
        try simp only [Act.put, List.setIfInBounds_toArray, List.set_cons_zero, List.set_cons_succ]
        refine readE (i := 3) (L := #[true, true, true, true, false, false, false, false, false, false, false]) (v := .agg #[.bool d.s, .slice d.A d.n d.c, .int .i64 d.e]) rfl (by rfl) (by kernel_rfl) (by kernel_rfl) (by kernel_rfl) (fun _ _ _ h => h) (by assumption) (by rfl) ?ya1 ?za1
        case ya1 =>
          intro w' h1
          obtain ⟨k0, k1, k2⟩ := hci.blk (h1 _ lb)
          go_simp
        try simp only [Act.put, List.setIfInBounds_toArray, List.set_cons_zero, List.set_cons_succ]
        refine readE (i := 4) (L := #[true, true, true, true, true, false, false, false, false, false, false]) (v := .agg #[.bool P.s, .slice P.A P.n P.c, .int .i64 P.e]) rfl (by rfl) (by kernel_rfl) (by kernel_rfl) (by kernel_rfl) (fun _ _ _ h => h) (by assumption) (by rfl) ?yb1 ?zb1
        case yb1 =>
          intro w' h1
          obtain ⟨⟨k0, k1, k2⟩, kf⟩ := boxD ((h1 _ (lt_of_heap hX4)).trans hX4)
          go_simp
        try simp only [Act.put, List.setIfInBounds_toArray, List.set_cons_zero, List.set_cons_succ]
        refine stepK (i := 5) (L := #[true, true, true, true, true, true, false, false, false, false, false]) rfl (by rfl) (by kernel_rfl) (by rfl) (fun K hK => ?_)
        go_simp
        go_at_call 107
        refine (rCmp_is u1 d P (dnV d) lo iD.out iP.out mD.out mP.out ((hID.below b_ (Nat.le_refl _)).more (Nat.le_refl _) (by omega)) ((IP.below b_ (Nat.le_refl _)).more (Nat.le_refl _) (by omega)) z1 HZ1.out).mono ?_
        rintro e' v1 ⟨rfl, hB⟩
        have lv1 := hB.size
        replace kp_ := Keeps.on kp_ (by omega) hB
        replace b_ := b_.trans (hB.mono (by omega))
        clear hB
        refine hK _ _ ⟨fun _ _ => kp_, ?_⟩
        clear hK K
        try simp only [Act.put, List.setIfInBounds_toArray, List.set_cons_zero, List.set_cons_succ]
        refine pureE (i := 6) (L := #[true, true, true, true, true, true, true, false, false, false, false]) (v := ?_) rfl (by rfl) (by kernel_rfl) (by kernel_rfl) (by kernel_rfl) (fun _ _ _ h => h) (by rfl) ?hy39 ?rest39
        case hy39 => intro w; go_simp; (try with_reducible rfl)
        try simp only [Act.put, List.setIfInBounds_toArray, List.set_cons_zero, List.set_cons_succ]
        refine pureE (i := 7) (L := #[true, true, true, true, true, true, true, true, false, false, false]) (v := ?_) rfl (by rfl) (by kernel_rfl) (by kernel_rfl) (by kernel_rfl) (fun _ _ _ h => h) (by rfl) ?hy40 ?rest40
        case hy40 => intro w; go_simp; (try with_reducible rfl)
        try simp only [Act.put, List.setIfInBounds_toArray, List.set_cons_zero, List.set_cons_succ]
        refine pureE (i := 8) (L := #[true, true, true, true, true, true, true, true, true, false, false]) (v := ?_) rfl (by rfl) (by kernel_rfl) (by kernel_rfl) (by kernel_rfl) (fun _ _ _ h => h) (by rfl) ?hy41 ?rest41
        case hy41 => intro w; go_simp; (try with_reducible rfl)
        try simp only [Act.put, List.setIfInBounds_toArray, List.set_cons_zero, List.set_cons_succ]
        refine pureE (i := 9) (L := #[true, true, true, true, true, true, true, true, true, true, false]) (v := ?_) rfl (by rfl) (by kernel_rfl) (by kernel_rfl) (by kernel_rfl) (fun _ _ _ h => h) (by rfl) ?hy42 ?rest42
        case hy42 => intro w; go_simp; (try with_reducible rfl)
        try simp only [Act.put, List.setIfInBounds_toArray, List.set_cons_zero, List.set_cons_succ]
        refine pureE (i := 10) (L := #[true, true, true, true, true, true, true, true, true, true, true]) (v := ?_) rfl (by rfl) (by kernel_rfl) (by kernel_rfl) (by kernel_rfl) (fun _ _ _ h => h) (by rfl) ?hy43 ?rest43
        case hy43 => intro w; go_simp; (try with_reducible rfl)
        try simp only [Act.put, List.setIfInBounds_toArray, List.set_cons_zero, List.set_cons_succ]
        refine doneE (by kernel_rfl) ?_ _
        replace hX4 : DBox v1 g4 _ := (kp_ _ l4).trans hX4
        replace hX5 : DBox v1 g5 _ := (kp_ _ l5).trans hX5
        replace hZ := (kp_ _ (by omega)).trans hZ
        replace hci := hci.blk (kp_ _ lb)
        replace lb : b0 < v1.heap.size := by omega
        replace l4 : g4 < v1.heap.size := by omega
        replace l5 : g5 < v1.heap.size := by omega
        clear hb l_
        have hb := b_
        clear b_ kp_
        by_cases hz1 : z1 < 0
        · skip
          have hza : decide (z1 < 0) = true := decide_eq_true hz1
          obtain ⟨k0, k1, k2⟩ := hci
          obtain ⟨⟨z0, z1_, z2_⟩, zf⟩ := boxD hX4
          obtain ⟨v2, hw5, hN, hb5, hf5, ls, ls'⟩ := zput hX4 (.bool d.s) (.slice d.A d.n d.c) (.int .i64 d.e)
          go_wp2_with fail
          try rw [hw5]
          clear hw5 z0 z1_ z2_ zf
          replace hb := hb5 _ _ hb (by omega)
          replace hX5 := (hf5 _ (by omega)).trans hX5
          replace hZ := (hf5 _ (by omega)).trans hZ
          have hci : DCells v2 b0 (off + i * 3) d := DCells.blk ⟨k0, k1, k2⟩ (hf5 _ (by omega))
          clear k0 k1 k2 hX4
          have hX4 : DBox v2 g4 d := hN
          clear hN hf5 hb5
          replace lb : b0 < v2.heap.size := by omega
          replace l4 : g4 < v2.heap.size := by omega
          replace l5 : g5 < v2.heap.size := by omega
          refine region_E (Keeps v2) [] (m := 11) (L := #[false, false, false, false, false, false, false, false, false, false, false]) (by kernel_rfl) (by rfl) (by rfl) ?_
          have kp_ : Keeps v2 v2.drew := fun _ _ => rfl
          have b_ : Below w.heap.size w v2.drew := hb.drew
          have l_ : v2.heap.size ≤ v2.drew.heap.size := Nat.le_refl _
          generalize v2.drew = u3 at *
          refine pureE (i := 0) (L := #[true, false, false, false, false, false, false, false, false, false, false]) (v := ?_) rfl (by rfl) (by kernel_rfl) (by kernel_rfl) (by kernel_rfl) (fun _ _ _ h => h) (by rfl) ?hy44 ?rest44
          case hy44 => intro w; go_simp; (try with_reducible rfl)
          try simp only [Act.put, List.setIfInBounds_toArray, List.set_cons_zero, List.set_cons_succ]
          refine pureE (i := 1) (L := #[true, true, false, false, false, false, false, false, false, false, false]) (v := ?_) rfl (by rfl) (by kernel_rfl) (by kernel_rfl) (by kernel_rfl) (fun _ _ _ h => h) (by rfl) ?hy45 ?rest45
          case hy45 => intro w; go_simp; (try with_reducible rfl)
          try simp only [Act.put, List.setIfInBounds_toArray, List.set_cons_zero, List.set_cons_succ]
          refine pureE (i := 2) (L := #[true, true, true, false, false, false, false, false, false, false, false]) (v := ?_) rfl (by rfl) (by kernel_rfl) (by kernel_rfl) (by kernel_rfl) (fun _ _ _ h => h) (by rfl) ?hy46 ?rest46
          case hy46 => intro w; go_simp; (try with_reducible rfl)
          try simp only [Act.put, List.setIfInBounds_toArray, List.set_cons_zero, List.set_cons_succ]
          refine readE (i := 3) (L := #[true, true, true, true, false, false, false, false, false, false, false]) (v := .agg #[.bool d.s, .slice d.A d.n d.c, .int .i64 d.e]) rfl (by rfl) (by kernel_rfl) (by kernel_rfl) (by kernel_rfl) (fun _ _ _ h => h) (by assumption) (by rfl) ?ya3 ?za3
          case ya3 =>
            intro w' h1
            obtain ⟨k0, k1, k2⟩ := hci.blk (h1 _ lb)
            go_simp
          try simp only [Act.put, List.setIfInBounds_toArray, List.set_cons_zero, List.set_cons_succ]
          refine readE (i := 4) (L := #[true, true, true, true, true, false, false, false, false, false, false]) (v := .agg #[.bool Q.s, .slice Q.A Q.n Q.c, .int .i64 Q.e]) rfl (by rfl) (by kernel_rfl) (by kernel_rfl) (by kernel_rfl) (fun _ _ _ h => h) (by assumption) (by rfl) ?yb3 ?zb3
          case yb3 =>
            intro w' h1
            obtain ⟨⟨k0, k1, k2⟩, kf⟩ := boxD ((h1 _ (lt_of_heap hX5)).trans hX5)
            go_simp
          try simp only [Act.put, List.setIfInBounds_toArray, List.set_cons_zero, List.set_cons_succ]
          refine stepK (i := 5) (L := #[true, true, true, true, true, true, false, false, false, false, false]) rfl (by rfl) (by kernel_rfl) (by rfl) (fun K hK => ?_)
          go_simp
          go_at_call 107
          refine (rCmp_is u3 d Q (dnV d) hi iD.out iQ.out mD.out mQ.out ((hID.below b_ (Nat.le_refl _)).more (Nat.le_refl _) (by omega)) ((IQ.below b_ (Nat.le_refl _)).more (Nat.le_refl _) (by omega)) z2 HZ2.out).mono ?_
          rintro e' v3 ⟨rfl, hB⟩
          have lv3 := hB.size
          replace kp_ := Keeps.on kp_ (by omega) hB
          replace b_ := b_.trans (hB.mono (by omega))
          clear hB
          refine hK _ _ ⟨fun _ _ => kp_, ?_⟩
          clear hK K
          try simp only [Act.put, List.setIfInBounds_toArray, List.set_cons_zero, List.set_cons_succ]
          refine pureE (i := 6) (L := #[true, true, true, true, true, true, true, false, false, false, false]) (v := ?_) rfl (by rfl) (by kernel_rfl) (by kernel_rfl) (by kernel_rfl) (fun _ _ _ h => h) (by rfl) ?hy50 ?rest50
          case hy50 => intro w; go_simp; (try with_reducible rfl)
          try simp only [Act.put, List.setIfInBounds_toArray, List.set_cons_zero, List.set_cons_succ]
          refine pureE (i := 7) (L := #[true, true, true, true, true, true, true, true, false, false, false]) (v := ?_) rfl (by rfl) (by kernel_rfl) (by kernel_rfl) (by kernel_rfl) (fun _ _ _ h => h) (by rfl) ?hy51 ?rest51
          case hy51 => intro w; go_simp; (try with_reducible rfl)
          try simp only [Act.put, List.setIfInBounds_toArray, List.set_cons_zero, List.set_cons_succ]
          refine pureE (i := 8) (L := #[true, true, true, true, true, true, true, true, true, false, false]) (v := ?_) rfl (by rfl) (by kernel_rfl) (by kernel_rfl) (by kernel_rfl) (fun _ _ _ h => h) (by rfl) ?hy52 ?rest52
          case hy52 => intro w; go_simp; (try with_reducible rfl)
          try simp only [Act.put, List.setIfInBounds_toArray, List.set_cons_zero, List.set_cons_succ]
          refine pureE (i := 9) (L := #[true, true, true, true, true, true, true, true, true, true, false]) (v := ?_) rfl (by rfl) (by kernel_rfl) (by kernel_rfl) (by kernel_rfl) (fun _ _ _ h => h) (by rfl) ?hy53 ?rest53
          case hy53 => intro w; go_simp; (try with_reducible rfl)
          try simp only [Act.put, List.setIfInBounds_toArray, List.set_cons_zero, List.set_cons_succ]
          refine pureE (i := 10) (L := #[true, true, true, true, true, true, true, true, true, true, true]) (v := ?_) rfl (by rfl) (by kernel_rfl) (by kernel_rfl) (by kernel_rfl) (fun _ _ _ h => h) (by rfl) ?hy54 ?rest54
          case hy54 => intro w; go_simp; (try with_reducible rfl)
          try simp only [Act.put, List.setIfInBounds_toArray, List.set_cons_zero, List.set_cons_succ]
          refine doneE (by kernel_rfl) ?_ _
          replace hX4 : DBox v3 g4 _ := (kp_ _ l4).trans hX4
          replace hX5 : DBox v3 g5 _ := (kp_ _ l5).trans hX5
          replace hZ := (kp_ _ (by omega)).trans hZ
          replace hci := hci.blk (kp_ _ lb)
          replace lb : b0 < v3.heap.size := by omega
          replace l4 : g4 < v3.heap.size := by omega
          replace l5 : g5 < v3.heap.size := by omega
          clear hb l_
          have hb := b_
          clear b_ kp_
          by_cases hz2 : 0 < z2
          · skip
            have hzb : decide (z2 > 0) = true := decide_eq_true hz2
            obtain ⟨k0, k1, k2⟩ := hci
            obtain ⟨⟨z0, z1_, z2_⟩, zf⟩ := boxD hX5
            obtain ⟨v4, hw5, hN, hb5, hf5, ls, ls'⟩ := zput hX5 (.bool d.s) (.slice d.A d.n d.c) (.int .i64 d.e)
            go_wp2
            try rw [hw5]
            clear hw5 z0 z1_ z2_ zf
            replace hb := hb5 _ _ hb (by omega)
            replace hX4 := (hf5 _ (by omega)).trans hX4
            replace hZ := (hf5 _ (by omega)).trans hZ
            have hci : DCells v4 b0 (off + i * 3) d := DCells.blk ⟨k0, k1, k2⟩ (hf5 _ (by omega))
            clear k0 k1 k2 hX5
            have hX5 : DBox v4 g5 d := hN
            clear hN hf5 hb5
            replace lb : b0 < v4.heap.size := by omega
            replace l4 : g4 < v4.heap.size := by omega
            replace l5 : g5 < v4.heap.size := by omega
            go_roundw
            case rel => exact ⟨i + 1, _, _, by first | rfl | (congr 1; omega) | go_num, by omega, by omega, hX4, hX5, hZ, hb, Lib.hid (ap_next hi3 HD.out hE.out hmd.out hID ⟨iP.out, mP.out, IP⟩ ⟨iQ.out, mQ.out, IQ⟩ (.inl ⟨by rw [HZ1.out]; omega, rfl⟩) (.inl ⟨by rw [HZ2.out]; omega, rfl⟩))⟩
            case measure => first | (simp [intOf]; done) | (simp [intOf]; omega)
          · skip
            have hzb : decide (z2 > 0) = false := decide_eq_false hz2
            go_wp2
            go_roundw
            case rel => exact ⟨i + 1, _, _, by first | rfl | (congr 1; omega) | go_num, by omega, by omega, hX4, hX5, hZ, hb, Lib.hid (ap_next hi3 HD.out hE.out hmd.out hID ⟨iP.out, mP.out, IP⟩ ⟨iQ.out, mQ.out, IQ⟩ (.inl ⟨by rw [HZ1.out]; omega, rfl⟩) (.inr ⟨by rw [HZ2.out]; omega, rfl⟩))⟩
            case measure => first | (simp [intOf]; done) | (simp [intOf]; omega)
        · skip
          have hza : decide (z1 < 0) = false := decide_eq_false hz1
          go_wp2_with fail
          refine region_E (Keeps v1) [] (m := 11) (L := #[false, false, false, false, false, false, false, false, false, false, false]) (by kernel_rfl) (by rfl) (by rfl) ?_
          have kp_ : Keeps v1 v1.drew := fun _ _ => rfl
          have b_ : Below w.heap.size w v1.drew := hb.drew
          have l_ : v1.heap.size ≤ v1.drew.heap.size := Nat.le_refl _
          generalize v1.drew = u5 at *
          refine pureE (i := 0) (L := #[true, false, false, false, false, false, false, false, false, false, false]) (v := ?_) rfl (by rfl) (by kernel_rfl) (by kernel_rfl) (by kernel_rfl) (fun _ _ _ h => h) (by rfl) ?hy55 ?rest55
          case hy55 => intro w; go_simp; (try with_reducible rfl)
          try simp only [Act.put, List.setIfInBounds_toArray, List.set_cons_zero, List.set_cons_succ]
          refine pureE (i := 1) (L := #[true, true, false, false, false, false, false, false, false, false, false]) (v := ?_) rfl (by rfl) (by kernel_rfl) (by kernel_rfl) (by kernel_rfl) (fun _ _ _ h => h) (by rfl) ?hy56 ?rest56
          case hy56 => intro w; go_simp; (try with_reducible rfl)
          try simp only [Act.put, List.setIfInBounds_toArray, List.set_cons_zero, List.set_cons_succ]
          refine pureE (i := 2) (L := #[true, true, true, false, false, false, false, false, false, false, false]) (v := ?_) rfl (by rfl) (by kernel_rfl) (by kernel_rfl) (by kernel_rfl) (fun _ _ _ h => h) (by rfl) ?hy57 ?rest57
          case hy57 => intro w; go_simp; (try with_reducible rfl)
          try simp only [Act.put, List.setIfInBounds_toArray, List.set_cons_zero, List.set_cons_succ]
          refine readE (i := 3) (L := #[true, true, true, true, false, false, false, false, false, false, false]) (v := .agg #[.bool d.s, .slice d.A d.n d.c, .int .i64 d.e]) rfl (by rfl) (by kernel_rfl) (by kernel_rfl) (by kernel_rfl) (fun _ _ _ h => h) (by assumption) (by rfl) ?ya5 ?za5
          case ya5 =>
            intro w' h1
            obtain ⟨k0, k1, k2⟩ := hci.blk (h1 _ lb)
            go_simp
          try simp only [Act.put, List.setIfInBounds_toArray, List.set_cons_zero, List.set_cons_succ]
          refine readE (i := 4) (L := #[true, true, true, true, true, false, false, false, false, false, false]) (v := .agg #[.bool Q.s, .slice Q.A Q.n Q.c, .int .i64 Q.e]) rfl (by rfl) (by kernel_rfl) (by kernel_rfl) (by kernel_rfl) (fun _ _ _ h => h) (by assumption) (by rfl) ?yb5 ?zb5
          case yb5 =>
            intro w' h1
            obtain ⟨⟨k0, k1, k2⟩, kf⟩ := boxD ((h1 _ (lt_of_heap hX5)).trans hX5)
            go_simp
          try simp only [Act.put, List.setIfInBounds_toArray, List.set_cons_zero, List.set_cons_succ]
          refine stepK (i := 5) (L := #[true, true, true, true, true, true, false, false, false, false, false]) rfl (by rfl) (by kernel_rfl) (by rfl) (fun K hK => ?_)
          go_simp
          go_at_call 107
          refine (rCmp_is u5 d Q (dnV d) hi iD.out iQ.out mD.out mQ.out ((hID.below b_ (Nat.le_refl _)).more (Nat.le_refl _) (by omega)) ((IQ.below b_ (Nat.le_refl _)).more (Nat.le_refl _) (by omega)) z2 HZ2.out).mono ?_
          rintro e' v5 ⟨rfl, hB⟩
          have lv5 := hB.size
          replace kp_ := Keeps.on kp_ (by omega) hB
          replace b_ := b_.trans (hB.mono (by omega))
          clear hB
          refine hK _ _ ⟨fun _ _ => kp_, ?_⟩
          clear hK K
          try simp only [Act.put, List.setIfInBounds_toArray, List.set_cons_zero, List.set_cons_succ]
          refine pureE (i := 6) (L := #[true, true, true, true, true, true, true, false, false, false, false]) (v := ?_) rfl (by rfl) (by kernel_rfl) (by kernel_rfl) (by kernel_rfl) (fun _ _ _ h => h) (by rfl) ?hy61 ?rest61
          case hy61 => intro w; go_simp; (try with_reducible rfl)
          try simp only [Act.put, List.setIfInBounds_toArray, List.set_cons_zero, List.set_cons_succ]
          refine pureE (i := 7) (L := #[true, true, true, true, true, true, true, true, false, false, false]) (v := ?_) rfl (by rfl) (by kernel_rfl) (by kernel_rfl) (by kernel_rfl) (fun _ _ _ h => h) (by rfl) ?hy62 ?rest62
          case hy62 => intro w; go_simp; (try with_reducible rfl)
          try simp only [Act.put, List.setIfInBounds_toArray, List.set_cons_zero, List.set_cons_succ]
          refine pureE (i := 8) (L := #[true, true, true, true, true, true, true, true, true, false, false]) (v := ?_) rfl (by rfl) (by kernel_rfl) (by kernel_rfl) (by kernel_rfl) (fun _ _ _ h => h) (by rfl) ?hy63 ?rest63
          case hy63 => intro w; go_simp; (try with_reducible rfl)
          try simp only [Act.put, List.setIfInBounds_toArray, List.set_cons_zero, List.set_cons_succ]
          refine pureE (i := 9) (L := #[true, true, true, true, true, true, true, true, true, true, false]) (v := ?_) rfl (by rfl) (by kernel_rfl) (by kernel_rfl) (by kernel_rfl) (fun _ _ _ h => h) (by rfl) ?hy64 ?rest64
          case hy64 => intro w; go_simp; (try with_reducible rfl)
          try simp only [Act.put, List.setIfInBounds_toArray, List.set_cons_zero, List.set_cons_succ]
          refine pureE (i := 10) (L := #[true, true, true, true, true, true, true, true, true, true, true]) (v := ?_) rfl (by rfl) (by kernel_rfl) (by kernel_rfl) (by kernel_rfl) (fun _ _ _ h => h) (by rfl) ?hy65 ?rest65
          case hy65 => intro w; go_simp; (try with_reducible rfl)
          try simp only [Act.put, List.setIfInBounds_toArray, List.set_cons_zero, List.set_cons_succ]
          refine doneE (by kernel_rfl) ?_ _
          replace hX4 : DBox v5 g4 _ := (kp_ _ l4).trans hX4
          replace hX5 : DBox v5 g5 _ := (kp_ _ l5).trans hX5
          replace hZ := (kp_ _ (by omega)).trans hZ
          replace hci := hci.blk (kp_ _ lb)
          replace lb : b0 < v5.heap.size := by omega
          replace l4 : g4 < v5.heap.size := by omega
          replace l5 : g5 < v5.heap.size := by omega
          clear hb l_
          have hb := b_
          clear b_ kp_
          by_cases hz2 : 0 < z2
          · skip
            have hzb : decide (z2 > 0) = true := decide_eq_true hz2
            obtain ⟨k0, k1, k2⟩ := hci
            obtain ⟨⟨z0, z1_, z2_⟩, zf⟩ := boxD hX5
            obtain ⟨v6, hw5, hN, hb5, hf5, ls, ls'⟩ := zput hX5 (.bool d.s) (.slice d.A d.n d.c) (.int .i64 d.e)
            go_wp2
            try rw [hw5]
            clear hw5 z0 z1_ z2_ zf
            replace hb := hb5 _ _ hb (by omega)
            replace hX4 := (hf5 _ (by omega)).trans hX4
            replace hZ := (hf5 _ (by omega)).trans hZ
            have hci : DCells v6 b0 (off + i * 3) d := DCells.blk ⟨k0, k1, k2⟩ (hf5 _ (by omega))
            clear k0 k1 k2 hX5
            have hX5 : DBox v6 g5 d := hN
            clear hN hf5 hb5
            replace lb : b0 < v6.heap.size := by omega
            replace l4 : g4 < v6.heap.size := by omega
            replace l5 : g5 < v6.heap.size := by omega
            go_roundw
            case rel => exact ⟨i + 1, _, _, by first | rfl | (congr 1; omega) | go_num, by omega, by omega, hX4, hX5, hZ, hb, Lib.hid (ap_next hi3 HD.out hE.out hmd.out hID ⟨iP.out, mP.out, IP⟩ ⟨iQ.out, mQ.out, IQ⟩ (.inr ⟨by rw [HZ1.out]; omega, rfl⟩) (.inl ⟨by rw [HZ2.out]; omega, rfl⟩))⟩
            case measure => first | (simp [intOf]; done) | (simp [intOf]; omega)
          · skip
            have hzb : decide (z2 > 0) = false := decide_eq_false hz2
            go_wp2
            go_roundw
            case rel => exact ⟨i + 1, _, _, by first | rfl | (congr 1; omega) | go_num, by omega, by omega, hX4, hX5, hZ, hb, Lib.hid (ap_next hi3 HD.out hE.out hmd.out hID ⟨iP.out, mP.out, IP⟩ ⟨iQ.out, mQ.out, IQ⟩ (.inr ⟨by rw [HZ1.out]; omega, rfl⟩) (.inr ⟨by rw [HZ2.out]; omega, rfl⟩))⟩
            case measure => first | (simp [intOf]; done) | (simp [intOf]; omega)
      · skip
        have hin : i = n := by omega
        subst hin
        have HS : Hid (subX Q.s Q.xs Q.e P.s P.xs P.e = (r, code)) := Lib.hid (by
          have e := H.out
          rw [farL_gap] at e
          have e2 := hE.out
          rw [List.take_of_length_le (by rw [List.length_map, HL.out]; exact Nat.le_refl _)] at e2
          rw [e2] at e
          exact (iQ.out.sub iP.out mQ.out mP.out).trans e)
        have IP2 := (IP.below hb (Nat.le_refl _)).more (Nat.le_refl _) hb.size
        have IQ2 := (IQ.below hb (Nat.le_refl _)).more (Nat.le_refl _) hb.size
        clear hE iP iQ mP mQ IP IQ
        obtain ⟨⟨k0, k1, k2⟩, kf⟩ := boxD hX4
        obtain ⟨⟨q0, q1, q2⟩, qf⟩ := boxD hX5
        go_wp2_with fail
        refine (rSub_all wr Q.s P.s Q.A P.A Q.n Q.c P.n P.c Q.xs P.xs Q.e P.e IQ2 IP2 r code HS.out).mono ?_
        rintro e' w5 ⟨A5, n5, c5, rfl, hnc, hB, I5⟩
        have l6 := hB.size
        replace hZ := (hB.block _ (by omega)).trans hZ
        have hb5 := hb.trans (hB.mono (by omega))
        clear hB hX4 hX5 k0 k1 k2 kf q0 q1 q2 qf IP2 IQ2 hb
        generalize hw6 : w5.alloc (.cells #[.bool r.neg, .slice A5 n5 c5, .int .i64 r.e] 24) = w6
        have hX6 : w6.heap[w5.heap.size]? = some (.cells #[.bool r.neg, .slice A5 n5 c5, .int .i64 r.e] 24 (0, 0)) := by rw [← hw6]; exact heap_alloc_last _ _
        have hB6 : Below w5.heap.size w5 w6 := by rw [← hw6]; exact (Below.refl _ _).alloc (Nat.le_refl _) _
        have l7 : w5.heap.size < w6.heap.size := by rw [← hw6]; simp
        replace hZ := (hB6.block _ (by omega)).trans hZ
        have hb6 := hb5.trans (hB6.mono (by omega))
        have I6 := I5.below hB6 (Nat.le_refl _)
        clear hB6 hb5 I5
        obtain ⟨⟨k0, k1, k2⟩, kf⟩ := boxD hX6
        obtain ⟨⟨z0, z1, z2⟩, zf⟩ := boxD hZ
        obtain ⟨U, hwU, hN, hbU, hfU, lU, lU'⟩ := zput hZ (.bool r.neg) (.slice A5 n5 c5) (.int .i64 r.e)
        go_wp2
        try clear hw6
        try rw [hwU]
        clear hwU z0 z1 z2 zf k0 k1 k2 kf
        have hQ := hbU _ _ hb6 (Nat.le_refl _)
        have IU : Ints U w.heap.size U.heap.size .u32 A5 n5 (canon 4294967296 r.m) := (ints_rng I6 (fun b h1 h2 => hfU b (by omega))).more (by omega) (by omega)
        obtain ⟨⟨z0, z1, z2⟩, zf⟩ := boxD hN
        exact bodyPost_ret (v := .tuple #[.agg #[.bool r.neg, .slice A5 n5 c5, .int .i64 r.e], .int .i64 code]) (by simp [results, Tryd.results79, go_sem, z0, z1, z2]) rfl ⟨A5, n5, c5, rfl, hnc, hQ, IU⟩
end Ma
end Go.Proofs.YtlbkepiflhchdaaDoor
