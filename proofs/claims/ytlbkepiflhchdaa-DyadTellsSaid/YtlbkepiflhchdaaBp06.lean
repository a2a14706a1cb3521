/- The reference's Cmp: a walk (printed by a program of mine). -/
/- How two dyads stand: a walk (printed by a program of mine). -/
/- How two dyads stand, whatever they are. -/
/- The reference's Cmp and Check, whatever the dyads are. -/
/- How two dyads stand, in a program without the table (printed by a program of mine). -/
import Derived.Test.YtlbkepiflhchdaaBp05
import Derived.Laws.StructEq
import Derived.Test.YtlbkepiflhchdaaBp03
namespace Go.Proofs.Ytlbkepiflhchdaa
open Go.RowKit
namespace Dy
open Dp
theorem canon_zero_iff {v : Nat} : canon 2 v = [] ↔ v = 0 := by
  constructor
  · intro h
    exact canon_nil (by decide) h
  · intro h
    subst h
    rfl
set_option maxHeartbeats 12800000 in
set_option maxRecDepth 100000 in
theorem rCmp_dn (w : World) (a b : Dn) (ha : a.May) (hb : b.May) (A1 A2 : Option Addr) (n1 c1 n2 c2 : Nat) (h1 : Ints w 0 w.heap.size .u32 A1 n1 (canon 4294967296 a.m)) (h2 : Ints w 0 w.heap.size .u32 A2 n2 (canon 4294967296 b.m)) (z : Int) (h : cmpD a b = z) :
    Calls Try.prog 7 #[.agg #[.bool a.neg, .slice A1 n1 c1, .int .i64 a.e], .agg #[.bool b.neg, .slice A2 n2 c2, .int .i64 b.e]] w fun e w' => e = .returned (.tuple #[.int .i64 z, .int .i64 0]) ∧ Below w.heap.size w w' := by
  have hn1 := ints_may h1 ha
  have hn2 := ints_may h2 hb
  have ea : a.e ≤ 1024 := ha.2.1
  have eb : b.e ≤ 1024 := hb.2.1
  have ma := Lib.hid (dn_may ha)
  have mb := Lib.hid (dn_may hb)
  obtain ⟨KX, hK⟩ : ∃ KX, max a.e b.e = KX := ⟨_, rfl⟩
  have kl : KX ≤ 1024 := by omega
  have ka : a.e ≤ KX := by omega
  have kb : b.e ≤ KX := by omega
  obtain ⟨t, ht⟩ : ∃ t, (if n2 = 0 then b.neg else !b.neg) = t := ⟨_, rfl⟩
  have ht2 : b.m ≠ 0 → t = !b.neg := fun hm => by
    have : n2 ≠ 0 := fun e => by
      have hl := h2.len
      rw [e] at hl
      have h0 : canon 4294967296 b.m = [] := List.eq_nil_of_length_eq_zero hl
      exact hm (canon_nil (by decide) h0)
    rw [← ht, if_neg this]
  obtain ⟨x, hx⟩ : ∃ x, 2 ^ (KX - a.e) * a.m = x := ⟨_, rfl⟩
  obtain ⟨y, hy⟩ : ∃ y, 2 ^ (KX - b.e) * b.m = y := ⟨_, rfl⟩
  obtain ⟨s, v, hp⟩ : ∃ s v, plusS a.neg x t y = (s, v) := ⟨_, _, rfl⟩
  have hz : z = if v = 0 then 0 else if s then -1 else 1 := by
    rw [← h]
    refine cmp_by a b t ht2 s v ?_
    rw [hK, Nat.mul_comm a.m, Nat.mul_comm b.m, hx, hy]
    exact hp
  have HX := Lib.hid hx
  have HY := Lib.hid hy
  have HP := Lib.hid hp
  have HT := Lib.hid ht
  have HZ := Lib.hid hz
  clear hx hy hp ht ht2 hz h ha hb
  generalize hw : (w.alloc (.cells #[.bool a.neg, .slice A1 n1 c1, .int .i64 a.e] 24)).alloc (.cells #[.bool b.neg, .slice A2 n2 c2, .int .i64 b.e] 24) = w1 at *
  obtain ⟨D1, D2, b1, l1, l2⟩ := boxes2 w _ _ hw
  replace h1 := h1.below b1 (Nat.le_refl _)
  replace h2 := h2.below b1 (Nat.le_refl _)
  obtain ⟨⟨pD1, qD1, rD1⟩, uD1, vD1, xD1⟩ := boxD D1
  go_enter Try.func7, Try.ntmps7
  go_wp2_with fail
  try clear hw
  refine (rMay_ok w1 0 w.heap.size a.neg A1 n1 c1 _ a.e h1 (by omega) ma.out).mono ?_
  rintro e' w2 ⟨rfl, hB⟩
  clear pD1 qD1 rD1 uD1 vD1 xD1
  have lw2 : w1.heap.size ≤ w2.heap.size := hB.size
  replace h1 := h1.below hB (by omega)
  replace h2 := h2.below hB (by omega)
  replace D1 := (hB.block _ (by omega)).trans D1
  replace D2 := (hB.block _ (by omega)).trans D2
  have c3 := b1.trans (hB.mono (by omega))
  clear hB
  obtain ⟨⟨pD2, qD2, rD2⟩, uD2, vD2, xD2⟩ := boxD D2
  go_wp2_with fail
  refine (rMay_ok w2 0 w.heap.size b.neg A2 n2 c2 _ b.e h2 (by omega) mb.out).mono ?_
  rintro e' w4 ⟨rfl, hB⟩
  clear pD2 qD2 rD2 uD2 vD2 xD2
  have lw4 : w2.heap.size ≤ w4.heap.size := hB.size
  replace h1 := h1.below hB (by omega)
  replace h2 := h2.below hB (by omega)
  replace D1 := (hB.block _ (by omega)).trans D1
  replace D2 := (hB.block _ (by omega)).trans D2
  have c5 := c3.trans (hB.mono (by omega))
  clear hB
  obtain ⟨⟨pD1, qD1, rD1⟩, uD1, vD1, xD1⟩ := boxD D1
  obtain ⟨⟨pD2, qD2, rD2⟩, uD2, vD2, xD2⟩ := boxD D2
  have hkk := Lib.hid hK
  clear hK
  go_upto_region 3 with fail
  go_cut [6] from 16 to 20 (fun s6 wx => s6 = .int .i64 (KX : Int) ∧ w4 = wx)
  case first =>
    go_wp2_with fail
    all_goals
      go_meet
      exact ⟨by have := hkk.out; congr 1; omega, rfl⟩
  case rest =>
    obtain ⟨rfl, rfl⟩ := hcut
    clear pD1 qD1 rD1 uD1 vD1 xD1 pD2 qD2 rD2 uD2 vD2 xD2
    go_wp2_with fail
    have kD : Keeps w4 w4.drew := fun _ _ => rfl
    have hB : Below w4.heap.size w4 w4.drew := (Below.refl _ _).drew
    refine region_E (Keeps w4) [9] (m := 10) (L := #[false, false, false, false, false, false, false, false, false, false]) (by kernel_rfl) (by rfl) (by rfl) ?_
    generalize w4.drew = w6 at *
    have lw6 : w4.heap.size ≤ w6.heap.size := hB.size
    have sv_D1 := D1
    have sv_D2 := D2
    replace h1 := h1.below hB (by omega)
    replace h2 := h2.below hB (by omega)
    replace D1 := (hB.block _ (by omega)).trans D1
    replace D2 := (hB.block _ (by omega)).trans D2
    have hB0 := hB
    clear hB
    refine pureE (i := 1) (L := #[false, true, false, false, false, false, false, false, false, false]) (v := ?_) rfl (by rfl) (by kernel_rfl) (by kernel_rfl) (by kernel_rfl) (fun _ _ _ h => h) (by rfl) ?hy1 ?rest1
    case hy1 => intro w; go_simp; (try with_reducible rfl)
    try simp only [Act.put, List.setIfInBounds_toArray, List.set_cons_zero, List.set_cons_succ]
    refine pureE (i := 5) (L := #[false, true, false, false, false, true, false, false, false, false]) (v := ?_) rfl (by rfl) (by kernel_rfl) (by kernel_rfl) (by kernel_rfl) (fun _ _ _ h => h) (by rfl) ?hy2 ?rest2
    case hy2 => intro w; go_simp; (try with_reducible rfl)
    try simp only [Act.put, List.setIfInBounds_toArray, List.set_cons_zero, List.set_cons_succ]
    refine readE (i := 0) (L := #[true, true, false, false, false, true, false, false, false, false]) (v := .agg #[.bool a.neg, .slice A1 n1 c1, .int .i64 a.e]) rfl (by rfl) (by kernel_rfl) (by kernel_rfl) (by kernel_rfl) (fun _ _ _ h => h) (by assumption) (by rfl) ?hy0_1 ?rest0_1
    case hy0_1 =>
      intro w' h1
      obtain ⟨⟨k1, k2, k3⟩, _⟩ := boxD ((h1 _ (by omega)).trans sv_D1)
      go_simp
    try simp only [Act.put, List.setIfInBounds_toArray, List.set_cons_zero, List.set_cons_succ]
    refine readE (i := 3) (L := #[true, true, false, true, false, true, false, false, false, false]) (v := .agg #[.bool b.neg, .slice A2 n2 c2, .int .i64 b.e]) rfl (by rfl) (by kernel_rfl) (by kernel_rfl) (by kernel_rfl) (fun _ _ _ h => h) (by assumption) (by rfl) ?hy3_2 ?rest3_2
    case hy3_2 =>
      intro w' h1
      obtain ⟨⟨k1, k2, k3⟩, _⟩ := boxD ((h1 _ (by omega)).trans sv_D2)
      go_simp
    try simp only [Act.put, List.setIfInBounds_toArray, List.set_cons_zero, List.set_cons_succ]
    refine stepK2 (i := 2) (j := 8) (Li := #[true, true, true, true, false, true, false, false, false, false]) (Lj := #[true, true, false, true, false, true, false, false, true, false]) rfl rfl (by rfl) (by rfl) (by kernel_rfl) (by rfl) (by rfl) (fun K hK => ?o2_3) (fun K hK => ?o8_3)
    case o2_3 =>
      
      go_simp
      go_at_call 21
      refine (In_any w6 a.neg a.m a.e A1 n1 c1 (h1.more (Nat.zero_le _) (by omega)) hn1 KX ka (by omega) x HX.out KX rfl).mono ?_
      rintro e' w7 ⟨P1, i1, d1, rfl, lc1, ln1, hB, IN1⟩
      have lw7 : w6.heap.size ≤ w7.heap.size := hB.size
      replace h1 := h1.below hB (by omega)
      replace h2 := h2.below hB (by omega)
      replace D1 := (hB.block _ (by omega)).trans D1
      replace D2 := (hB.block _ (by omega)).trans D2
      have c8 := hB0.trans (hB.mono (by omega))
      clear hB
      refine hK _ _ ⟨fun _ _ p hp => c8.block p hp, ?_⟩
      clear hK K
      try simp only [Act.put, List.setIfInBounds_toArray, List.set_cons_zero, List.set_cons_succ]
      refine stepK2 (i := 4) (j := 8) (Li := #[true, true, true, true, true, true, false, false, false, false]) (Lj := #[true, true, true, true, false, true, false, false, true, false]) rfl rfl (by rfl) (by rfl) (by kernel_rfl) (by rfl) (by rfl) (fun K hK => ?o4_4) (fun K hK => ?o8_4)
      case o4_4 =>
        
        go_simp
        go_at_call 22
        refine (rMinus_any w7 b.neg A2 n2 c2 b.e t HT.out).mono ?_
        rintro e' w9 ⟨rfl, hB⟩
        have lw9 : w7.heap.size ≤ w9.heap.size := hB.size
        replace h1 := h1.below hB (by omega)
        replace h2 := h2.below hB (by omega)
        replace IN1 := IN1.below hB (by omega)
        replace D1 := (hB.block _ (by omega)).trans D1
        replace D2 := (hB.block _ (by omega)).trans D2
        have c10 := c8.trans (hB.mono (by omega))
        clear hB
        refine hK _ _ ⟨fun _ _ p hp => c10.block p hp, ?_⟩
        clear hK K
        try simp only [Act.put, List.setIfInBounds_toArray, List.set_cons_zero, List.set_cons_succ]
        refine stepK2 (i := 6) (j := 8) (Li := #[true, true, true, true, true, true, true, false, false, false]) (Lj := #[true, true, true, true, true, true, false, false, true, false]) rfl rfl (by rfl) (by rfl) (by kernel_rfl) (by rfl) (by rfl) (fun K hK => ?o6_5) (fun K hK => ?o8_5)
        case o6_5 =>
          
          go_simp
          go_at_call 21
          refine (In_any w9 t b.m b.e A2 n2 c2 (h2.more (Nat.zero_le _) (by omega)) hn2 KX kb (by omega) y HY.out KX rfl).mono ?_
          rintro e' w11 ⟨P2, i2, d2, rfl, lc2, ln2, hB, IN2⟩
          have lw11 : w9.heap.size ≤ w11.heap.size := hB.size
          replace h1 := h1.below hB (by omega)
          replace h2 := h2.below hB (by omega)
          replace IN1 := IN1.below hB (by omega)
          replace D1 := (hB.block _ (by omega)).trans D1
          replace D2 := (hB.block _ (by omega)).trans D2
          have c12 := c10.trans (hB.mono (by omega))
          clear hB
          refine hK _ _ ⟨fun _ _ p hp => c12.block p hp, ?_⟩
          clear hK K
          try simp only [Act.put, List.setIfInBounds_toArray, List.set_cons_zero, List.set_cons_succ]
          refine stepK2 (i := 7) (j := 8) (Li := #[true, true, true, true, true, true, true, true, false, false]) (Lj := #[true, true, true, true, true, true, true, false, true, false]) rfl rfl (by rfl) (by rfl) (by kernel_rfl) (by rfl) (by rfl) (fun K hK => ?o7_6) (fun K hK => ?o8_6)
          case o7_6 =>
            
            go_simp
            go_at_call 20
            refine (rPlus_any w11 a.neg t x y P1 i1 d1 P2 i2 d2 (IN1.more (Nat.zero_le _) (by omega)) (IN2.more (Nat.zero_le _) (by omega)) ln1 ln2 s v HP.out).mono ?_
            rintro e' w13 ⟨P3, i3, d3, rfl, lc3, hB, IN3⟩
            have lw13 : w11.heap.size ≤ w13.heap.size := hB.size
            replace h1 := h1.below hB (by omega)
            replace h2 := h2.below hB (by omega)
            replace IN1 := IN1.below hB (by omega)
            replace IN2 := IN2.below hB (by omega)
            replace D1 := (hB.block _ (by omega)).trans D1
            replace D2 := (hB.block _ (by omega)).trans D2
            have c14 := c12.trans (hB.mono (by omega))
            clear hB
            refine hK _ _ ⟨fun _ _ p hp => c14.block p hp, ?_⟩
            clear hK K
            try simp only [Act.put, List.setIfInBounds_toArray, List.set_cons_zero, List.set_cons_succ]
            refine stepK (i := 8) (L := #[true, true, true, true, true, true, true, true, true, false]) rfl (by rfl) (by kernel_rfl) (by rfl) (fun K hK => ?_)
            go_simp
            have hB := (Below.refl w13.heap.size w13).alloc (Nat.le_refl _) (.cells #[.bool false, .slice none 0 0] 49)
            have D4 := heap_alloc_last w13 (.cells #[.bool false, .slice none 0 0] 49)
            have mw15 : w13.heap.size < (w13.alloc (.cells #[.bool false, .slice none 0 0] 49)).heap.size := by simp
            generalize hw : w13.alloc (.cells #[.bool false, .slice none 0 0] 49) = w15 at *
            have lw15 : w13.heap.size ≤ w15.heap.size := hB.size
            replace h1 := h1.below hB (by omega)
            replace h2 := h2.below hB (by omega)
            replace IN1 := IN1.below hB (by omega)
            replace IN2 := IN2.below hB (by omega)
            replace IN3 := IN3.below hB (by omega)
            replace D1 := (hB.block _ (by omega)).trans D1
            replace D2 := (hB.block _ (by omega)).trans D2
            have c16 := c14.trans (hB.mono (by omega))
            clear hB
            try clear hw
            refine hK _ _ ⟨fun _ _ p hp => c16.block p hp, ?_⟩
            clear hK K
            try simp only [Act.put, List.setIfInBounds_toArray, List.set_cons_zero, List.set_cons_succ]
            refine stepK (i := 9) (L := #[true, true, true, true, true, true, true, true, true, true]) rfl (by rfl) (by kernel_rfl) (by rfl) (fun K hK => ?_)
            go_simp
            have p1 := cell_of_row _ _ 0 _ _ _ D4
            have p2 := cell_of_row _ _ 1 _ _ _ D4
            have p3 := frozen_of_row _ _ 0 _ _ D4
            have p4 := frozen_of_row _ _ 1 _ _ D4
            go_simp
            refine hK _ _ ⟨fun h => absurd h (by decide), ?_⟩
            clear hK K
            try simp only [Act.put, List.setIfInBounds_toArray, List.set_cons_zero, List.set_cons_succ]
            refine doneE (by kernel_rfl) ?_ _
            clear p1 p2 p3 p4
            have q4 : ((w15.setCell ⟨w13.heap.size, 0, none⟩ (.bool s)).setCell ⟨w13.heap.size, 1, none⟩ (.slice P3 i3 d3)).heap[w13.heap.size]? = some (.cells #[.bool s, .slice P3 i3 d3] 49 (0, 0)) := by simp [World.setCell, Array.getElem?_modify, D4]
            have d7 : Below w4.heap.size w4 ((w15.setCell ⟨w13.heap.size, 0, none⟩ (.bool s)).setCell ⟨w13.heap.size, 1, none⟩ (.slice P3 i3 d3)) := (c16.setCell (show w4.heap.size ≤ w13.heap.size by omega) _).setCell (show w4.heap.size ≤ w13.heap.size by omega) _
            have J4 := ints_far (ints_far IN3 (p := ⟨w13.heap.size, 0, none⟩) (by simp only; omega) (.bool s)) (p := ⟨w13.heap.size, 1, none⟩) (by simp only; omega) (.slice P3 i3 d3)
            have s7 : w15.heap.size ≤ ((w15.setCell ⟨w13.heap.size, 0, none⟩ (.bool s)).setCell ⟨w13.heap.size, 1, none⟩ (.slice P3 i3 d3)).heap.size := by simp [World.setCell]
            generalize hw : (w15.setCell ⟨w13.heap.size, 0, none⟩ (.bool s)).setCell ⟨w13.heap.size, 1, none⟩ (.slice P3 i3 d3) = w17 at *
            try clear hw
            have e8 := c5.trans (d7.mono (by omega))
            have k1 := cell_of_row w17 _ 0 _ _ _ q4
            have k2 := cell_of_row w17 _ 1 _ _ _ q4
            go_wp2_with fail
            refine (Cut_any w17 _ _ P3 i3 d3 _ J4 dig2 lc3).mono ?_
            rintro e' w' ⟨⟨m, rfl, hm, hI⟩, rfl⟩
            have hml : Hid (m = 0 ↔ v = 0) := Lib.hid (by
              have hl := hI.len
              rw [num2] at hl
              constructor
              · intro e
                rw [e] at hl
                exact canon_zero_iff.1 (List.eq_nil_of_length_eq_zero hl)
              · intro e
                rw [canon_zero_iff.2 e] at hl
                exact hl.symm)
            by_cases h0 : m = 0
            · have hz : z = 0 := by rw [HZ.out, if_pos (hml.out.1 h0)]
              subst hz h0
              go_wp2
              go_ret2
              exact ⟨rfl, e8⟩
            · have hv : ¬ v = 0 := fun e => h0 (hml.out.2 e)
              cases s
              · have hz : z = 1 := by rw [HZ.out, if_neg hv]; rfl
                subst hz
                go_wp2
                go_ret2
                exact ⟨rfl, e8⟩
              · have hz : z = -1 := by rw [HZ.out, if_neg hv]; rfl
                subst hz
                go_wp2
                go_ret2
                exact ⟨rfl, e8⟩
          case o8_6 =>
            
            go_simp
            have hB := (Below.refl w11.heap.size w11).alloc (Nat.le_refl _) (.cells #[.bool false, .slice none 0 0] 49)
            have D4 := heap_alloc_last w11 (.cells #[.bool false, .slice none 0 0] 49)
            have mw18 : w11.heap.size < (w11.alloc (.cells #[.bool false, .slice none 0 0] 49)).heap.size := by simp
            generalize hw : w11.alloc (.cells #[.bool false, .slice none 0 0] 49) = w18 at *
            have lw18 : w11.heap.size ≤ w18.heap.size := hB.size
            replace h1 := h1.below hB (by omega)
            replace h2 := h2.below hB (by omega)
            replace IN1 := IN1.below hB (by omega)
            replace IN2 := IN2.below hB (by omega)
            replace D1 := (hB.block _ (by omega)).trans D1
            replace D2 := (hB.block _ (by omega)).trans D2
            have c19 := c12.trans (hB.mono (by omega))
            clear hB
            try clear hw
            refine hK _ _ ⟨fun _ _ p hp => c19.block p hp, ?_⟩
            clear hK K
            try simp only [Act.put, List.setIfInBounds_toArray, List.set_cons_zero, List.set_cons_succ]
            refine stepK (i := 7) (L := #[true, true, true, true, true, true, true, true, true, false]) rfl (by rfl) (by kernel_rfl) (by rfl) (fun K hK => ?_)
            go_simp
            go_at_call 20
            refine (rPlus_any w18 a.neg t x y P1 i1 d1 P2 i2 d2 (IN1.more (Nat.zero_le _) (by omega)) (IN2.more (Nat.zero_le _) (by omega)) ln1 ln2 s v HP.out).mono ?_
            rintro e' w20 ⟨P3, i3, d3, rfl, lc3, hB, IN3⟩
            have lw20 : w18.heap.size ≤ w20.heap.size := hB.size
            replace h1 := h1.below hB (by omega)
            replace h2 := h2.below hB (by omega)
            replace IN1 := IN1.below hB (by omega)
            replace IN2 := IN2.below hB (by omega)
            replace D1 := (hB.block _ (by omega)).trans D1
            replace D2 := (hB.block _ (by omega)).trans D2
            replace D4 := (hB.block _ (by omega)).trans D4
            have c21 := c19.trans (hB.mono (by omega))
            clear hB
            refine hK _ _ ⟨fun _ _ p hp => c21.block p hp, ?_⟩
            clear hK K
            try simp only [Act.put, List.setIfInBounds_toArray, List.set_cons_zero, List.set_cons_succ]
            refine stepK (i := 9) (L := #[true, true, true, true, true, true, true, true, true, true]) rfl (by rfl) (by kernel_rfl) (by rfl) (fun K hK => ?_)
            go_simp
            have p1 := cell_of_row _ _ 0 _ _ _ D4
            have p2 := cell_of_row _ _ 1 _ _ _ D4
            have p3 := frozen_of_row _ _ 0 _ _ D4
            have p4 := frozen_of_row _ _ 1 _ _ D4
            go_simp
            refine hK _ _ ⟨fun h => absurd h (by decide), ?_⟩
            clear hK K
            try simp only [Act.put, List.setIfInBounds_toArray, List.set_cons_zero, List.set_cons_succ]
            refine doneE (by kernel_rfl) ?_ _
            clear p1 p2 p3 p4
            have q4 : ((w20.setCell ⟨w11.heap.size, 0, none⟩ (.bool s)).setCell ⟨w11.heap.size, 1, none⟩ (.slice P3 i3 d3)).heap[w11.heap.size]? = some (.cells #[.bool s, .slice P3 i3 d3] 49 (0, 0)) := by simp [World.setCell, Array.getElem?_modify, D4]
            have d7 : Below w4.heap.size w4 ((w20.setCell ⟨w11.heap.size, 0, none⟩ (.bool s)).setCell ⟨w11.heap.size, 1, none⟩ (.slice P3 i3 d3)) := (c21.setCell (show w4.heap.size ≤ w11.heap.size by omega) _).setCell (show w4.heap.size ≤ w11.heap.size by omega) _
            have J4 := ints_far (ints_far IN3 (p := ⟨w11.heap.size, 0, none⟩) (by simp only; omega) (.bool s)) (p := ⟨w11.heap.size, 1, none⟩) (by simp only; omega) (.slice P3 i3 d3)
            have s7 : w20.heap.size ≤ ((w20.setCell ⟨w11.heap.size, 0, none⟩ (.bool s)).setCell ⟨w11.heap.size, 1, none⟩ (.slice P3 i3 d3)).heap.size := by simp [World.setCell]
            generalize hw : (w20.setCell ⟨w11.heap.size, 0, none⟩ (.bool s)).setCell ⟨w11.heap.size, 1, none⟩ (.slice P3 i3 d3) = w22 at *
            try clear hw
            have e8 := c5.trans (d7.mono (by omega))
            have k1 := cell_of_row w22 _ 0 _ _ _ q4
            have k2 := cell_of_row w22 _ 1 _ _ _ q4
            go_wp2_with fail
            refine (Cut_any w22 _ _ P3 i3 d3 _ J4 dig2 lc3).mono ?_
            rintro e' w' ⟨⟨m, rfl, hm, hI⟩, rfl⟩
            have hml : Hid (m = 0 ↔ v = 0) := Lib.hid (by
              have hl := hI.len
              rw [num2] at hl
              constructor
              · intro e
                rw [e] at hl
                exact canon_zero_iff.1 (List.eq_nil_of_length_eq_zero hl)
              · intro e
                rw [canon_zero_iff.2 e] at hl
                exact hl.symm)
            by_cases h0 : m = 0
            · have hz : z = 0 := by rw [HZ.out, if_pos (hml.out.1 h0)]
              subst hz h0
              go_wp2
              go_ret2
              exact ⟨rfl, e8⟩
            · have hv : ¬ v = 0 := fun e => h0 (hml.out.2 e)
              cases s
              · have hz : z = 1 := by rw [HZ.out, if_neg hv]; rfl
                subst hz
                go_wp2
                go_ret2
                exact ⟨rfl, e8⟩
              · have hz : z = -1 := by rw [HZ.out, if_neg hv]; rfl
                subst hz
                go_wp2
                go_ret2
                exact ⟨rfl, e8⟩
        case o8_5 =>
          
          go_simp
          have hB := (Below.refl w9.heap.size w9).alloc (Nat.le_refl _) (.cells #[.bool false, .slice none 0 0] 49)
          have D4 := heap_alloc_last w9 (.cells #[.bool false, .slice none 0 0] 49)
          have mw23 : w9.heap.size < (w9.alloc (.cells #[.bool false, .slice none 0 0] 49)).heap.size := by simp
          generalize hw : w9.alloc (.cells #[.bool false, .slice none 0 0] 49) = w23 at *
          have lw23 : w9.heap.size ≤ w23.heap.size := hB.size
          replace h1 := h1.below hB (by omega)
          replace h2 := h2.below hB (by omega)
          replace IN1 := IN1.below hB (by omega)
          replace D1 := (hB.block _ (by omega)).trans D1
          replace D2 := (hB.block _ (by omega)).trans D2
          have c24 := c10.trans (hB.mono (by omega))
          clear hB
          try clear hw
          refine hK _ _ ⟨fun _ _ p hp => c24.block p hp, ?_⟩
          clear hK K
          try simp only [Act.put, List.setIfInBounds_toArray, List.set_cons_zero, List.set_cons_succ]
          refine stepK (i := 6) (L := #[true, true, true, true, true, true, true, false, true, false]) rfl (by rfl) (by kernel_rfl) (by rfl) (fun K hK => ?_)
          go_simp
          go_at_call 21
          refine (In_any w23 t b.m b.e A2 n2 c2 (h2.more (Nat.zero_le _) (by omega)) hn2 KX kb (by omega) y HY.out KX rfl).mono ?_
          rintro e' w25 ⟨P2, i2, d2, rfl, lc2, ln2, hB, IN2⟩
          have lw25 : w23.heap.size ≤ w25.heap.size := hB.size
          replace h1 := h1.below hB (by omega)
          replace h2 := h2.below hB (by omega)
          replace IN1 := IN1.below hB (by omega)
          replace D1 := (hB.block _ (by omega)).trans D1
          replace D2 := (hB.block _ (by omega)).trans D2
          replace D4 := (hB.block _ (by omega)).trans D4
          have c26 := c24.trans (hB.mono (by omega))
          clear hB
          refine hK _ _ ⟨fun _ _ p hp => c26.block p hp, ?_⟩
          clear hK K
          try simp only [Act.put, List.setIfInBounds_toArray, List.set_cons_zero, List.set_cons_succ]
          refine stepK (i := 7) (L := #[true, true, true, true, true, true, true, true, true, false]) rfl (by rfl) (by kernel_rfl) (by rfl) (fun K hK => ?_)
          go_simp
          go_at_call 20
          refine (rPlus_any w25 a.neg t x y P1 i1 d1 P2 i2 d2 (IN1.more (Nat.zero_le _) (by omega)) (IN2.more (Nat.zero_le _) (by omega)) ln1 ln2 s v HP.out).mono ?_
          rintro e' w27 ⟨P3, i3, d3, rfl, lc3, hB, IN3⟩
          have lw27 : w25.heap.size ≤ w27.heap.size := hB.size
          replace h1 := h1.below hB (by omega)
          replace h2 := h2.below hB (by omega)
          replace IN1 := IN1.below hB (by omega)
          replace IN2 := IN2.below hB (by omega)
          replace D1 := (hB.block _ (by omega)).trans D1
          replace D2 := (hB.block _ (by omega)).trans D2
          replace D4 := (hB.block _ (by omega)).trans D4
          have c28 := c26.trans (hB.mono (by omega))
          clear hB
          refine hK _ _ ⟨fun _ _ p hp => c28.block p hp, ?_⟩
          clear hK K
          try simp only [Act.put, List.setIfInBounds_toArray, List.set_cons_zero, List.set_cons_succ]
          refine stepK (i := 9) (L := #[true, true, true, true, true, true, true, true, true, true]) rfl (by rfl) (by kernel_rfl) (by rfl) (fun K hK => ?_)
          go_simp
          have p1 := cell_of_row _ _ 0 _ _ _ D4
          have p2 := cell_of_row _ _ 1 _ _ _ D4
          have p3 := frozen_of_row _ _ 0 _ _ D4
          have p4 := frozen_of_row _ _ 1 _ _ D4
          go_simp
          refine hK _ _ ⟨fun h => absurd h (by decide), ?_⟩
          clear hK K
          try simp only [Act.put, List.setIfInBounds_toArray, List.set_cons_zero, List.set_cons_succ]
          refine doneE (by kernel_rfl) ?_ _
          clear p1 p2 p3 p4
          have q4 : ((w27.setCell ⟨w9.heap.size, 0, none⟩ (.bool s)).setCell ⟨w9.heap.size, 1, none⟩ (.slice P3 i3 d3)).heap[w9.heap.size]? = some (.cells #[.bool s, .slice P3 i3 d3] 49 (0, 0)) := by simp [World.setCell, Array.getElem?_modify, D4]
          have d7 : Below w4.heap.size w4 ((w27.setCell ⟨w9.heap.size, 0, none⟩ (.bool s)).setCell ⟨w9.heap.size, 1, none⟩ (.slice P3 i3 d3)) := (c28.setCell (show w4.heap.size ≤ w9.heap.size by omega) _).setCell (show w4.heap.size ≤ w9.heap.size by omega) _
          have J4 := ints_far (ints_far IN3 (p := ⟨w9.heap.size, 0, none⟩) (by simp only; omega) (.bool s)) (p := ⟨w9.heap.size, 1, none⟩) (by simp only; omega) (.slice P3 i3 d3)
          have s7 : w27.heap.size ≤ ((w27.setCell ⟨w9.heap.size, 0, none⟩ (.bool s)).setCell ⟨w9.heap.size, 1, none⟩ (.slice P3 i3 d3)).heap.size := by simp [World.setCell]
          generalize hw : (w27.setCell ⟨w9.heap.size, 0, none⟩ (.bool s)).setCell ⟨w9.heap.size, 1, none⟩ (.slice P3 i3 d3) = w29 at *
          try clear hw
          have e8 := c5.trans (d7.mono (by omega))
          have k1 := cell_of_row w29 _ 0 _ _ _ q4
          have k2 := cell_of_row w29 _ 1 _ _ _ q4
          go_wp2_with fail
          refine (Cut_any w29 _ _ P3 i3 d3 _ J4 dig2 lc3).mono ?_
          rintro e' w' ⟨⟨m, rfl, hm, hI⟩, rfl⟩
          have hml : Hid (m = 0 ↔ v = 0) := Lib.hid (by
            have hl := hI.len
            rw [num2] at hl
            constructor
            · intro e
              rw [e] at hl
              exact canon_zero_iff.1 (List.eq_nil_of_length_eq_zero hl)
            · intro e
              rw [canon_zero_iff.2 e] at hl
              exact hl.symm)
          by_cases h0 : m = 0
          · have hz : z = 0 := by rw [HZ.out, if_pos (hml.out.1 h0)]
            subst hz h0
            go_wp2
            go_ret2
            exact ⟨rfl, e8⟩
          · have hv : ¬ v = 0 := fun e => h0 (hml.out.2 e)
            cases s
            · have hz : z = 1 := by rw [HZ.out, if_neg hv]; rfl
              subst hz
              go_wp2
              go_ret2
              exact ⟨rfl, e8⟩
            · have hz : z = -1 := by rw [HZ.out, if_neg hv]; rfl
              subst hz
              go_wp2
              go_ret2
              exact ⟨rfl, e8⟩
      case o8_4 =>
        
        go_simp
        have hB := (Below.refl w7.heap.size w7).alloc (Nat.le_refl _) (.cells #[.bool false, .slice none 0 0] 49)
        have D4 := heap_alloc_last w7 (.cells #[.bool false, .slice none 0 0] 49)
        have mw30 : w7.heap.size < (w7.alloc (.cells #[.bool false, .slice none 0 0] 49)).heap.size := by simp
        generalize hw : w7.alloc (.cells #[.bool false, .slice none 0 0] 49) = w30 at *
        have lw30 : w7.heap.size ≤ w30.heap.size := hB.size
        replace h1 := h1.below hB (by omega)
        replace h2 := h2.below hB (by omega)
        replace IN1 := IN1.below hB (by omega)
        replace D1 := (hB.block _ (by omega)).trans D1
        replace D2 := (hB.block _ (by omega)).trans D2
        have c31 := c8.trans (hB.mono (by omega))
        clear hB
        try clear hw
        refine hK _ _ ⟨fun _ _ p hp => c31.block p hp, ?_⟩
        clear hK K
        try simp only [Act.put, List.setIfInBounds_toArray, List.set_cons_zero, List.set_cons_succ]
        refine stepK (i := 4) (L := #[true, true, true, true, true, true, false, false, true, false]) rfl (by rfl) (by kernel_rfl) (by rfl) (fun K hK => ?_)
        go_simp
        go_at_call 22
        refine (rMinus_any w30 b.neg A2 n2 c2 b.e t HT.out).mono ?_
        rintro e' w32 ⟨rfl, hB⟩
        have lw32 : w30.heap.size ≤ w32.heap.size := hB.size
        replace h1 := h1.below hB (by omega)
        replace h2 := h2.below hB (by omega)
        replace IN1 := IN1.below hB (by omega)
        replace D1 := (hB.block _ (by omega)).trans D1
        replace D2 := (hB.block _ (by omega)).trans D2
        replace D4 := (hB.block _ (by omega)).trans D4
        have c33 := c31.trans (hB.mono (by omega))
        clear hB
        refine hK _ _ ⟨fun _ _ p hp => c33.block p hp, ?_⟩
        clear hK K
        try simp only [Act.put, List.setIfInBounds_toArray, List.set_cons_zero, List.set_cons_succ]
        refine stepK (i := 6) (L := #[true, true, true, true, true, true, true, false, true, false]) rfl (by rfl) (by kernel_rfl) (by rfl) (fun K hK => ?_)
        go_simp
        go_at_call 21
        refine (In_any w32 t b.m b.e A2 n2 c2 (h2.more (Nat.zero_le _) (by omega)) hn2 KX kb (by omega) y HY.out KX rfl).mono ?_
        rintro e' w34 ⟨P2, i2, d2, rfl, lc2, ln2, hB, IN2⟩
        have lw34 : w32.heap.size ≤ w34.heap.size := hB.size
        replace h1 := h1.below hB (by omega)
        replace h2 := h2.below hB (by omega)
        replace IN1 := IN1.below hB (by omega)
        replace D1 := (hB.block _ (by omega)).trans D1
        replace D2 := (hB.block _ (by omega)).trans D2
        replace D4 := (hB.block _ (by omega)).trans D4
        have c35 := c33.trans (hB.mono (by omega))
        clear hB
        refine hK _ _ ⟨fun _ _ p hp => c35.block p hp, ?_⟩
        clear hK K
        try simp only [Act.put, List.setIfInBounds_toArray, List.set_cons_zero, List.set_cons_succ]
        refine stepK (i := 7) (L := #[true, true, true, true, true, true, true, true, true, false]) rfl (by rfl) (by kernel_rfl) (by rfl) (fun K hK => ?_)
        go_simp
        go_at_call 20
        refine (rPlus_any w34 a.neg t x y P1 i1 d1 P2 i2 d2 (IN1.more (Nat.zero_le _) (by omega)) (IN2.more (Nat.zero_le _) (by omega)) ln1 ln2 s v HP.out).mono ?_
        rintro e' w36 ⟨P3, i3, d3, rfl, lc3, hB, IN3⟩
        have lw36 : w34.heap.size ≤ w36.heap.size := hB.size
        replace h1 := h1.below hB (by omega)
        replace h2 := h2.below hB (by omega)
        replace IN1 := IN1.below hB (by omega)
        replace IN2 := IN2.below hB (by omega)
        replace D1 := (hB.block _ (by omega)).trans D1
        replace D2 := (hB.block _ (by omega)).trans D2
        replace D4 := (hB.block _ (by omega)).trans D4
        have c37 := c35.trans (hB.mono (by omega))
        clear hB
        refine hK _ _ ⟨fun _ _ p hp => c37.block p hp, ?_⟩
        clear hK K
        try simp only [Act.put, List.setIfInBounds_toArray, List.set_cons_zero, List.set_cons_succ]
        refine stepK (i := 9) (L := #[true, true, true, true, true, true, true, true, true, true]) rfl (by rfl) (by kernel_rfl) (by rfl) (fun K hK => ?_)
        go_simp
        have p1 := cell_of_row _ _ 0 _ _ _ D4
        have p2 := cell_of_row _ _ 1 _ _ _ D4
        have p3 := frozen_of_row _ _ 0 _ _ D4
        have p4 := frozen_of_row _ _ 1 _ _ D4
        go_simp
        refine hK _ _ ⟨fun h => absurd h (by decide), ?_⟩
        clear hK K
        try simp only [Act.put, List.setIfInBounds_toArray, List.set_cons_zero, List.set_cons_succ]
        refine doneE (by kernel_rfl) ?_ _
        clear p1 p2 p3 p4
        have q4 : ((w36.setCell ⟨w7.heap.size, 0, none⟩ (.bool s)).setCell ⟨w7.heap.size, 1, none⟩ (.slice P3 i3 d3)).heap[w7.heap.size]? = some (.cells #[.bool s, .slice P3 i3 d3] 49 (0, 0)) := by simp [World.setCell, Array.getElem?_modify, D4]
        have d7 : Below w4.heap.size w4 ((w36.setCell ⟨w7.heap.size, 0, none⟩ (.bool s)).setCell ⟨w7.heap.size, 1, none⟩ (.slice P3 i3 d3)) := (c37.setCell (show w4.heap.size ≤ w7.heap.size by omega) _).setCell (show w4.heap.size ≤ w7.heap.size by omega) _
        have J4 := ints_far (ints_far IN3 (p := ⟨w7.heap.size, 0, none⟩) (by simp only; omega) (.bool s)) (p := ⟨w7.heap.size, 1, none⟩) (by simp only; omega) (.slice P3 i3 d3)
        have s7 : w36.heap.size ≤ ((w36.setCell ⟨w7.heap.size, 0, none⟩ (.bool s)).setCell ⟨w7.heap.size, 1, none⟩ (.slice P3 i3 d3)).heap.size := by simp [World.setCell]
        generalize hw : (w36.setCell ⟨w7.heap.size, 0, none⟩ (.bool s)).setCell ⟨w7.heap.size, 1, none⟩ (.slice P3 i3 d3) = w38 at *
        try clear hw
        have e8 := c5.trans (d7.mono (by omega))
        have k1 := cell_of_row w38 _ 0 _ _ _ q4
        have k2 := cell_of_row w38 _ 1 _ _ _ q4
        go_wp2_with fail
        refine (Cut_any w38 _ _ P3 i3 d3 _ J4 dig2 lc3).mono ?_
        rintro e' w' ⟨⟨m, rfl, hm, hI⟩, rfl⟩
        have hml : Hid (m = 0 ↔ v = 0) := Lib.hid (by
          have hl := hI.len
          rw [num2] at hl
          constructor
          · intro e
            rw [e] at hl
            exact canon_zero_iff.1 (List.eq_nil_of_length_eq_zero hl)
          · intro e
            rw [canon_zero_iff.2 e] at hl
            exact hl.symm)
        by_cases h0 : m = 0
        · have hz : z = 0 := by rw [HZ.out, if_pos (hml.out.1 h0)]
          subst hz h0
          go_wp2
          go_ret2
          exact ⟨rfl, e8⟩
        · have hv : ¬ v = 0 := fun e => h0 (hml.out.2 e)
          cases s
          · have hz : z = 1 := by rw [HZ.out, if_neg hv]; rfl
            subst hz
            go_wp2
            go_ret2
            exact ⟨rfl, e8⟩
          · have hz : z = -1 := by rw [HZ.out, if_neg hv]; rfl
            subst hz
            go_wp2
            go_ret2
            exact ⟨rfl, e8⟩
    case o8_3 =>
      
      go_simp
      have hB := (Below.refl w6.heap.size w6).alloc (Nat.le_refl _) (.cells #[.bool false, .slice none 0 0] 49)
      have D4 := heap_alloc_last w6 (.cells #[.bool false, .slice none 0 0] 49)
      have mw39 : w6.heap.size < (w6.alloc (.cells #[.bool false, .slice none 0 0] 49)).heap.size := by simp
      generalize hw : w6.alloc (.cells #[.bool false, .slice none 0 0] 49) = w39 at *
      have lw39 : w6.heap.size ≤ w39.heap.size := hB.size
      replace h1 := h1.below hB (by omega)
      replace h2 := h2.below hB (by omega)
      replace D1 := (hB.block _ (by omega)).trans D1
      replace D2 := (hB.block _ (by omega)).trans D2
      have c40 := hB0.trans (hB.mono (by omega))
      clear hB
      try clear hw
      refine hK _ _ ⟨fun _ _ p hp => c40.block p hp, ?_⟩
      clear hK K
      try simp only [Act.put, List.setIfInBounds_toArray, List.set_cons_zero, List.set_cons_succ]
      refine stepK (i := 2) (L := #[true, true, true, true, false, true, false, false, true, false]) rfl (by rfl) (by kernel_rfl) (by rfl) (fun K hK => ?_)
      go_simp
      go_at_call 21
      refine (In_any w39 a.neg a.m a.e A1 n1 c1 (h1.more (Nat.zero_le _) (by omega)) hn1 KX ka (by omega) x HX.out KX rfl).mono ?_
      rintro e' w41 ⟨P1, i1, d1, rfl, lc1, ln1, hB, IN1⟩
      have lw41 : w39.heap.size ≤ w41.heap.size := hB.size
      replace h1 := h1.below hB (by omega)
      replace h2 := h2.below hB (by omega)
      replace D1 := (hB.block _ (by omega)).trans D1
      replace D2 := (hB.block _ (by omega)).trans D2
      replace D4 := (hB.block _ (by omega)).trans D4
      have c42 := c40.trans (hB.mono (by omega))
      clear hB
      refine hK _ _ ⟨fun _ _ p hp => c42.block p hp, ?_⟩
      clear hK K
      try simp only [Act.put, List.setIfInBounds_toArray, List.set_cons_zero, List.set_cons_succ]
      refine stepK (i := 4) (L := #[true, true, true, true, true, true, false, false, true, false]) rfl (by rfl) (by kernel_rfl) (by rfl) (fun K hK => ?_)
      go_simp
      go_at_call 22
      refine (rMinus_any w41 b.neg A2 n2 c2 b.e t HT.out).mono ?_
      rintro e' w43 ⟨rfl, hB⟩
      have lw43 : w41.heap.size ≤ w43.heap.size := hB.size
      replace h1 := h1.below hB (by omega)
      replace h2 := h2.below hB (by omega)
      replace IN1 := IN1.below hB (by omega)
      replace D1 := (hB.block _ (by omega)).trans D1
      replace D2 := (hB.block _ (by omega)).trans D2
      replace D4 := (hB.block _ (by omega)).trans D4
      have c44 := c42.trans (hB.mono (by omega))
      clear hB
      refine hK _ _ ⟨fun _ _ p hp => c44.block p hp, ?_⟩
      clear hK K
      try simp only [Act.put, List.setIfInBounds_toArray, List.set_cons_zero, List.set_cons_succ]
      refine stepK (i := 6) (L := #[true, true, true, true, true, true, true, false, true, false]) rfl (by rfl) (by kernel_rfl) (by rfl) (fun K hK => ?_)
      go_simp
      go_at_call 21
      refine (In_any w43 t b.m b.e A2 n2 c2 (h2.more (Nat.zero_le _) (by omega)) hn2 KX kb (by omega) y HY.out KX rfl).mono ?_
      rintro e' w45 ⟨P2, i2, d2, rfl, lc2, ln2, hB, IN2⟩
      have lw45 : w43.heap.size ≤ w45.heap.size := hB.size
      replace h1 := h1.below hB (by omega)
      replace h2 := h2.below hB (by omega)
      replace IN1 := IN1.below hB (by omega)
      replace D1 := (hB.block _ (by omega)).trans D1
      replace D2 := (hB.block _ (by omega)).trans D2
      replace D4 := (hB.block _ (by omega)).trans D4
      have c46 := c44.trans (hB.mono (by omega))
      clear hB
      refine hK _ _ ⟨fun _ _ p hp => c46.block p hp, ?_⟩
      clear hK K
      try simp only [Act.put, List.setIfInBounds_toArray, List.set_cons_zero, List.set_cons_succ]
      refine stepK (i := 7) (L := #[true, true, true, true, true, true, true, true, true, false]) rfl (by rfl) (by kernel_rfl) (by rfl) (fun K hK => ?_)
      go_simp
      go_at_call 20
      refine (rPlus_any w45 a.neg t x y P1 i1 d1 P2 i2 d2 (IN1.more (Nat.zero_le _) (by omega)) (IN2.more (Nat.zero_le _) (by omega)) ln1 ln2 s v HP.out).mono ?_
      rintro e' w47 ⟨P3, i3, d3, rfl, lc3, hB, IN3⟩
      have lw47 : w45.heap.size ≤ w47.heap.size := hB.size
      replace h1 := h1.below hB (by omega)
      replace h2 := h2.below hB (by omega)
      replace IN1 := IN1.below hB (by omega)
      replace IN2 := IN2.below hB (by omega)
      replace D1 := (hB.block _ (by omega)).trans D1
      replace D2 := (hB.block _ (by omega)).trans D2
      replace D4 := (hB.block _ (by omega)).trans D4
      have c48 := c46.trans (hB.mono (by omega))
      clear hB
      refine hK _ _ ⟨fun _ _ p hp => c48.block p hp, ?_⟩
      clear hK K
      try simp only [Act.put, List.setIfInBounds_toArray, List.set_cons_zero, List.set_cons_succ]
      refine stepK (i := 9) (L := #[true, true, true, true, true, true, true, true, true, true]) rfl (by rfl) (by kernel_rfl) (by rfl) (fun K hK => ?_)
      go_simp
      have p1 := cell_of_row _ _ 0 _ _ _ D4
      have p2 := cell_of_row _ _ 1 _ _ _ D4
      have p3 := frozen_of_row _ _ 0 _ _ D4
      have p4 := frozen_of_row _ _ 1 _ _ D4
      go_simp
      refine hK _ _ ⟨fun h => absurd h (by decide), ?_⟩
      clear hK K
      try simp only [Act.put, List.setIfInBounds_toArray, List.set_cons_zero, List.set_cons_succ]
      refine doneE (by kernel_rfl) ?_ _
      clear p1 p2 p3 p4
      have q4 : ((w47.setCell ⟨w6.heap.size, 0, none⟩ (.bool s)).setCell ⟨w6.heap.size, 1, none⟩ (.slice P3 i3 d3)).heap[w6.heap.size]? = some (.cells #[.bool s, .slice P3 i3 d3] 49 (0, 0)) := by simp [World.setCell, Array.getElem?_modify, D4]
      have d7 : Below w4.heap.size w4 ((w47.setCell ⟨w6.heap.size, 0, none⟩ (.bool s)).setCell ⟨w6.heap.size, 1, none⟩ (.slice P3 i3 d3)) := (c48.setCell (show w4.heap.size ≤ w6.heap.size by omega) _).setCell (show w4.heap.size ≤ w6.heap.size by omega) _
      have J4 := ints_far (ints_far IN3 (p := ⟨w6.heap.size, 0, none⟩) (by simp only; omega) (.bool s)) (p := ⟨w6.heap.size, 1, none⟩) (by simp only; omega) (.slice P3 i3 d3)
      have s7 : w47.heap.size ≤ ((w47.setCell ⟨w6.heap.size, 0, none⟩ (.bool s)).setCell ⟨w6.heap.size, 1, none⟩ (.slice P3 i3 d3)).heap.size := by simp [World.setCell]
      generalize hw : (w47.setCell ⟨w6.heap.size, 0, none⟩ (.bool s)).setCell ⟨w6.heap.size, 1, none⟩ (.slice P3 i3 d3) = w49 at *
      try clear hw
      have e8 := c5.trans (d7.mono (by omega))
      have k1 := cell_of_row w49 _ 0 _ _ _ q4
      have k2 := cell_of_row w49 _ 1 _ _ _ q4
      go_wp2_with fail
      refine (Cut_any w49 _ _ P3 i3 d3 _ J4 dig2 lc3).mono ?_
      rintro e' w' ⟨⟨m, rfl, hm, hI⟩, rfl⟩
      have hml : Hid (m = 0 ↔ v = 0) := Lib.hid (by
        have hl := hI.len
        rw [num2] at hl
        constructor
        · intro e
          rw [e] at hl
          exact canon_zero_iff.1 (List.eq_nil_of_length_eq_zero hl)
        · intro e
          rw [canon_zero_iff.2 e] at hl
          exact hl.symm)
      by_cases h0 : m = 0
      · have hz : z = 0 := by rw [HZ.out, if_pos (hml.out.1 h0)]
        subst hz h0
        go_wp2
        go_ret2
        exact ⟨rfl, e8⟩
      · have hv : ¬ v = 0 := fun e => h0 (hml.out.2 e)
        cases s
        · have hz : z = 1 := by rw [HZ.out, if_neg hv]; rfl
          subst hz
          go_wp2
          go_ret2
          exact ⟨rfl, e8⟩
        · have hz : z = -1 := by rw [HZ.out, if_neg hv]; rfl
          subst hz
          go_wp2
          go_ret2
          exact ⟨rfl, e8⟩
end Dy
end Go.Proofs.Ytlbkepiflhchdaa
namespace Go.Proofs.Ytlbkepiflhchdaa
open Go.RowKit
namespace Dy
open Dp
theorem all_range (xs ys : List Int) : ∀ (n : Nat), xs.length = n → ys.length = n → ((List.range n).all fun i => xs.getD i 0 == ys.getD i 0) = (xs == ys)
  | n, hx, hy => by
    subst hx
    revert ys
    induction xs with
    | nil => intro ys hy; have : ys = [] := List.eq_nil_of_length_eq_zero hy; subst this; rfl
    | cons x xs ih =>
      intro ys hy
      cases ys with
      | nil => simp at hy
      | cons y ys =>
        have h := ih ys (by simpa using hy)
        rw [List.length_cons, List.range_succ_eq_map, List.all_cons, List.all_map]
        simp only [List.getD_cons_zero, Function.comp_def, List.getD_cons_succ, h]
        simp [List.cons_beq_cons]
theorem run_equalIn_rows {P : Program} (w : World) (d : Nat) (t e : TypeId) (n : Nat) (ht : P.underlying t = some (.array n e)) (he : P.underlying e = some (.int .u32)) (hsz : ∀ w, (sizeOf e).run P w = .ok 1 w)
    (xs ys : List Int) (hx : xs.length = n) (hy : ys.length = n) :
    (Op.equalIn (d + 2) t (.agg (rowU xs)) (.agg (rowU ys))).run P w = .ok (xs == ys) w := by
  rw [← all_range xs ys n hx hy, List.range_eq_range', Op.equalIn]
  simp only [Sem.run_bind, run_underlying ht, Result.andThen_ok, hsz, Std.Legacy.Range.forIn_eq_forIn_range', Std.Legacy.Range.size, Nat.sub_zero, Nat.add_sub_cancel, Nat.div_one]
  have hl : ∀ i ∈ List.range' 0 n 1, i < n := fun i hi => by simpa using (List.mem_range'_1.1 hi).2
  generalize List.range' 0 n 1 = l at hl ⊢
  induction l with
  | nil => simp
  | cons i l ih =>
    have hi : i < n := hl i (by simp)
    have px : (Go.part e (rowU xs) (i * 1)).run P w = .ok (.int .u32 (xs.getD i 0)) w := by
      simp [Go.part, isAgg, run_underlying he, rowU, List.getD, List.getElem?_eq_getElem (show i < xs.length by omega)]
    have py : (Go.part e (rowU ys) (i * 1)).run P w = .ok (.int .u32 (ys.getD i 0)) w := by
      simp [Go.part, isAgg, run_underlying he, rowU, List.getD, List.getElem?_eq_getElem (show i < ys.length by omega)]
    have pe : (Op.equalIn (d + 1) e (.int .u32 (xs.getD i 0)) (.int .u32 (ys.getD i 0))).run P w = .ok (xs.getD i 0 == ys.getD i 0) w :=
      run_equalIn_int w d e .u32 .u32 _ _ he
    simp only [List.forIn_cons, Sem.run_bind, px, py, pe, Result.andThen_ok, List.all_cons]
    cases hb : (xs.getD i 0 == ys.getD i 0)
    · simp
    · simp only [Bool.not_true, Bool.false_eq_true, if_false, Sem.run_pure, Result.andThen_ok, Bool.true_and]
      exact ih fun j hj => hl j (by simp [hj])
theorem rows_zero {vs : List Int} (hl : vs.length = 74) (hd : Dig 4294967296 vs) : (vs == zero74) = decide (num 4294967296 vs = 0) := by
  have hz : num 4294967296 zero74 = 0 := num_zeros _ _
  have hzd : Dig 4294967296 zero74 := dig_zeros 74
  by_cases h : num 4294967296 vs = 0
  · have he : vs = zero74 := by
      apply List.ext_getElem
      · rw [hl]; simp [zero74]
      · intro j h1 h2
        have k1 := digit (by decide) hd j
        have k2 := digit (by decide) hzd j
        rw [h] at k1
        rw [hz] at k2
        rw [List.getElem?_eq_getElem h1] at k1
        rw [List.getElem?_eq_getElem h2] at k2
        simp only [Option.getD_some] at k1 k2
        rw [k1, k2]
    simp [he, hz]
  · have he : vs ≠ zero74 := fun e => h (by rw [e]; exact hz)
    simp [h, he]
theorem eql_zero (w : World) (vs : List Int) (hl : vs.length = 74) (hd : Dig 4294967296 vs) (r : Bool) (hr : decide (num 4294967296 vs = 0) = r) :
    (Op.equalIn 10000 43 (.agg (rowU vs)) (.agg (rowU zero74))).run Try.prog w = .ok r w := by
  rw [← hr, ← rows_zero hl hd]
  exact run_equalIn_rows w 9998 43 41 74 Try.underlying43 Try.underlying41 (fun w => by kernel_rfl) vs zero74 hl (by simp [zero74])
theorem built_wide : Try.prog.built 43 [] = some (rowU zero74) := by
  have h1 := Try.info43
  have h2 := infoU32
  unfold Program.built
  cases hi : Try.prog.info? 43 with
  | none => rw [hi] at h1; cases h1
  | some it =>
    cases hj : Try.prog.info? 41 with
    | none => rw [hj] at h2; cases h2
    | some ie =>
      rw [hi] at h1
      simp only [Option.map_some, Option.some.injEq, Prod.mk.injEq] at h1
      rw [Try.underlying43]
      simp only [h1.1, hj]
      rfl
theorem wpList_build0 {ops : Array Oper} {rest : List Oper} {o : Oper} {a : Act} {w : World} {Q : Exit → Act → World → Prop} (hg : o.guard = none) (ho : o.op = .build 43 #[])
    (h : wpList Try.prog ops Q rest (a.put o.dst (.agg (rowU zero74))) w) : wpList Try.prog ops Q (o :: rest) a w := by
  have e : ((#[] : Array (Nat × Operand)).map fun (i, x) => (i, a.eval x)).toList = [] := by simp
  refine wpList_build hg 43 #[] ho (by rw [e, built_wide]; rfl) ?_
  rw [e, built_wide]
  exact h
end Dy
end Go.Proofs.Ytlbkepiflhchdaa
namespace Go.Proofs.Ytlbkepiflhchdaa
open Go.RowKit
namespace Dy
open Dp
set_option maxHeartbeats 1600000 in
set_option maxRecDepth 100000 in
/-- dyad.Cmp: dyads that may not be. -/
theorem Cmp_bad (w : World) (s1 s2 : Bool) (A1 A2 : Option Addr) (n1 c1 n2 c2 : Nat) (xs1 xs2 : List Int) (e1 e2 : Int) (h1 : Ints w 0 w.heap.size .u32 A1 n1 xs1) (h2 : Ints w 0 w.heap.size .u32 A2 n2 xs2) (h : ¬ MayD s1 xs1 e1 ∨ ¬ MayD s2 xs2 e2) :
    Calls Try.prog 6 #[.agg #[.bool s1, .slice A1 n1 c1, .int .i64 e1], .agg #[.bool s2, .slice A2 n2 c2, .int .i64 e2]] w fun e w' => e = .returned (.tuple #[.int .i64 0, .int .i64 8]) ∧ Below w.heap.size w w' := by
  generalize hw1 : (w.alloc (.cells #[.bool s1, .slice A1 n1 c1, .int .i64 e1] 24)).alloc (.cells #[.bool s2, .slice A2 n2 c2, .int .i64 e2] 24) = w1
  have hs1 : w1.heap.size = w.heap.size + 2 := by rw [← hw1]; simp
  have HS1 := Lib.hid hs1
  have hB1 : Below w.heap.size w w1 := by rw [← hw1]; exact ((Below.refl _ w).alloc (Nat.le_refl _) _).alloc (by simp) _
  have hb1 : w1.heap[w.heap.size]? = some (.cells #[.bool s1, .slice A1 n1 c1, .int .i64 e1] 24 (0, 0)) := by
    rw [← hw1, Below.heap_alloc _ _ _ (by simp)]
    exact heap_alloc_last _ _
  have hb2 : w1.heap[w.heap.size + 1]? = some (.cells #[.bool s2, .slice A2 n2 c2, .int .i64 e2] 24 (0, 0)) := by
    rw [← hw1]
    exact heap_alloc2_new _ _ _
  have g1 := h1.below hB1 (Nat.le_refl _)
  have g2 := h2.below hB1 (Nat.le_refl _)
  clear hs1
  obtain ⟨⟨p0, p1, p2⟩, p3, p4, p5⟩ := boxD hb1
  obtain ⟨⟨q0, q1, q2⟩, q3, q4, q5⟩ := boxD hb2
  by_cases hm : MayD s1 xs1 e1
  · have hm2 := h.resolve_left (fun k => k hm)
    clear h
    go_enter Try.func6, Try.ntmps6
    go_wp2_with fail
    refine (Check_ok w1 0 w.heap.size s1 A1 n1 c1 xs1 e1 g1 (by have := HS1.out; omega) hm).mono ?_
    rintro e w2 ⟨rfl, hB2⟩
    have hs2 := hB2.size
    replace g2 := g2.below hB2 (by have := HS1.out; omega)
    replace hb2 := (hB2.block _ (by have := HS1.out; omega)).trans hb2
    replace hB1 := hB1.trans (hB2.mono (by have := HS1.out; omega))
    clear hB2 p0 p1 p2 p3 p4 p5 q0 q1 q2 q3 q4 q5 hw1 hm
    obtain ⟨⟨q0, q1, q2⟩, q3, q4, q5⟩ := boxD hb2
    go_wp2_with fail
    refine (Check_bad w2 0 w.heap.size s2 A2 n2 c2 xs2 e2 g2 (by have := HS1.out; omega) hm2).mono ?_
    rintro e w3 ⟨rfl, hB2⟩
    replace hB1 := hB1.trans (hB2.mono (by have := HS1.out; omega))
    clear hB2 q0 q1 q2 q3 q4 q5 hm2
    go_wp2
    go_ret2
    exact ⟨rfl, hB1⟩
  · clear h
    go_enter Try.func6, Try.ntmps6
    go_wp2_with fail
    refine (Check_bad w1 0 w.heap.size s1 A1 n1 c1 xs1 e1 g1 (by have := HS1.out; omega) hm).mono ?_
    rintro e w2 ⟨rfl, hB2⟩
    replace hB1 := hB1.trans (hB2.mono (by have := HS1.out; omega))
    clear hB2 p0 p1 p2 p3 p4 p5 q0 q1 q2 q3 q4 q5 hw1 hm
    go_wp2
    go_ret2
    exact ⟨rfl, hB1⟩
open Classical in
noncomputable def cmpX (s1 : Bool) (xs1 : List Int) (e1 : Int) (s2 : Bool) (xs2 : List Int) (e2 : Int) : Int × Int := if MayD s1 xs1 e1 ∧ MayD s2 xs2 e2 then (cmpD (dn s1 xs1 e1) (dn s2 xs2 e2), 0) else (0, 8)
end Dy
end Go.Proofs.Ytlbkepiflhchdaa
namespace Go.Proofs.Ytlbkepiflhchdaa
open Go.RowKit
namespace Dy
open Dp
set_option maxHeartbeats 1600000 in
set_option maxRecDepth 100000 in
/-- headcountref02.Cmp: dyads that may not be. -/
theorem rCmp_bad (w : World) (s1 s2 : Bool) (A1 A2 : Option Addr) (n1 c1 n2 c2 : Nat) (xs1 xs2 : List Int) (e1 e2 : Int) (h1 : Ints w 0 w.heap.size .u32 A1 n1 xs1) (h2 : Ints w 0 w.heap.size .u32 A2 n2 xs2) (h : ¬ MayD s1 xs1 e1 ∨ ¬ MayD s2 xs2 e2) :
    Calls Try.prog 7 #[.agg #[.bool s1, .slice A1 n1 c1, .int .i64 e1], .agg #[.bool s2, .slice A2 n2 c2, .int .i64 e2]] w fun e w' => e = .returned (.tuple #[.int .i64 0, .int .i64 8]) ∧ Below w.heap.size w w' := by
  generalize hw1 : (w.alloc (.cells #[.bool s1, .slice A1 n1 c1, .int .i64 e1] 24)).alloc (.cells #[.bool s2, .slice A2 n2 c2, .int .i64 e2] 24) = w1
  have hs1 : w1.heap.size = w.heap.size + 2 := by rw [← hw1]; simp
  have HS1 := Lib.hid hs1
  have hB1 : Below w.heap.size w w1 := by rw [← hw1]; exact ((Below.refl _ w).alloc (Nat.le_refl _) _).alloc (by simp) _
  have hb1 : w1.heap[w.heap.size]? = some (.cells #[.bool s1, .slice A1 n1 c1, .int .i64 e1] 24 (0, 0)) := by
    rw [← hw1, Below.heap_alloc _ _ _ (by simp)]
    exact heap_alloc_last _ _
  have hb2 : w1.heap[w.heap.size + 1]? = some (.cells #[.bool s2, .slice A2 n2 c2, .int .i64 e2] 24 (0, 0)) := by
    rw [← hw1]
    exact heap_alloc2_new _ _ _
  have g1 := h1.below hB1 (Nat.le_refl _)
  have g2 := h2.below hB1 (Nat.le_refl _)
  clear hs1
  obtain ⟨⟨p0, p1, p2⟩, p3, p4, p5⟩ := boxD hb1
  obtain ⟨⟨q0, q1, q2⟩, q3, q4, q5⟩ := boxD hb2
  by_cases hm : MayD s1 xs1 e1
  · have hm2 := h.resolve_left (fun k => k hm)
    clear h
    go_enter Try.func7, Try.ntmps7
    go_wp2_with fail
    refine (rMay_ok w1 0 w.heap.size s1 A1 n1 c1 xs1 e1 g1 (by have := HS1.out; omega) hm).mono ?_
    rintro e w2 ⟨rfl, hB2⟩
    have hs2 := hB2.size
    replace g2 := g2.below hB2 (by have := HS1.out; omega)
    replace hb2 := (hB2.block _ (by have := HS1.out; omega)).trans hb2
    replace hB1 := hB1.trans (hB2.mono (by have := HS1.out; omega))
    clear hB2 p0 p1 p2 p3 p4 p5 q0 q1 q2 q3 q4 q5 hw1 hm
    obtain ⟨⟨q0, q1, q2⟩, q3, q4, q5⟩ := boxD hb2
    go_wp2_with fail
    refine (rMay_bad w2 0 w.heap.size s2 A2 n2 c2 xs2 e2 g2 (by have := HS1.out; omega) hm2).mono ?_
    rintro e w3 ⟨rfl, hB2⟩
    replace hB1 := hB1.trans (hB2.mono (by have := HS1.out; omega))
    clear hB2 q0 q1 q2 q3 q4 q5 hm2
    go_wp2
    go_ret2
    exact ⟨rfl, hB1⟩
  · clear h
    go_enter Try.func7, Try.ntmps7
    go_wp2_with fail
    refine (rMay_bad w1 0 w.heap.size s1 A1 n1 c1 xs1 e1 g1 (by have := HS1.out; omega) hm).mono ?_
    rintro e w2 ⟨rfl, hB2⟩
    replace hB1 := hB1.trans (hB2.mono (by have := HS1.out; omega))
    clear hB2 p0 p1 p2 p3 p4 p5 q0 q1 q2 q3 q4 q5 hw1 hm
    go_wp2
    go_ret2
    exact ⟨rfl, hB1⟩
theorem rCmp_all (w : World) (s1 s2 : Bool) (A1 A2 : Option Addr) (n1 c1 n2 c2 : Nat) (xs1 xs2 : List Int) (e1 e2 : Int) (h1 : Ints w 0 w.heap.size .u32 A1 n1 xs1) (h2 : Ints w 0 w.heap.size .u32 A2 n2 xs2) (z code : Int) (h : cmpX s1 xs1 e1 s2 xs2 e2 = (z, code)) :
    Calls Try.prog 7 #[.agg #[.bool s1, .slice A1 n1 c1, .int .i64 e1], .agg #[.bool s2, .slice A2 n2 c2, .int .i64 e2]] w fun e w' => e = .returned (.tuple #[.int .i64 z, .int .i64 code]) ∧ Below w.heap.size w w' := by
  unfold cmpX at h
  split at h
  · rename_i hm
    injection h with h3 h4
    subst h4
    obtain ⟨y1, c1', k1⟩ := dn_ok (dig_ints h1) hm.1
    obtain ⟨y2, c2', k2⟩ := dn_ok (dig_ints h2) hm.2
    have := rCmp_dn w (dn s1 xs1 e1) (dn s2 xs2 e2) y1 y2 A1 A2 n1 c1 n2 c2 (by rw [c1']; exact h1) (by rw [c2']; exact h2) z h3
    rw [k1, k2] at this
    exact this
  · rename_i hm
    injection h with h3 h4
    subst h3 h4
    exact rCmp_bad w s1 s2 A1 A2 n1 c1 n2 c2 xs1 xs2 e1 e2 h1 h2 (Classical.not_and_iff_not_or_not.1 hm)
set_option maxHeartbeats 1600000 in
set_option maxRecDepth 100000 in
/-- headcountref02.Check. -/
theorem rCheck_all (w : World) (s1 : Bool) (A1 : Option Addr) (n1 c1 : Nat) (xs1 : List Int) (e1 : Int) (h1 : Ints w 0 w.heap.size .u32 A1 n1 xs1) (k : Int) (h : chkX s1 xs1 e1 = k) :
    Calls Try.prog 10 #[.agg #[.bool s1, .slice A1 n1 c1, .int .i64 e1]] w fun e w' => e = .returned (.int .i64 k) ∧ Below w.heap.size w w' := by
  generalize hw : w.alloc (.cells #[.bool s1, .slice A1 n1 c1, .int .i64 e1] 24) = w1
  have hX : w1.heap[w.heap.size]? = some (.cells #[.bool s1, .slice A1 n1 c1, .int .i64 e1] 24 (0, 0)) := by rw [← hw]; exact heap_alloc_last _ _
  have hb : Below w.heap.size w w1 := by rw [← hw]; exact (Below.refl _ w).alloc (Nat.le_refl _) _
  have l1 : w.heap.size < w1.heap.size := by rw [← hw]; simp
  have g1 := h1.below hb (Nat.le_refl _)
  obtain ⟨⟨p0, p1, p2⟩, p3, p4, p5⟩ := boxD hX
  unfold chkX at h
  by_cases hm : MayD s1 xs1 e1
  · rw [if_pos hm] at h
    subst h
    go_enter Try.func10, Try.ntmps10
    go_wp2_with fail
    try clear hw
    refine (rMay_ok w1 0 w.heap.size s1 A1 n1 c1 xs1 e1 g1 (by omega) hm).mono ?_
    rintro e w2 ⟨rfl, hB⟩
    have hb2 := hb.trans (hB.mono (by omega))
    clear hB p0 p1 p2 p3 p4 p5
    go_wp2
    go_ret
    exact ⟨rfl, hb2⟩
  · rw [if_neg hm] at h
    subst h
    go_enter Try.func10, Try.ntmps10
    go_wp2_with fail
    try clear hw
    refine (rMay_bad w1 0 w.heap.size s1 A1 n1 c1 xs1 e1 g1 (by omega) hm).mono ?_
    rintro e w2 ⟨rfl, hB⟩
    have hb2 := hb.trans (hB.mono (by omega))
    clear hB p0 p1 p2 p3 p4 p5
    go_wp2
    go_ret
    exact ⟨rfl, hb2⟩
end Dy
end Go.Proofs.Ytlbkepiflhchdaa
namespace Go.Proofs.Ytlbkepiflhchdaa
open Go.RowKit
namespace Dy
open Dp
set_option maxHeartbeats 6400000 in
set_option maxRecDepth 100000 in
/-- dyad.Cmp: dyads that may be. -/
theorem Cmp_okP (w : World) (a b : Dn) (ha : a.May) (hb : b.May) (A1 : Option Addr) (n1 c1 : Nat) (h1 : Ints w 0 w.heap.size .u32 A1 n1 (canon 4294967296 a.m)) (A2 : Option Addr) (n2 c2 : Nat) (h2 : Ints w 0 w.heap.size .u32 A2 n2 (canon 4294967296 b.m)) (z : Int) (h : cmpD a b = z) :
    Calls Try.prog 6 #[.agg #[.bool a.neg, .slice A1 n1 c1, .int .i64 a.e], .agg #[.bool b.neg, .slice A2 n2 c2, .int .i64 b.e]] w fun e w' => e = .returned (.tuple #[.int .i64 z, .int .i64 0]) ∧ Below w.heap.size w w' := by
  have hn1 := ints_may h1 ha
  have hn2 := ints_may h2 hb
  have HM1 := Lib.hid (dn_may ha)
  have HM2 := Lib.hid (dn_may hb)
  have hae := ha.2.1
  have hbe := hb.2.1
  obtain ⟨sd1, _, sn1⟩ := canon_spec 4294967296 a.m (by decide)
  obtain ⟨sd2, _, sn2⟩ := canon_spec 4294967296 b.m (by decide)
  have SN1 := Lib.hid sn1
  have SN2 := Lib.hid sn2
  have H := Lib.hid h
  obtain ⟨M, hK⟩ : ∃ M, max a.e b.e = M := ⟨_, rfl⟩
  have HK := Lib.hid hK
  have hK1 : a.e ≤ M := by omega
  have hK2 : b.e ≤ M := by omega
  have hK3 : M ≤ 1024 := by omega
  have hkab : (a.e < b.e ∧ M = b.e) ∨ (¬ a.e < b.e ∧ M = a.e) := by omega
  generalize hm1 : canon 4294967296 a.m = xs1 at *
  generalize hm2 : canon 4294967296 b.m = xs2 at *
  clear h sn1 sn2 hK hm1 hm2
  generalize hw1 : (w.alloc (.cells #[.bool a.neg, .slice A1 n1 c1, .int .i64 a.e] 24)).alloc (.cells #[.bool b.neg, .slice A2 n2 c2, .int .i64 b.e] 24) = w1
  have hs1 : w1.heap.size = w.heap.size + 2 := by rw [← hw1]; simp
  have HS1 := Lib.hid hs1
  have hB1 : Below w.heap.size w w1 := by rw [← hw1]; exact ((Below.refl _ w).alloc (Nat.le_refl _) _).alloc (by simp) _
  have hb1 : w1.heap[w.heap.size]? = some (.cells #[.bool a.neg, .slice A1 n1 c1, .int .i64 a.e] 24 (0, 0)) := by
    rw [← hw1, Below.heap_alloc _ _ _ (by simp)]
    exact heap_alloc_last _ _
  have hb2 : w1.heap[w.heap.size + 1]? = some (.cells #[.bool b.neg, .slice A2 n2 c2, .int .i64 b.e] 24 (0, 0)) := by
    rw [← hw1]
    exact heap_alloc2_new _ _ _
  have g1 := h1.below hB1 (Nat.le_refl _)
  have g2 := h2.below hB1 (Nat.le_refl _)
  clear hs1
  obtain ⟨⟨p0, p1, p2⟩, p3, p4, p5⟩ := boxD hb1
  obtain ⟨⟨q0, q1, q2⟩, q3, q4, q5⟩ := boxD hb2
  go_enter Try.func6, Try.ntmps6
  go_wp2_with fail
  refine (Check_ok w1 0 w.heap.size a.neg A1 n1 c1 xs1 a.e g1 (by have := HS1.out; omega) HM1.out).mono ?_
  rintro e w2 ⟨rfl, hB2⟩
  have hs2 := hB2.size
  replace g1 := g1.below hB2 (by have := HS1.out; omega)
  replace g2 := g2.below hB2 (by have := HS1.out; omega)
  replace hb1 := (hB2.block _ (by have := HS1.out; omega)).trans hb1
  replace hb2 := (hB2.block _ (by have := HS1.out; omega)).trans hb2
  replace hB1 := hB1.trans (hB2.mono (by have := HS1.out; omega))
  clear hB2 p0 p1 p2 p3 p4 p5 q0 q1 q2 q3 q4 q5 hw1
  obtain ⟨⟨p0, p1, p2⟩, p3, p4, p5⟩ := boxD hb1
  obtain ⟨⟨q0, q1, q2⟩, q3, q4, q5⟩ := boxD hb2
  go_wp2_with fail
  refine (Check_ok w2 0 w.heap.size b.neg A2 n2 c2 xs2 b.e g2 (by have := HS1.out; omega) HM2.out).mono ?_
  rintro e w3 ⟨rfl, hB2⟩
  have hs3 := hB2.size
  replace g1 := g1.below hB2 (by have := HS1.out; omega)
  replace g2 := g2.below hB2 (by have := HS1.out; omega)
  replace hb1 := (hB2.block _ (by have := HS1.out; omega)).trans hb1
  replace hb2 := (hB2.block _ (by have := HS1.out; omega)).trans hb2
  replace hB1 := hB1.trans (hB2.mono (by have := HS1.out; omega))
  clear hB2 p0 p1 p2 p3 p4 p5 q0 q1 q2 q3 q4 q5
  obtain ⟨⟨p0, p1, p2⟩, p3, p4, p5⟩ := boxD hb1
  obtain ⟨⟨q0, q1, q2⟩, q3, q4, q5⟩ := boxD hb2
  rcases hkab with ⟨hkl, hke⟩ | ⟨hkl, hke⟩
  · have HKE := Lib.hid hke
    clear hke
    go_wp2_with fail
    refine (of_any w3 0 w.heap.size a.neg A1 n1 c1 xs1 a.e (M - a.e) g1 (by have := HS1.out; omega) sd1 hn1 (by omega) (by omega) _ (by have := HKE.out; omega)).mono ?_
    rintro e w4 ⟨g, ws, rfl, hB4, hg1, hg2, hS4, hnw⟩
    have hs4 := hB4.size
    replace g1 := g1.below hB4 (by have := HS1.out; omega)
    replace g2 := g2.below hB4 (by have := HS1.out; omega)
    replace hb1 := (hB4.block _ (by have := HS1.out; omega)).trans hb1
    replace hb2 := (hB4.block _ (by have := HS1.out; omega)).trans hb2
    replace hB1 := hB1.trans (hB4.mono (by have := HS1.out; omega))
    have HNW := Lib.hid hnw
    clear hB4 p0 p1 p2 p3 p4 p5 q0 q1 q2 q3 q4 q5 hnw
    go_wp2_with fail
    have hSS : w4.drew.heap[w.heap.size + 1]? = w4.heap[w.heap.size + 1]? := rfl
    refine region_E (fun w' => w'.heap[w.heap.size + 1]? = w4.heap[w.heap.size + 1]?) [] (m := 8) (L := #[false, false, false, false, false, false, false, false]) (by kernel_rfl) (by rfl) (by rfl) ?_
    refine pureE (i := 0) (L := #[true, false, false, false, false, false, false, false]) (v := ?_) rfl (by rfl) (by kernel_rfl) (by kernel_rfl) (by kernel_rfl) (fun _ _ _ h => h) (by rfl) ?hy21 ?rest21
    case hy21 => intro w; go_simp; (try with_reducible rfl)
    try simp only [Act.put, List.setIfInBounds_toArray, List.set_cons_zero, List.set_cons_succ]
    refine pureE (i := 1) (L := #[true, true, false, false, false, false, false, false]) (v := ?_) rfl (by rfl) (by kernel_rfl) (by kernel_rfl) (by kernel_rfl) (fun _ _ _ h => h) (by rfl) ?hy22 ?rest22
    case hy22 => intro w; go_simp; (try with_reducible rfl)
    try simp only [Act.put, List.setIfInBounds_toArray, List.set_cons_zero, List.set_cons_succ]
    refine readE (i := 2) (L := #[true, true, true, false, false, false, false, false]) (v := .bool b.neg) rfl (by rfl) (by kernel_rfl) (by kernel_rfl) (by kernel_rfl) (fun _ _ _ h => h) (by assumption) (by rfl) ?hyA1 ?restA1
    case hyA1 =>
      intro w' h1
      have k := (boxD (h1.trans hb2)).1.1
      go_simp
    try simp only [Act.put, List.setIfInBounds_toArray, List.set_cons_zero, List.set_cons_succ]
    refine pureE (i := 3) (L := #[true, true, true, true, false, false, false, false]) (v := ?_) rfl (by rfl) (by kernel_rfl) (by kernel_rfl) (by kernel_rfl) (fun _ _ _ h => h) (by rfl) ?hy24 ?rest24
    case hy24 => intro w; go_simp; (try with_reducible rfl)
    try simp only [Act.put, List.setIfInBounds_toArray, List.set_cons_zero, List.set_cons_succ]
    refine readE (i := 4) (L := #[true, true, true, true, true, false, false, false]) (v := .agg #[.bool b.neg, .slice A2 n2 c2, .int .i64 b.e]) rfl (by rfl) (by kernel_rfl) (by kernel_rfl) (by kernel_rfl) (fun _ _ _ h => h) (by assumption) (by rfl) ?hyB1 ?restB1
    case hyB1 =>
      intro w' h1
      obtain ⟨⟨k1, k2, k3⟩, _⟩ := boxD (h1.trans hb2)
      go_simp
    try simp only [Act.put, List.setIfInBounds_toArray, List.set_cons_zero, List.set_cons_succ]
    refine pureE (i := 5) (L := #[true, true, true, true, true, true, false, false]) (v := ?_) rfl (by rfl) (by kernel_rfl) (by kernel_rfl) (by kernel_rfl) (fun _ _ _ h => h) (by rfl) ?hy26 ?rest26
    case hy26 => intro w; go_simp; (try with_reducible rfl)
    try simp only [Act.put, List.setIfInBounds_toArray, List.set_cons_zero, List.set_cons_succ]
    refine stepK (i := 6) (L := #[true, true, true, true, true, true, true, false]) rfl (by rfl) (by kernel_rfl) (by rfl) (fun K hK => ?_)
    go_simp
    go_at_call 18
    refine (widen_any w4.drew 0 w.heap.size b.neg A2 n2 c2 xs2 b.e (M - b.e) (g2.drewN 1) (by show w.heap.size ≤ w4.heap.size; have := HS1.out; omega) sd2 hn2 (by omega) (by omega) _ (by have := HKE.out; omega)).mono ?_
    rintro e w5 ⟨us, rfl, hB5', hul, hud, hnu⟩
    have hB5 : Below w4.heap.size w4 w5 := (Below.refl _ w4).drew.trans hB5'
    clear hB5'
    have hs5 := hB5.size
    replace g1 := g1.below hB5 (by have := HS1.out; omega)
    have hb2' := hB5.block (w.heap.size + 1) (by have := HS1.out; omega)
    replace hB1 := hB1.trans (hB5.mono (by have := HS1.out; omega))
    have hS5 := hS4.of_heap (hB5.block g hg2)
    have HNU := Lib.hid hnu
    clear hB5 hnu hS4
    refine hK _ _ ⟨fun _ _ => hb2', ?_⟩
    clear hK K
    try simp only [Act.put, List.setIfInBounds_toArray, List.set_cons_zero, List.set_cons_succ]
    obtain ⟨sr, mr, hpl⟩ : ∃ sr mr, plusS a.neg (num 4294967296 ws) (!b.neg) (num 4294967296 us) = (sr, mr) := ⟨_, _, rfl⟩
    have hroom : num 4294967296 ws + num 4294967296 us < 4294967296 ^ 74 := by
      rw [HNW.out, HNU.out, SN1.out, SN2.out]
      exact sum_room (shift_lt ha.1 (by omega)) (shift_lt hb.1 (by omega))
    have hcmp : z = if mr = 0 then 0 else if sr then -1 else 1 := by
      rw [← H.out]
      refine cmp_by a b (!b.neg) (fun _ => rfl) sr mr ?_
      rw [HK.out]
      rw [HNW.out, HNU.out, SN1.out, SN2.out] at hpl
      exact hpl
    have HPL := Lib.hid hpl
    have HR := Lib.hid hroom
    have HF := Lib.hid hcmp
    clear hpl hroom hcmp
    refine stepK (i := 7) (L := #[true, true, true, true, true, true, true, true]) rfl (by rfl) (by kernel_rfl) (by rfl) (fun K hK => ?_)
    go_simp
    go_at_call 17
    refine (add_any w5 g a.neg (!b.neg) _ _ ws us hS5 (by omega) hul hud HR.out sr mr HPL.out).mono ?_
    rintro e w6 ⟨rfl, hO6, vs, hS6, hnv⟩
    have hs6 := hO6.size
    replace g1 := g1
    have hB6 := hO6.below hB1 (by have := HS1.out; omega) (by have := HS1.out; omega)
    refine hK _ _ ⟨fun _ h => (hO6.block _ (by have := HS1.out; omega) (by have := HS1.out; omega)).trans h, ?_⟩
    clear hK K hO6 g1 hB1 hS5
    try simp only [Act.put, List.setIfInBounds_toArray, List.set_cons_zero, List.set_cons_succ]
    refine doneE (by kernel_rfl) ?_ _
    have hvl := hS6.len
    obtain ⟨⟨y0, y1, y2⟩, y3⟩ := And.intro hS6.head (hS6.free 0)
    by_cases hm0 : mr = 0
    · have hz0 : z = 0 := by rw [HF.out, if_pos hm0]
      subst hz0
      have heq := eql_zero w6 vs hvl hS6.dig true (by simp [hnv, hm0])
      go_wp2_with (first
        | (refine wpList_load_wide rfl (.tmp 34) rfl g 3 rfl vs hS6.row ?_)
        | (refine wpList_build0 rfl rfl ?_))
      go_ret2
      exact ⟨rfl, hB6⟩
    · have heq := eql_zero w6 vs hvl hS6.dig false (by simp [hnv, hm0])
      cases sr
      · have hz0 : z = 1 := by rw [HF.out, if_neg hm0]; rfl
        subst hz0
        go_wp2_with (first
          | (refine wpList_load_wide rfl (.tmp 34) rfl g 3 rfl vs hS6.row ?_)
          | (refine wpList_build0 rfl rfl ?_))
        go_ret2
        exact ⟨rfl, hB6⟩
      · have hz0 : z = -1 := by rw [HF.out, if_neg hm0]; rfl
        subst hz0
        go_wp2_with (first
          | (refine wpList_load_wide rfl (.tmp 34) rfl g 3 rfl vs hS6.row ?_)
          | (refine wpList_build0 rfl rfl ?_))
        go_ret2
        exact ⟨rfl, hB6⟩
  · have HKE := Lib.hid hke
    clear hke
    go_wp2_with fail
    refine (of_any w3 0 w.heap.size a.neg A1 n1 c1 xs1 a.e (M - a.e) g1 (by have := HS1.out; omega) sd1 hn1 (by omega) (by omega) _ (by have := HKE.out; omega)).mono ?_
    rintro e w4 ⟨g, ws, rfl, hB4, hg1, hg2, hS4, hnw⟩
    have hs4 := hB4.size
    replace g1 := g1.below hB4 (by have := HS1.out; omega)
    replace g2 := g2.below hB4 (by have := HS1.out; omega)
    replace hb1 := (hB4.block _ (by have := HS1.out; omega)).trans hb1
    replace hb2 := (hB4.block _ (by have := HS1.out; omega)).trans hb2
    replace hB1 := hB1.trans (hB4.mono (by have := HS1.out; omega))
    have HNW := Lib.hid hnw
    clear hB4 p0 p1 p2 p3 p4 p5 q0 q1 q2 q3 q4 q5 hnw
    go_wp2_with fail
    have hSS : w4.drew.heap[w.heap.size + 1]? = w4.heap[w.heap.size + 1]? := rfl
    refine region_E (fun w' => w'.heap[w.heap.size + 1]? = w4.heap[w.heap.size + 1]?) [] (m := 8) (L := #[false, false, false, false, false, false, false, false]) (by kernel_rfl) (by rfl) (by rfl) ?_
    refine pureE (i := 0) (L := #[true, false, false, false, false, false, false, false]) (v := ?_) rfl (by rfl) (by kernel_rfl) (by kernel_rfl) (by kernel_rfl) (fun _ _ _ h => h) (by rfl) ?hy29 ?rest29
    case hy29 => intro w; go_simp; (try with_reducible rfl)
    try simp only [Act.put, List.setIfInBounds_toArray, List.set_cons_zero, List.set_cons_succ]
    refine pureE (i := 1) (L := #[true, true, false, false, false, false, false, false]) (v := ?_) rfl (by rfl) (by kernel_rfl) (by kernel_rfl) (by kernel_rfl) (fun _ _ _ h => h) (by rfl) ?hy30 ?rest30
    case hy30 => intro w; go_simp; (try with_reducible rfl)
    try simp only [Act.put, List.setIfInBounds_toArray, List.set_cons_zero, List.set_cons_succ]
    refine readE (i := 2) (L := #[true, true, true, false, false, false, false, false]) (v := .bool b.neg) rfl (by rfl) (by kernel_rfl) (by kernel_rfl) (by kernel_rfl) (fun _ _ _ h => h) (by assumption) (by rfl) ?hyA2 ?restA2
    case hyA2 =>
      intro w' h1
      have k := (boxD (h1.trans hb2)).1.1
      go_simp
    try simp only [Act.put, List.setIfInBounds_toArray, List.set_cons_zero, List.set_cons_succ]
    refine pureE (i := 3) (L := #[true, true, true, true, false, false, false, false]) (v := ?_) rfl (by rfl) (by kernel_rfl) (by kernel_rfl) (by kernel_rfl) (fun _ _ _ h => h) (by rfl) ?hy32 ?rest32
    case hy32 => intro w; go_simp; (try with_reducible rfl)
    try simp only [Act.put, List.setIfInBounds_toArray, List.set_cons_zero, List.set_cons_succ]
    refine readE (i := 4) (L := #[true, true, true, true, true, false, false, false]) (v := .agg #[.bool b.neg, .slice A2 n2 c2, .int .i64 b.e]) rfl (by rfl) (by kernel_rfl) (by kernel_rfl) (by kernel_rfl) (fun _ _ _ h => h) (by assumption) (by rfl) ?hyB2 ?restB2
    case hyB2 =>
      intro w' h1
      obtain ⟨⟨k1, k2, k3⟩, _⟩ := boxD (h1.trans hb2)
      go_simp
    try simp only [Act.put, List.setIfInBounds_toArray, List.set_cons_zero, List.set_cons_succ]
    refine pureE (i := 5) (L := #[true, true, true, true, true, true, false, false]) (v := ?_) rfl (by rfl) (by kernel_rfl) (by kernel_rfl) (by kernel_rfl) (fun _ _ _ h => h) (by rfl) ?hy34 ?rest34
    case hy34 => intro w; go_simp; (try with_reducible rfl)
    try simp only [Act.put, List.setIfInBounds_toArray, List.set_cons_zero, List.set_cons_succ]
    refine stepK (i := 6) (L := #[true, true, true, true, true, true, true, false]) rfl (by rfl) (by kernel_rfl) (by rfl) (fun K hK => ?_)
    go_simp
    go_at_call 18
    refine (widen_any w4.drew 0 w.heap.size b.neg A2 n2 c2 xs2 b.e (M - b.e) (g2.drewN 1) (by show w.heap.size ≤ w4.heap.size; have := HS1.out; omega) sd2 hn2 (by omega) (by omega) _ (by have := HKE.out; omega)).mono ?_
    rintro e w5 ⟨us, rfl, hB5', hul, hud, hnu⟩
    have hB5 : Below w4.heap.size w4 w5 := (Below.refl _ w4).drew.trans hB5'
    clear hB5'
    have hs5 := hB5.size
    replace g1 := g1.below hB5 (by have := HS1.out; omega)
    have hb2' := hB5.block (w.heap.size + 1) (by have := HS1.out; omega)
    replace hB1 := hB1.trans (hB5.mono (by have := HS1.out; omega))
    have hS5 := hS4.of_heap (hB5.block g hg2)
    have HNU := Lib.hid hnu
    clear hB5 hnu hS4
    refine hK _ _ ⟨fun _ _ => hb2', ?_⟩
    clear hK K
    try simp only [Act.put, List.setIfInBounds_toArray, List.set_cons_zero, List.set_cons_succ]
    obtain ⟨sr, mr, hpl⟩ : ∃ sr mr, plusS a.neg (num 4294967296 ws) (!b.neg) (num 4294967296 us) = (sr, mr) := ⟨_, _, rfl⟩
    have hroom : num 4294967296 ws + num 4294967296 us < 4294967296 ^ 74 := by
      rw [HNW.out, HNU.out, SN1.out, SN2.out]
      exact sum_room (shift_lt ha.1 (by omega)) (shift_lt hb.1 (by omega))
    have hcmp : z = if mr = 0 then 0 else if sr then -1 else 1 := by
      rw [← H.out]
      refine cmp_by a b (!b.neg) (fun _ => rfl) sr mr ?_
      rw [HK.out]
      rw [HNW.out, HNU.out, SN1.out, SN2.out] at hpl
      exact hpl
    have HPL := Lib.hid hpl
    have HR := Lib.hid hroom
    have HF := Lib.hid hcmp
    clear hpl hroom hcmp
    refine stepK (i := 7) (L := #[true, true, true, true, true, true, true, true]) rfl (by rfl) (by kernel_rfl) (by rfl) (fun K hK => ?_)
    go_simp
    go_at_call 17
    refine (add_any w5 g a.neg (!b.neg) _ _ ws us hS5 (by omega) hul hud HR.out sr mr HPL.out).mono ?_
    rintro e w6 ⟨rfl, hO6, vs, hS6, hnv⟩
    have hs6 := hO6.size
    replace g1 := g1
    have hB6 := hO6.below hB1 (by have := HS1.out; omega) (by have := HS1.out; omega)
    refine hK _ _ ⟨fun _ h => (hO6.block _ (by have := HS1.out; omega) (by have := HS1.out; omega)).trans h, ?_⟩
    clear hK K hO6 g1 hB1 hS5
    try simp only [Act.put, List.setIfInBounds_toArray, List.set_cons_zero, List.set_cons_succ]
    refine doneE (by kernel_rfl) ?_ _
    have hvl := hS6.len
    obtain ⟨⟨y0, y1, y2⟩, y3⟩ := And.intro hS6.head (hS6.free 0)
    by_cases hm0 : mr = 0
    · have hz0 : z = 0 := by rw [HF.out, if_pos hm0]
      subst hz0
      have heq := eql_zero w6 vs hvl hS6.dig true (by simp [hnv, hm0])
      go_wp2_with (first
        | (refine wpList_load_wide rfl (.tmp 34) rfl g 3 rfl vs hS6.row ?_)
        | (refine wpList_build0 rfl rfl ?_))
      go_ret2
      exact ⟨rfl, hB6⟩
    · have heq := eql_zero w6 vs hvl hS6.dig false (by simp [hnv, hm0])
      cases sr
      · have hz0 : z = 1 := by rw [HF.out, if_neg hm0]; rfl
        subst hz0
        go_wp2_with (first
          | (refine wpList_load_wide rfl (.tmp 34) rfl g 3 rfl vs hS6.row ?_)
          | (refine wpList_build0 rfl rfl ?_))
        go_ret2
        exact ⟨rfl, hB6⟩
      · have hz0 : z = -1 := by rw [HF.out, if_neg hm0]; rfl
        subst hz0
        go_wp2_with (first
          | (refine wpList_load_wide rfl (.tmp 34) rfl g 3 rfl vs hS6.row ?_)
          | (refine wpList_build0 rfl rfl ?_))
        go_ret2
        exact ⟨rfl, hB6⟩
theorem Cmp_allP (w : World) (s1 s2 : Bool) (A1 A2 : Option Addr) (n1 c1 n2 c2 : Nat) (xs1 xs2 : List Int) (e1 e2 : Int) (h1 : Ints w 0 w.heap.size .u32 A1 n1 xs1) (h2 : Ints w 0 w.heap.size .u32 A2 n2 xs2) (z code : Int) (h : cmpX s1 xs1 e1 s2 xs2 e2 = (z, code)) :
    Calls Try.prog 6 #[.agg #[.bool s1, .slice A1 n1 c1, .int .i64 e1], .agg #[.bool s2, .slice A2 n2 c2, .int .i64 e2]] w fun e w' => e = .returned (.tuple #[.int .i64 z, .int .i64 code]) ∧ Below w.heap.size w w' := by
  unfold cmpX at h
  split at h
  · rename_i hm
    injection h with h3 h4
    subst h4
    obtain ⟨y1, c1', k1⟩ := dn_ok (dig_ints h1) hm.1
    obtain ⟨y2, c2', k2⟩ := dn_ok (dig_ints h2) hm.2
    have := Cmp_okP w (dn s1 xs1 e1) (dn s2 xs2 e2) y1 y2 A1 n1 c1 (by rw [c1']; exact h1) A2 n2 c2 (by rw [c2']; exact h2) z h3
    rw [k1, k2] at this
    exact this
  · rename_i hm
    injection h with h3 h4
    subst h3 h4
    exact Cmp_bad w s1 s2 A1 A2 n1 c1 n2 c2 xs1 xs2 e1 e2 h1 h2 (Classical.not_and_iff_not_or_not.1 hm)
end Dy
end Go.Proofs.Ytlbkepiflhchdaa
