/- The statement DyadNames: a walk (printed by a program of mine). -/
import Derived.Test.YtlbkepiflhchdaaDoorDyNamesP
import Derived.Deep.DeepCutAuto
import Derived.Deep.CutRange
namespace Go.Proofs.YtlbkepiflhchdaaDoor
open Go.RowKit
namespace Dy
open Dp
set_option maxHeartbeats 25600000 in
set_option maxRecDepth 100000 in
theorem names_walk (w : World) (hT : Tab w) : Calls Tryd.prog 7 #[] w (Yes w) := by
  have a0 : Amid w w := ⟨Below.refl _ _, hT⟩
  have N1 := Lib.hid nm1
  have N2 := Lib.hid nm2
  have N3 := Lib.hid nm3
  have N4 := Lib.hid nm4
  have N5 := Lib.hid nm5
  have N6 := Lib.hid nm6
  have hmk := make40
  go_enter Tryd.func7, Tryd.ntmps7
  go_wp2_with fail
  refine (part_any w true 1 (by decide) 1024).mono ?_
  rintro e' w1 ⟨P1, rfl, hB, hI⟩
  have a1 := a0.on hB
  have J1 := ints_all hI
  try clear hw
  clear hB a0 hI
  replace J1 : Ints w1 0 w1.heap.size .u32 P1 1 (canon 4294967296 1) := by rw [canon_one 1 (by decide) (by decide)]; exact J1
  have hB := (Below.refl w1.heap.size w1).alloc (Nat.le_refl _) (.cells #[.bool true, .slice P1 1 1, .int .i64 1024] 24)
  have B1 := heap_alloc_last w1 (.cells #[.bool true, .slice P1 1 1, .int .i64 1024] 24)
  have S1 : w1.heap.size < (w1.alloc (.cells #[.bool true, .slice P1 1 1, .int .i64 1024] 24)).heap.size := by simp
  have a2 := a1.on hB
  replace J1 := ints_on J1 hB
  generalize hw : (w1.alloc (.cells #[.bool true, .slice P1 1 1, .int .i64 1024] 24)) = w2 at *
  clear hB a1
  obtain ⟨⟨p1, q1, r1⟩, u1, v1, x1⟩ := boxD B1
  go_wp2_with fail
  refine (Half_ok w2 ⟨true, 1, 1024⟩ last_may P1 1 1 J1 a2.tab Dn.zero 10 N1.out).mono ?_
  rintro e' w3 ⟨G2, m2, o2, rfl, hc2, hB, hI⟩
  have a3 := a2.on hB
  replace B1 := boxOn B1 hB S1
  replace S1 := Nat.lt_of_lt_of_le S1 hB.size
  replace J1 := ints_on J1 hB
  have I2 := ints_all hI
  clear p1 q1 r1 u1 v1 x1
  try clear hw
  clear hB a2 hI
  have hB := (Below.refl w3.heap.size w3).alloc (Nat.le_refl _) (.cells #[.bool Dn.zero.neg, .slice G2 m2 o2, .int .i64 Dn.zero.e] 24)
  have B2 := heap_alloc_last w3 (.cells #[.bool Dn.zero.neg, .slice G2 m2 o2, .int .i64 Dn.zero.e] 24)
  have S2 : w3.heap.size < (w3.alloc (.cells #[.bool Dn.zero.neg, .slice G2 m2 o2, .int .i64 Dn.zero.e] 24)).heap.size := by simp
  have a4 := a3.on hB
  replace B1 := boxOn B1 hB S1
  replace S1 := Nat.lt_of_lt_of_le S1 hB.size
  replace J1 := ints_on J1 hB
  replace I2 := ints_on I2 hB
  generalize hw : (w3.alloc (.cells #[.bool Dn.zero.neg, .slice G2 m2 o2, .int .i64 Dn.zero.e] 24)) = w4 at *
  clear hB a3
  clear B2 S2 I2
  have S1q := S1
  have HQ := heap_alloc_last w4 (.cells (rowU zero40) 52)
  have hB := (Below.refl w4.heap.size w4).alloc (Nat.le_refl _) (.cells (rowU zero40) 52)
  have a5 := a4.on hB
  replace B1 := boxOn B1 hB S1
  replace S1 := Nat.lt_of_lt_of_le S1 hB.size
  have JQ := J1.below hB (Nat.le_refl _)
  clear J1
  have SQ : w4.heap.size < (w4.alloc (.cells (rowU zero40) 52)).heap.size := by simp
  have hB2 := (Below.refl (w4.alloc (.cells (rowU zero40) 52)).heap.size (w4.alloc (.cells (rowU zero40) 52))).alloc (Nat.le_refl _) (.cells #[.bool false, .slice (some ⟨w4.heap.size, 0, none⟩) 40 40, .int .i64 0] 24)
  have B4 := heap_alloc_last (w4.alloc (.cells (rowU zero40) 52)) (.cells #[.bool false, .slice (some ⟨w4.heap.size, 0, none⟩) 40 40, .int .i64 0] 24)
  have a6 := a5.on hB2
  replace B1 := boxOn B1 hB2 S1
  replace S1 := Nat.lt_of_lt_of_le S1 hB2.size
  replace HQ := (hB2.block _ SQ).trans HQ
  replace JQ := JQ.below hB2 (Nat.le_of_lt SQ)
  have S4 : w4.heap.size + 1 < ((w4.alloc (.cells (rowU zero40) 52)).alloc (.cells #[.bool false, .slice (some ⟨w4.heap.size, 0, none⟩) 40 40, .int .i64 0] 24)).heap.size := by simp
  have SQ2 := Nat.lt_of_lt_of_le SQ hB2.size
  have hwq := a4.below.size
  have e4 : (w4.alloc (.cells (rowU zero40) 52)).heap.size = w4.heap.size + 1 := by simp
  rw [e4] at B4
  clear hB hB2 a5 a4 SQ e4
  go_wp2_with fail
  clear hw
  generalize hw : (w4.alloc (.cells (rowU zero40) 52)).alloc (.cells #[.bool false, .slice (some ⟨w4.heap.size, 0, none⟩) 40 40, .int .i64 0] 24) = w6 at *
  obtain ⟨⟨p4, q4, r4⟩, u4, v4, x4⟩ := boxD B4
  try clear hw
  go_loopw [5] (fun iv wr => ∃ i : Nat, iv = .int .i64 i ∧ i ≤ 40 ∧ wr.heap[w4.heap.size]? = some (.cells (rowU (fillL i)) 52 (0, 0)) ∧ OnlyAt w4.heap.size w6 wr) (fun iv _ => 40 - (intOf iv).toNat)
  case atStart => exact ⟨0, rfl, by omega, HQ, OnlyAt.refl _ _⟩
  case round =>
    obtain ⟨i, rfl, hi, hq, hO⟩ := hrel
    by_cases hlt : i < 40
    · have b4 := (hO.block (w4.heap.size + 1) S4 (by omega)).trans B4
      obtain ⟨⟨y0, y1, y2⟩, y3, y4, y5⟩ := boxD b4
      have c1 := fill_cell hq hlt
      have c2 := frozen_of_row wr w4.heap.size i _ _ hq
      have hk0 : (0 : Int) ≤ i := by omega
      have hk1 : (i : Int) < 40 := by omega
      clear p4 q4 r4 u4 v4 x4
      go_wp2
      go_roundw
      case rel => exact ⟨i + 1, by go_num, by omega, by rw [heap_setCell_same wr _ i _ _ _ hq]; exact fill_set hlt, hO.setCell _⟩
      case measure => simp [intOf]; omega
    · obtain rfl : i = 40 := by omega
      have hB := only_below hO
      have a7 : Amid w wr := ⟨hO.below a6.below hwq (Nat.le_trans hwq (Nat.le_of_lt SQ2)), a6.tab.keep (hO.block 0 a6.tab.lt (by have := hT.lt; omega))⟩
      replace B1 := (hO.block _ S1 (by omega)).trans B1
      replace B4 := (hO.block _ S4 (by omega)).trans B4
      replace S1 := Nat.lt_of_lt_of_le S1 hO.size
      replace S4 := Nat.lt_of_lt_of_le S4 hO.size
      have J1 := (JQ.below hB (Nat.le_min.2 ⟨Nat.le_refl _, Nat.le_of_lt SQ2⟩)).more (lo' := 0) (hi' := wr.heap.size) (Nat.le_refl _) (Nat.le_trans (Nat.le_of_lt SQ2) hO.size)
      have J4 := fill_ints hq (Nat.lt_of_lt_of_le SQ2 hO.size)
      clear hq hO hB HQ JQ SQ2 a6 p4 q4 r4 u4 v4 x4
      go_upto_region 8 with fail
      go_cut [6, 7] from 18 (fun _ s7 wx => s7 = .int .i64 10 ∧ Below wr.heap.size wr wx)
      case first =>
        have c0 : Amid wr wr.drew := (Amid.mk (Below.refl _ _) a7.tab).drew
        have kD : Keeps wr wr.drew := fun _ _ => rfl
        refine region_E (Keeps wr) [7] (m := 9) (L := #[false, false, false, false, false, false, false, false, false]) (by kernel_rfl) (by rfl) (by rfl) ?_
        refine readE (i := 0) (L := #[true, false, false, false, false, false, false, false, false]) (v := .agg #[.bool false, .slice (some ⟨w4.heap.size, 0, none⟩) 40 40, .int .i64 0]) rfl (by rfl) (by kernel_rfl) (by kernel_rfl) (by kernel_rfl) (fun _ _ _ h => h) (by assumption) (by rfl) ?hyT8 ?restT8
        case hyT8 =>
          intro w' h1
          obtain ⟨⟨k1, k2, k3⟩, _⟩ := boxD ((h1 _ S4).trans B4)
          go_simp
        try simp only [Act.put, List.setIfInBounds_toArray, List.set_cons_zero, List.set_cons_succ]
        refine stepK2 (i := 1) (j := 6) (Li := #[true, true, false, false, false, false, false, false, false]) (Lj := #[true, false, false, false, false, false, true, false, false]) rfl rfl (by rfl) (by rfl) (by kernel_rfl) (by rfl) (by rfl) (fun K hK => ?ofA) (fun K hK => ?alA)
        case ofA =>
          go_simp
          go_at_call 38
          refine (Of_any wr.drew 1 (by decide) (by decide) false 1 rfl rfl).mono ?_
          rintro e v1 ⟨Ao, no_, rfl, hB, hI⟩
          have c1 := c0.on hB
          have jo := ints_all hI
          clear hB hI
          refine hK _ _ ⟨fun _ _ p hp => c1.below.block p hp, ?_⟩
          clear hK K
          try simp only [Act.put, List.setIfInBounds_toArray, List.set_cons_zero, List.set_cons_succ]
          
          refine stepK2 (i := 2) (j := 6) (Li := #[true, true, true, false, false, false, false, false, false]) (Lj := #[true, true, false, false, false, false, true, false, false]) rfl rfl (by rfl) (by rfl) (by kernel_rfl) (by rfl) (by rfl) (fun K hK => ?adB) (fun K hK => ?alB)
          case adB =>
            go_simp
            go_at_call 20
            refine (Add_ok v1 topD ⟨false, 1, 0⟩ top_may one_may (some ⟨w4.heap.size, 0, none⟩) 40 40 (ints_on J4 c1.below) Ao no_ no_ jo c1.tab Dn.zero 10 N2.out).mono ?_
            rintro e v2 ⟨G2, m2, o2, rfl, hc2, hB, hI⟩
            have c2 := c1.on hB
            clear hB hI
            refine hK _ _ ⟨fun _ _ p hp => c2.below.block p hp, ?_⟩
            clear hK K
            try simp only [Act.put, List.setIfInBounds_toArray, List.set_cons_zero, List.set_cons_succ]
            
            refine pureE (i := 3) (L := #[true, true, true, true, false, false, false, false, false]) (v := ?_) rfl (by rfl) (by kernel_rfl) (by kernel_rfl) (by kernel_rfl) (fun _ _ _ h => h) (by rfl) ?hy2 ?rest2
            case hy2 => intro w; go_simp; (try with_reducible rfl)
            try simp only [Act.put, List.setIfInBounds_toArray, List.set_cons_zero, List.set_cons_succ]
            refine pureE (i := 4) (L := #[true, true, true, true, true, false, false, false, false]) (v := ?_) rfl (by rfl) (by kernel_rfl) (by kernel_rfl) (by kernel_rfl) (fun _ _ _ h => h) (by rfl) ?hy3 ?rest3
            case hy3 => intro w; go_simp; (try with_reducible rfl)
            try simp only [Act.put, List.setIfInBounds_toArray, List.set_cons_zero, List.set_cons_succ]
            refine pureE (i := 5) (L := #[true, true, true, true, true, true, false, false, false]) (v := ?_) rfl (by rfl) (by kernel_rfl) (by kernel_rfl) (by kernel_rfl) (fun _ _ _ h => h) (by rfl) ?hy4 ?rest4
            case hy4 => intro w; go_simp; (try with_reducible rfl)
            try simp only [Act.put, List.setIfInBounds_toArray, List.set_cons_zero, List.set_cons_succ]
            refine stepK (i := 6) (L := #[true, true, true, true, true, true, true, false, false]) rfl (by rfl) (by kernel_rfl) (by rfl) (fun K hK => ?_)
            go_simp
            have B6 := heap_alloc_last v2 (.cells #[.bool false, .slice none 0 0, .int .i64 0] 24)
            have S6 : v2.heap.size < (v2.alloc (.cells #[.bool false, .slice none 0 0, .int .i64 0] 24)).heap.size := by simp
            have c3 := c2.alloc (.cells #[.bool false, .slice none 0 0, .int .i64 0] 24)
            have F6 : wr.heap.size ≤ v2.heap.size := c2.below.size
            generalize hw6 : v2.alloc (.cells #[.bool false, .slice none 0 0, .int .i64 0] 24) = v3 at *
            refine hK _ _ ⟨fun _ _ p hp => c3.below.block p hp, ?_⟩
            clear hK K
            try simp only [Act.put, List.setIfInBounds_toArray, List.set_cons_zero, List.set_cons_succ]
            try clear hw6
            obtain ⟨⟨p6, q6, r6⟩, u6, v6, x6⟩ := boxD B6
            refine stepK (i := 7) (L := #[true, true, true, true, true, true, true, true, false]) rfl (by rfl) (by kernel_rfl) (by rfl) (fun K hK => ?_)
            go_simp
            refine hK _ _ ⟨fun h => absurd h (by decide), ?_⟩
            clear hK K
            try simp only [Act.put, List.setIfInBounds_toArray, List.set_cons_zero, List.set_cons_succ]
            refine pureE (i := 8) (L := #[true, true, true, true, true, true, true, true, true]) (v := ?_) rfl (by rfl) (by kernel_rfl) (by kernel_rfl) (by kernel_rfl) (fun _ _ _ h => h) (by rfl) ?hy7 ?rest7
            case hy7 => intro w; go_simp; (try with_reducible rfl)
            try simp only [Act.put, List.setIfInBounds_toArray, List.set_cons_zero, List.set_cons_succ]
            refine doneE (by kernel_rfl) ?_ _
            go_wp2_with fail
            go_meet
            exact ⟨rfl, ((c3.below.setCell F6 _).setCell F6 _).setCell F6 _⟩
          case alB =>
            go_simp
            have B6 := heap_alloc_last v1 (.cells #[.bool false, .slice none 0 0, .int .i64 0] 24)
            have S6 : v1.heap.size < (v1.alloc (.cells #[.bool false, .slice none 0 0, .int .i64 0] 24)).heap.size := by simp
            have c3 := c1.alloc (.cells #[.bool false, .slice none 0 0, .int .i64 0] 24)
            have F6 : wr.heap.size ≤ v1.heap.size := c1.below.size
            replace jo := jo.below (((Below.refl v1.heap.size v1).alloc (Nat.le_refl _) (.cells #[.bool false, .slice none 0 0, .int .i64 0] 24))) (Nat.le_refl _)
            replace jo := jo.more (lo' := 0) (hi' := (v1.alloc (.cells #[.bool false, .slice none 0 0, .int .i64 0] 24)).heap.size) (Nat.le_refl _) (by simp)
            generalize hw6 : v1.alloc (.cells #[.bool false, .slice none 0 0, .int .i64 0] 24) = v3 at *
            refine hK _ _ ⟨fun _ _ p hp => c3.below.block p hp, ?_⟩
            clear hK K
            try simp only [Act.put, List.setIfInBounds_toArray, List.set_cons_zero, List.set_cons_succ]
            try clear hw6
            
            refine stepK (i := 2) (L := #[true, true, true, false, false, false, true, false, false]) rfl (by rfl) (by kernel_rfl) (by rfl) (fun K hK => ?_)
            go_simp
            go_at_call 20
            refine (Add_ok v3 topD ⟨false, 1, 0⟩ top_may one_may (some ⟨w4.heap.size, 0, none⟩) 40 40 (ints_on J4 c3.below) Ao no_ no_ jo c3.tab Dn.zero 10 N2.out).mono ?_
            rintro e v2 ⟨G2, m2, o2, rfl, hc2, hB, hI⟩
            have c4 := c3.on hB
            replace B6 := boxOn B6 hB S6
            replace S6 := Nat.lt_of_lt_of_le S6 hB.size
            clear hB hI
            refine hK _ _ ⟨fun _ _ p hp => c4.below.block p hp, ?_⟩
            clear hK K
            try simp only [Act.put, List.setIfInBounds_toArray, List.set_cons_zero, List.set_cons_succ]
            
            refine pureE (i := 3) (L := #[true, true, true, true, false, false, true, false, false]) (v := ?_) rfl (by rfl) (by kernel_rfl) (by kernel_rfl) (by kernel_rfl) (fun _ _ _ h => h) (by rfl) ?hy9 ?rest9
            case hy9 => intro w; go_simp; (try with_reducible rfl)
            try simp only [Act.put, List.setIfInBounds_toArray, List.set_cons_zero, List.set_cons_succ]
            refine pureE (i := 4) (L := #[true, true, true, true, true, false, true, false, false]) (v := ?_) rfl (by rfl) (by kernel_rfl) (by kernel_rfl) (by kernel_rfl) (fun _ _ _ h => h) (by rfl) ?hy10 ?rest10
            case hy10 => intro w; go_simp; (try with_reducible rfl)
            try simp only [Act.put, List.setIfInBounds_toArray, List.set_cons_zero, List.set_cons_succ]
            refine pureE (i := 5) (L := #[true, true, true, true, true, true, true, false, false]) (v := ?_) rfl (by rfl) (by kernel_rfl) (by kernel_rfl) (by kernel_rfl) (fun _ _ _ h => h) (by rfl) ?hy11 ?rest11
            case hy11 => intro w; go_simp; (try with_reducible rfl)
            try simp only [Act.put, List.setIfInBounds_toArray, List.set_cons_zero, List.set_cons_succ]
            obtain ⟨⟨p6, q6, r6⟩, u6, v6, x6⟩ := boxD B6
            refine stepK (i := 7) (L := #[true, true, true, true, true, true, true, true, false]) rfl (by rfl) (by kernel_rfl) (by rfl) (fun K hK => ?_)
            go_simp
            refine hK _ _ ⟨fun h => absurd h (by decide), ?_⟩
            clear hK K
            try simp only [Act.put, List.setIfInBounds_toArray, List.set_cons_zero, List.set_cons_succ]
            refine pureE (i := 8) (L := #[true, true, true, true, true, true, true, true, true]) (v := ?_) rfl (by rfl) (by kernel_rfl) (by kernel_rfl) (by kernel_rfl) (fun _ _ _ h => h) (by rfl) ?hy13 ?rest13
            case hy13 => intro w; go_simp; (try with_reducible rfl)
            try simp only [Act.put, List.setIfInBounds_toArray, List.set_cons_zero, List.set_cons_succ]
            refine doneE (by kernel_rfl) ?_ _
            go_wp2_with fail
            go_meet
            exact ⟨rfl, ((c4.below.setCell F6 _).setCell F6 _).setCell F6 _⟩
        case alA =>
          go_simp
          have B6 : (wr.alloc (.cells #[.bool false, .slice none 0 0, .int .i64 0] 24)).drew.heap[wr.heap.size]? = some (.cells #[.bool false, .slice none 0 0, .int .i64 0] 24 (0, 0)) := heap_alloc_last wr (.cells #[.bool false, .slice none 0 0, .int .i64 0] 24)
          have S6 : wr.heap.size < (wr.alloc (.cells #[.bool false, .slice none 0 0, .int .i64 0] 24)).drew.heap.size := by show wr.heap.size < (wr.alloc (.cells #[.bool false, .slice none 0 0, .int .i64 0] 24)).heap.size; simp
          have c1 : Amid wr (wr.alloc (.cells #[.bool false, .slice none 0 0, .int .i64 0] 24)).drew := ((Amid.mk (Below.refl _ _) a7.tab).alloc (.cells #[.bool false, .slice none 0 0, .int .i64 0] 24)).drew
          have F6 : wr.heap.size ≤ wr.heap.size := Nat.le_refl _
          generalize hw6 : (wr.alloc (.cells #[.bool false, .slice none 0 0, .int .i64 0] 24)).drew = v3 at *
          refine hK _ _ ⟨fun _ _ p hp => c1.below.block p hp, ?_⟩
          clear hK K
          try simp only [Act.put, List.setIfInBounds_toArray, List.set_cons_zero, List.set_cons_succ]
          try clear hw6
          
          refine stepK (i := 1) (L := #[true, true, false, false, false, false, true, false, false]) rfl (by rfl) (by kernel_rfl) (by rfl) (fun K hK => ?_)
          go_simp
          go_at_call 38
          refine (Of_any v3 1 (by decide) (by decide) false 1 rfl rfl).mono ?_
          rintro e v1 ⟨Ao, no_, rfl, hB, hI⟩
          have c2 := c1.on hB
          have jo := ints_all hI
          replace B6 := boxOn B6 hB S6
          replace S6 := Nat.lt_of_lt_of_le S6 hB.size
          clear hB hI
          refine hK _ _ ⟨fun _ _ p hp => c2.below.block p hp, ?_⟩
          clear hK K
          try simp only [Act.put, List.setIfInBounds_toArray, List.set_cons_zero, List.set_cons_succ]
          refine stepK (i := 2) (L := #[true, true, true, false, false, false, true, false, false]) rfl (by rfl) (by kernel_rfl) (by rfl) (fun K hK => ?_)
          go_simp
          go_at_call 20
          refine (Add_ok v1 topD ⟨false, 1, 0⟩ top_may one_may (some ⟨w4.heap.size, 0, none⟩) 40 40 (ints_on J4 c2.below) Ao no_ no_ jo c2.tab Dn.zero 10 N2.out).mono ?_
          rintro e v2 ⟨G2, m2, o2, rfl, hc2, hB, hI⟩
          have c4 := c2.on hB
          replace B6 := boxOn B6 hB S6
          replace S6 := Nat.lt_of_lt_of_le S6 hB.size
          clear hB hI
          refine hK _ _ ⟨fun _ _ p hp => c4.below.block p hp, ?_⟩
          clear hK K
          try simp only [Act.put, List.setIfInBounds_toArray, List.set_cons_zero, List.set_cons_succ]
          
          refine pureE (i := 3) (L := #[true, true, true, true, false, false, true, false, false]) (v := ?_) rfl (by rfl) (by kernel_rfl) (by kernel_rfl) (by kernel_rfl) (fun _ _ _ h => h) (by rfl) ?hy16 ?rest16
          case hy16 => intro w; go_simp; (try with_reducible rfl)
          try simp only [Act.put, List.setIfInBounds_toArray, List.set_cons_zero, List.set_cons_succ]
          refine pureE (i := 4) (L := #[true, true, true, true, true, false, true, false, false]) (v := ?_) rfl (by rfl) (by kernel_rfl) (by kernel_rfl) (by kernel_rfl) (fun _ _ _ h => h) (by rfl) ?hy17 ?rest17
          case hy17 => intro w; go_simp; (try with_reducible rfl)
          try simp only [Act.put, List.setIfInBounds_toArray, List.set_cons_zero, List.set_cons_succ]
          refine pureE (i := 5) (L := #[true, true, true, true, true, true, true, false, false]) (v := ?_) rfl (by rfl) (by kernel_rfl) (by kernel_rfl) (by kernel_rfl) (fun _ _ _ h => h) (by rfl) ?hy18 ?rest18
          case hy18 => intro w; go_simp; (try with_reducible rfl)
          try simp only [Act.put, List.setIfInBounds_toArray, List.set_cons_zero, List.set_cons_succ]
          obtain ⟨⟨p6, q6, r6⟩, u6, v6, x6⟩ := boxD B6
          refine stepK (i := 7) (L := #[true, true, true, true, true, true, true, true, false]) rfl (by rfl) (by kernel_rfl) (by rfl) (fun K hK => ?_)
          go_simp
          refine hK _ _ ⟨fun h => absurd h (by decide), ?_⟩
          clear hK K
          try simp only [Act.put, List.setIfInBounds_toArray, List.set_cons_zero, List.set_cons_succ]
          refine pureE (i := 8) (L := #[true, true, true, true, true, true, true, true, true]) (v := ?_) rfl (by rfl) (by kernel_rfl) (by kernel_rfl) (by kernel_rfl) (fun _ _ _ h => h) (by rfl) ?hy20 ?rest20
          case hy20 => intro w; go_simp; (try with_reducible rfl)
          try simp only [Act.put, List.setIfInBounds_toArray, List.set_cons_zero, List.set_cons_succ]
          refine doneE (by kernel_rfl) ?_ _
          go_wp2_with fail
          go_meet
          exact ⟨rfl, ((c4.below.setCell F6 _).setCell F6 _).setCell F6 _⟩
      case rest =>
        obtain ⟨rfl, hB⟩ := hcut
        have a8 := a7.on hB
        replace B1 := boxOn B1 hB S1
        replace S1 := Nat.lt_of_lt_of_le S1 hB.size
        replace B4 := boxOn B4 hB S4
        replace S4 := Nat.lt_of_lt_of_le S4 hB.size
        replace J1 := ints_on J1 hB
        replace J4 := ints_on J4 hB
        clear hB a7
        obtain ⟨⟨p4, q4, r4⟩, u4, v4, x4⟩ := boxD B4
        obtain ⟨⟨p1, q1, r1⟩, u1, v1, x1⟩ := boxD B1
        go_wp2_with fail
        refine (Add_ok wc topD lastD top_may last_may (some ⟨w4.heap.size, 0, none⟩) 40 40 J4 P1 1 1 J1 a8.tab Dn.zero 10 N3.out).mono ?_
        rintro e' w9 ⟨G8, m8, o8, rfl, hc8, hB, hI⟩
        have a9 := a8.on hB
        replace B1 := boxOn B1 hB S1
        replace S1 := Nat.lt_of_lt_of_le S1 hB.size
        replace B4 := boxOn B4 hB S4
        replace S4 := Nat.lt_of_lt_of_le S4 hB.size
        replace J1 := ints_on J1 hB
        replace J4 := ints_on J4 hB
        have I8 := ints_all hI
        clear p4 q4 r4 u4 v4 x4 p1 q1 r1 u1 v1 x1
        try clear hw
        clear hB a8 hI
        have hB := (Below.refl w9.heap.size w9).alloc (Nat.le_refl _) (.cells #[.bool Dn.zero.neg, .slice G8 m8 o8, .int .i64 Dn.zero.e] 24)
        have B8 := heap_alloc_last w9 (.cells #[.bool Dn.zero.neg, .slice G8 m8 o8, .int .i64 Dn.zero.e] 24)
        have S8 : w9.heap.size < (w9.alloc (.cells #[.bool Dn.zero.neg, .slice G8 m8 o8, .int .i64 Dn.zero.e] 24)).heap.size := by simp
        have a10 := a9.on hB
        replace B1 := boxOn B1 hB S1
        replace S1 := Nat.lt_of_lt_of_le S1 hB.size
        replace B4 := boxOn B4 hB S4
        replace S4 := Nat.lt_of_lt_of_le S4 hB.size
        replace J1 := ints_on J1 hB
        replace J4 := ints_on J4 hB
        replace I8 := ints_on I8 hB
        generalize hw : (w9.alloc (.cells #[.bool Dn.zero.neg, .slice G8 m8 o8, .int .i64 Dn.zero.e] 24)) = w10 at *
        clear hB a9
        clear B8 S8 I8
        obtain ⟨⟨p4, q4, r4⟩, u4, v4, x4⟩ := boxD B4
        go_wp2_with fail
        refine (Sub_ok w10 topD topD top_may top_may (some ⟨w4.heap.size, 0, none⟩) 40 40 J4 (some ⟨w4.heap.size, 0, none⟩) 40 40 J4 a10.tab Dn.zero 0 N4.out).mono ?_
        rintro e' w11 ⟨G10, m10, o10, rfl, hc10, hB, hI⟩
        have a11 := a10.on hB
        replace B1 := boxOn B1 hB S1
        replace S1 := Nat.lt_of_lt_of_le S1 hB.size
        replace B4 := boxOn B4 hB S4
        replace S4 := Nat.lt_of_lt_of_le S4 hB.size
        replace J1 := ints_on J1 hB
        replace J4 := ints_on J4 hB
        have I10 := ints_all hI
        clear p4 q4 r4 u4 v4 x4
        try clear hw
        clear hB a10 hI
        have hB := (Below.refl w11.heap.size w11).alloc (Nat.le_refl _) (.cells #[.bool Dn.zero.neg, .slice G10 m10 o10, .int .i64 Dn.zero.e] 24)
        have B10 := heap_alloc_last w11 (.cells #[.bool Dn.zero.neg, .slice G10 m10 o10, .int .i64 Dn.zero.e] 24)
        have S10 : w11.heap.size < (w11.alloc (.cells #[.bool Dn.zero.neg, .slice G10 m10 o10, .int .i64 Dn.zero.e] 24)).heap.size := by simp
        have a12 := a11.on hB
        replace B1 := boxOn B1 hB S1
        replace S1 := Nat.lt_of_lt_of_le S1 hB.size
        replace B4 := boxOn B4 hB S4
        replace S4 := Nat.lt_of_lt_of_le S4 hB.size
        replace J1 := ints_on J1 hB
        replace J4 := ints_on J4 hB
        replace I10 := ints_on I10 hB
        generalize hw : (w11.alloc (.cells #[.bool Dn.zero.neg, .slice G10 m10 o10, .int .i64 Dn.zero.e] 24)) = w12 at *
        clear hB a11
        obtain ⟨⟨p4, q4, r4⟩, u4, v4, x4⟩ := boxD B4
        obtain ⟨⟨p1, q1, r1⟩, u1, v1, x1⟩ := boxD B1
        go_wp2_with fail
        refine (Cmp_ok w12 topD lastD top_may last_may (some ⟨w4.heap.size, 0, none⟩) 40 40 J4 P1 1 1 J1 a12.tab 1 N5.out).mono ?_
        rintro e' w13 ⟨rfl, hB⟩
        have a13 := a12.on hB
        replace B1 := boxOn B1 hB S1
        replace S1 := Nat.lt_of_lt_of_le S1 hB.size
        replace B4 := boxOn B4 hB S4
        replace S4 := Nat.lt_of_lt_of_le S4 hB.size
        replace B10 := boxOn B10 hB S10
        replace S10 := Nat.lt_of_lt_of_le S10 hB.size
        replace J1 := ints_on J1 hB
        replace J4 := ints_on J4 hB
        replace I10 := ints_on I10 hB
        clear p4 q4 r4 u4 v4 x4 p1 q1 r1 u1 v1 x1
        try clear hw
        clear hB a12
        go_upto_region 12 with fail
        have c0 : Amid w13 w13.drew := (Amid.mk (Below.refl _ _) a13.tab).drew
        have kD : Keeps w13 w13.drew := fun _ _ => rfl
        refine region_E (Keeps w13) [] (m := 8) (L := #[false, false, false, false, false, false, false, false]) (by kernel_rfl) (by rfl) (by rfl) ?_
        
        refine readE (i := 0) (L := #[true, false, false, false, false, false, false, false]) (v := .agg #[.bool true, .slice P1 1 1, .int .i64 1024]) rfl (by rfl) (by kernel_rfl) (by kernel_rfl) (by kernel_rfl) (fun _ _ _ h => h) (by assumption) (by rfl) ?hyT12 ?restT12
        case hyT12 =>
          intro w' h1
          obtain ⟨⟨k1, k2, k3⟩, _⟩ := boxD ((h1 _ S1).trans B1)
          go_simp
        try simp only [Act.put, List.setIfInBounds_toArray, List.set_cons_zero, List.set_cons_succ]
        refine stepK (i := 1) (L := #[true, true, false, false, false, false, false, false]) rfl (by rfl) (by kernel_rfl) (by rfl) (fun K hK => ?_)
        go_simp
        go_at_call 38
        refine (Of_any w13.drew 0 (by decide) (by decide) false 0 rfl rfl).mono ?_
        rintro e v1 ⟨Ao, no_, rfl, hB, hI⟩
        have c1 := c0.on hB
        have jo := ints_all hI
        clear hB hI
        refine hK _ _ ⟨fun _ _ p hp => c1.below.block p hp, ?_⟩
        clear hK K
        try simp only [Act.put, List.setIfInBounds_toArray, List.set_cons_zero, List.set_cons_succ]
        refine stepK (i := 2) (L := #[true, true, true, false, false, false, false, false]) rfl (by rfl) (by kernel_rfl) (by rfl) (fun K hK => ?_)
        go_simp
        go_at_call 39
        refine (Cmp_ok v1 lastD Dn.zero last_may zero_may P1 1 1 (ints_on J1 c1.below) Ao no_ no_ jo c1.tab (-1) N6.out).mono ?_
        rintro e v2 ⟨rfl, hB⟩
        have c2 := c1.on hB
        clear hB jo
        refine hK _ _ ⟨fun _ _ p hp => c2.below.block p hp, ?_⟩
        clear hK K
        try simp only [Act.put, List.setIfInBounds_toArray, List.set_cons_zero, List.set_cons_succ]
        refine pureE (i := 3) (L := #[true, true, true, true, false, false, false, false]) (v := ?_) rfl (by rfl) (by kernel_rfl) (by kernel_rfl) (by kernel_rfl) (fun _ _ _ h => h) (by rfl) ?hy24 ?rest24
        case hy24 => intro w; go_simp; (try with_reducible rfl)
        try simp only [Act.put, List.setIfInBounds_toArray, List.set_cons_zero, List.set_cons_succ]
        refine pureE (i := 4) (L := #[true, true, true, true, true, false, false, false]) (v := ?_) rfl (by rfl) (by kernel_rfl) (by kernel_rfl) (by kernel_rfl) (fun _ _ _ h => h) (by rfl) ?hy25 ?rest25
        case hy25 => intro w; go_simp; (try with_reducible rfl)
        try simp only [Act.put, List.setIfInBounds_toArray, List.set_cons_zero, List.set_cons_succ]
        refine pureE (i := 5) (L := #[true, true, true, true, true, true, false, false]) (v := ?_) rfl (by rfl) (by kernel_rfl) (by kernel_rfl) (by kernel_rfl) (fun _ _ _ h => h) (by rfl) ?hy26 ?rest26
        case hy26 => intro w; go_simp; (try with_reducible rfl)
        try simp only [Act.put, List.setIfInBounds_toArray, List.set_cons_zero, List.set_cons_succ]
        refine pureE (i := 6) (L := #[true, true, true, true, true, true, true, false]) (v := ?_) rfl (by rfl) (by kernel_rfl) (by kernel_rfl) (by kernel_rfl) (fun _ _ _ h => h) (by rfl) ?hy27 ?rest27
        case hy27 => intro w; go_simp; (try with_reducible rfl)
        try simp only [Act.put, List.setIfInBounds_toArray, List.set_cons_zero, List.set_cons_succ]
        refine pureE (i := 7) (L := #[true, true, true, true, true, true, true, true]) (v := ?_) rfl (by rfl) (by kernel_rfl) (by kernel_rfl) (by kernel_rfl) (fun _ _ _ h => h) (by rfl) ?hy28 ?rest28
        case hy28 => intro w; go_simp; (try with_reducible rfl)
        try simp only [Act.put, List.setIfInBounds_toArray, List.set_cons_zero, List.set_cons_succ]
        refine doneE (by kernel_rfl) ?_ _
        have hB := c2.below
        have a14 := a13.on hB
        replace B1 := boxOn B1 hB S1
        replace S1 := Nat.lt_of_lt_of_le S1 hB.size
        replace B4 := boxOn B4 hB S4
        replace S4 := Nat.lt_of_lt_of_le S4 hB.size
        replace B10 := boxOn B10 hB S10
        replace S10 := Nat.lt_of_lt_of_le S10 hB.size
        replace J1 := ints_on J1 hB
        replace J4 := ints_on J4 hB
        replace I10 := ints_on I10 hB
        clear hB c0 c1 c2 kD a13
        go_wp2_with fail
        refine (Of_any v2 (-9223372036854775808) (by decide) (by decide) true 9223372036854775808 rfl rfl).mono ?_
        rintro e' w15 ⟨G16, m16, rfl, hB, hI⟩
        have a15 := a14.on hB
        replace B1 := boxOn B1 hB S1
        replace S1 := Nat.lt_of_lt_of_le S1 hB.size
        replace B4 := boxOn B4 hB S4
        replace S4 := Nat.lt_of_lt_of_le S4 hB.size
        replace B10 := boxOn B10 hB S10
        replace S10 := Nat.lt_of_lt_of_le S10 hB.size
        replace J1 := ints_on J1 hB
        replace J4 := ints_on J4 hB
        replace I10 := ints_on I10 hB
        have I16 := ints_all hI
        try clear hw
        clear hB a14 hI
        have hm16 : m16 = 2 := by have := I16.len; rw [least_canon] at this; exact this.symm
        subst hm16
        rw [least_canon] at I16
        have hB := (Below.refl w15.heap.size w15).alloc (Nat.le_refl _) (.cells #[.bool true, .slice G16 2 2, .int .i64 0] 24)
        have B16 := heap_alloc_last w15 (.cells #[.bool true, .slice G16 2 2, .int .i64 0] 24)
        have S16 : w15.heap.size < (w15.alloc (.cells #[.bool true, .slice G16 2 2, .int .i64 0] 24)).heap.size := by simp
        have a16 := a15.on hB
        replace B1 := boxOn B1 hB S1
        replace S1 := Nat.lt_of_lt_of_le S1 hB.size
        replace B4 := boxOn B4 hB S4
        replace S4 := Nat.lt_of_lt_of_le S4 hB.size
        replace B10 := boxOn B10 hB S10
        replace S10 := Nat.lt_of_lt_of_le S10 hB.size
        replace J1 := ints_on J1 hB
        replace J4 := ints_on J4 hB
        replace I10 := ints_on I10 hB
        replace I16 := ints_on I16 hB
        go_wp2_with fail
        generalize hw : (w15.alloc (.cells #[.bool true, .slice G16 2 2, .int .i64 0] 24)) = w16 at *
        clear hw hB a15
        refine (part_any w16 false 2 (by decide) 1).mono ?_
        rintro e' w17 ⟨PX1, rfl, hB, hI⟩
        have a17 := a16.on hB
        replace B1 := boxOn B1 hB S1
        replace S1 := Nat.lt_of_lt_of_le S1 hB.size
        replace B4 := boxOn B4 hB S4
        replace S4 := Nat.lt_of_lt_of_le S4 hB.size
        replace B10 := boxOn B10 hB S10
        replace S10 := Nat.lt_of_lt_of_le S10 hB.size
        replace B16 := boxOn B16 hB S16
        replace S16 := Nat.lt_of_lt_of_le S16 hB.size
        replace J1 := ints_on J1 hB
        replace J4 := ints_on J4 hB
        replace I10 := ints_on I10 hB
        replace I16 := ints_on I16 hB
        have JX1 := ints_all hI
        try clear hw
        clear hB a16 hI
        go_wp2_with fail
        refine (Check_bad w17 0 w17.heap.size false PX1 1 1 [2] 1 JX1 (Nat.le_refl _) bad1).mono ?_
        rintro e' w18 ⟨rfl, hB⟩
        have a18 := a17.on hB
        replace B1 := boxOn B1 hB S1
        replace S1 := Nat.lt_of_lt_of_le S1 hB.size
        replace B4 := boxOn B4 hB S4
        replace S4 := Nat.lt_of_lt_of_le S4 hB.size
        replace B10 := boxOn B10 hB S10
        replace S10 := Nat.lt_of_lt_of_le S10 hB.size
        replace B16 := boxOn B16 hB S16
        replace S16 := Nat.lt_of_lt_of_le S16 hB.size
        replace J1 := ints_on J1 hB
        replace J4 := ints_on J4 hB
        replace I10 := ints_on I10 hB
        replace I16 := ints_on I16 hB
        replace JX1 := ints_on JX1 hB
        try clear hw
        clear hB a17
        clear JX1
        go_wp2_with fail
        refine (Check_bad w18 0 w18.heap.size true none 0 0 [] 0 (Ints.nil_ ..) (Nat.le_refl _) bad2).mono ?_
        rintro e' w19 ⟨rfl, hB⟩
        have a19 := a18.on hB
        replace B1 := boxOn B1 hB S1
        replace S1 := Nat.lt_of_lt_of_le S1 hB.size
        replace B4 := boxOn B4 hB S4
        replace S4 := Nat.lt_of_lt_of_le S4 hB.size
        replace B10 := boxOn B10 hB S10
        replace S10 := Nat.lt_of_lt_of_le S10 hB.size
        replace B16 := boxOn B16 hB S16
        replace S16 := Nat.lt_of_lt_of_le S16 hB.size
        replace J1 := ints_on J1 hB
        replace J4 := ints_on J4 hB
        replace I10 := ints_on I10 hB
        replace I16 := ints_on I16 hB
        try clear hw
        clear hB a18
        go_wp2_with fail
        refine (Check_bad w19 0 w19.heap.size false none 0 0 [] 1 (Ints.nil_ ..) (Nat.le_refl _) bad3).mono ?_
        rintro e' w20 ⟨rfl, hB⟩
        have a20 := a19.on hB
        replace B1 := boxOn B1 hB S1
        replace S1 := Nat.lt_of_lt_of_le S1 hB.size
        replace B4 := boxOn B4 hB S4
        replace S4 := Nat.lt_of_lt_of_le S4 hB.size
        replace B10 := boxOn B10 hB S10
        replace S10 := Nat.lt_of_lt_of_le S10 hB.size
        replace B16 := boxOn B16 hB S16
        replace S16 := Nat.lt_of_lt_of_le S16 hB.size
        replace J1 := ints_on J1 hB
        replace J4 := ints_on J4 hB
        replace I10 := ints_on I10 hB
        replace I16 := ints_on I16 hB
        try clear hw
        clear hB a19
        go_wp2_with fail
        refine (part_any w20 false 1 (by decide) 1025).mono ?_
        rintro e' w21 ⟨PX2, rfl, hB, hI⟩
        have a21 := a20.on hB
        replace B1 := boxOn B1 hB S1
        replace S1 := Nat.lt_of_lt_of_le S1 hB.size
        replace B4 := boxOn B4 hB S4
        replace S4 := Nat.lt_of_lt_of_le S4 hB.size
        replace B10 := boxOn B10 hB S10
        replace S10 := Nat.lt_of_lt_of_le S10 hB.size
        replace B16 := boxOn B16 hB S16
        replace S16 := Nat.lt_of_lt_of_le S16 hB.size
        replace J1 := ints_on J1 hB
        replace J4 := ints_on J4 hB
        replace I10 := ints_on I10 hB
        replace I16 := ints_on I16 hB
        have JX2 := ints_all hI
        try clear hw
        clear hB a20 hI
        go_wp2_with fail
        refine (Check_bad w21 0 w21.heap.size false PX2 1 1 [1] 1025 JX2 (Nat.le_refl _) bad4).mono ?_
        rintro e' w22 ⟨rfl, hB⟩
        have a22 := a21.on hB
        replace B1 := boxOn B1 hB S1
        replace S1 := Nat.lt_of_lt_of_le S1 hB.size
        replace B4 := boxOn B4 hB S4
        replace S4 := Nat.lt_of_lt_of_le S4 hB.size
        replace B10 := boxOn B10 hB S10
        replace S10 := Nat.lt_of_lt_of_le S10 hB.size
        replace B16 := boxOn B16 hB S16
        replace S16 := Nat.lt_of_lt_of_le S16 hB.size
        replace J1 := ints_on J1 hB
        replace J4 := ints_on J4 hB
        replace I10 := ints_on I10 hB
        replace I16 := ints_on I16 hB
        replace JX2 := ints_on JX2 hB
        try clear hw
        clear hB a21
        clear JX2
        go_wp2_with fail
        refine (part_any w22 false 0 (by decide) 0).mono ?_
        rintro e' w23 ⟨PX3, rfl, hB, hI⟩
        have a23 := a22.on hB
        replace B1 := boxOn B1 hB S1
        replace S1 := Nat.lt_of_lt_of_le S1 hB.size
        replace B4 := boxOn B4 hB S4
        replace S4 := Nat.lt_of_lt_of_le S4 hB.size
        replace B10 := boxOn B10 hB S10
        replace S10 := Nat.lt_of_lt_of_le S10 hB.size
        replace B16 := boxOn B16 hB S16
        replace S16 := Nat.lt_of_lt_of_le S16 hB.size
        replace J1 := ints_on J1 hB
        replace J4 := ints_on J4 hB
        replace I10 := ints_on I10 hB
        replace I16 := ints_on I16 hB
        have JX3 := ints_all hI
        try clear hw
        clear hB a22 hI
        go_wp2_with fail
        refine (Check_bad w23 0 w23.heap.size false PX3 1 1 [0] 0 JX3 (Nat.le_refl _) bad5).mono ?_
        rintro e' w24 ⟨rfl, hB⟩
        have a24 := a23.on hB
        replace B1 := boxOn B1 hB S1
        replace S1 := Nat.lt_of_lt_of_le S1 hB.size
        replace B4 := boxOn B4 hB S4
        replace S4 := Nat.lt_of_lt_of_le S4 hB.size
        replace B10 := boxOn B10 hB S10
        replace S10 := Nat.lt_of_lt_of_le S10 hB.size
        replace B16 := boxOn B16 hB S16
        replace S16 := Nat.lt_of_lt_of_le S16 hB.size
        replace J1 := ints_on J1 hB
        replace J4 := ints_on J4 hB
        replace I10 := ints_on I10 hB
        replace I16 := ints_on I16 hB
        replace JX3 := ints_on JX3 hB
        try clear hw
        clear hB a23
        clear JX3
        go_wp2_with fail
        refine (part_any w24 false 1 (by decide) (-1)).mono ?_
        rintro e' w25 ⟨PX4, rfl, hB, hI⟩
        have a25 := a24.on hB
        replace B1 := boxOn B1 hB S1
        replace S1 := Nat.lt_of_lt_of_le S1 hB.size
        replace B4 := boxOn B4 hB S4
        replace S4 := Nat.lt_of_lt_of_le S4 hB.size
        replace B10 := boxOn B10 hB S10
        replace S10 := Nat.lt_of_lt_of_le S10 hB.size
        replace B16 := boxOn B16 hB S16
        replace S16 := Nat.lt_of_lt_of_le S16 hB.size
        replace J1 := ints_on J1 hB
        replace J4 := ints_on J4 hB
        replace I10 := ints_on I10 hB
        replace I16 := ints_on I16 hB
        have JX4 := ints_all hI
        try clear hw
        clear hB a24 hI
        go_wp2_with fail
        refine (Check_bad w25 0 w25.heap.size false PX4 1 1 [1] (-1) JX4 (Nat.le_refl _) bad6).mono ?_
        rintro e' w26 ⟨rfl, hB⟩
        have a26 := a25.on hB
        replace B1 := boxOn B1 hB S1
        replace S1 := Nat.lt_of_lt_of_le S1 hB.size
        replace B4 := boxOn B4 hB S4
        replace S4 := Nat.lt_of_lt_of_le S4 hB.size
        replace B10 := boxOn B10 hB S10
        replace S10 := Nat.lt_of_lt_of_le S10 hB.size
        replace B16 := boxOn B16 hB S16
        replace S16 := Nat.lt_of_lt_of_le S16 hB.size
        replace J1 := ints_on J1 hB
        replace J4 := ints_on J4 hB
        replace I10 := ints_on I10 hB
        replace I16 := ints_on I16 hB
        replace JX4 := ints_on JX4 hB
        try clear hw
        clear hB a25
        clear JX4
        go_wp2_with fail
        refine (alive_any w26 a26.tab).mono ?_
        rintro e' w27 ⟨rfl, hB⟩
        have a27 := a26.on hB
        replace B1 := boxOn B1 hB S1
        replace S1 := Nat.lt_of_lt_of_le S1 hB.size
        replace B4 := boxOn B4 hB S4
        replace S4 := Nat.lt_of_lt_of_le S4 hB.size
        replace B10 := boxOn B10 hB S10
        replace S10 := Nat.lt_of_lt_of_le S10 hB.size
        replace B16 := boxOn B16 hB S16
        replace S16 := Nat.lt_of_lt_of_le S16 hB.size
        replace J1 := ints_on J1 hB
        replace J4 := ints_on J4 hB
        replace I10 := ints_on I10 hB
        replace I16 := ints_on I16 hB
        try clear hw
        clear hB a26
        go_wp2_with fail
        refine (part_any w27 false 2 (by decide) 0).mono ?_
        rintro e' w28 ⟨PX5, rfl, hB, hI⟩
        have a28 := a27.on hB
        replace B1 := boxOn B1 hB S1
        replace S1 := Nat.lt_of_lt_of_le S1 hB.size
        replace B4 := boxOn B4 hB S4
        replace S4 := Nat.lt_of_lt_of_le S4 hB.size
        replace B10 := boxOn B10 hB S10
        replace S10 := Nat.lt_of_lt_of_le S10 hB.size
        replace B16 := boxOn B16 hB S16
        replace S16 := Nat.lt_of_lt_of_le S16 hB.size
        replace J1 := ints_on J1 hB
        replace J4 := ints_on J4 hB
        replace I10 := ints_on I10 hB
        replace I16 := ints_on I16 hB
        have JX5 := ints_all hI
        try clear hw
        clear hB a27 hI
        go_wp2_with fail
        refine (Check_ok w28 0 w28.heap.size false PX5 1 1 [2] 0 JX5 (Nat.le_refl _) good1).mono ?_
        rintro e' w29 ⟨rfl, hB⟩
        have a29 := a28.on hB
        replace B1 := boxOn B1 hB S1
        replace S1 := Nat.lt_of_lt_of_le S1 hB.size
        replace B4 := boxOn B4 hB S4
        replace S4 := Nat.lt_of_lt_of_le S4 hB.size
        replace B10 := boxOn B10 hB S10
        replace S10 := Nat.lt_of_lt_of_le S10 hB.size
        replace B16 := boxOn B16 hB S16
        replace S16 := Nat.lt_of_lt_of_le S16 hB.size
        replace J1 := ints_on J1 hB
        replace J4 := ints_on J4 hB
        replace I10 := ints_on I10 hB
        replace I16 := ints_on I16 hB
        replace JX5 := ints_on JX5 hB
        try clear hw
        clear hB a28
        clear JX5
        obtain ⟨⟨p10, q10, r10⟩, u10, v10, x10⟩ := boxD B10
        go_wp2_with fail
        refine (Pa.dyadSame_any w29 Dn.zero.neg false G10 none m10 o10 0 0 (canon 4294967296 Dn.zero.m) [] Dn.zero.e 0 I10 (Ints.nil_ ..) true (same_true rfl rfl rfl)).mono ?_
        rintro e' w30 ⟨rfl, hB⟩
        have a30 := a29.on hB
        replace B1 := boxOn B1 hB S1
        replace S1 := Nat.lt_of_lt_of_le S1 hB.size
        replace B4 := boxOn B4 hB S4
        replace S4 := Nat.lt_of_lt_of_le S4 hB.size
        replace B10 := boxOn B10 hB S10
        replace S10 := Nat.lt_of_lt_of_le S10 hB.size
        replace B16 := boxOn B16 hB S16
        replace S16 := Nat.lt_of_lt_of_le S16 hB.size
        replace J1 := ints_on J1 hB
        replace J4 := ints_on J4 hB
        replace I10 := ints_on I10 hB
        replace I16 := ints_on I16 hB
        clear p10 q10 r10 u10 v10 x10
        try clear hw
        clear hB a29
        obtain ⟨⟨p16, q16, r16⟩, u16, v16, x16⟩ := boxD B16
        go_wp2_with fail
        refine (Check_ok w30 0 w30.heap.size true G16 2 2 [0, 2147483648] 0 I16 (Nat.le_refl _) good2).mono ?_
        rintro e' w31 ⟨rfl, hB⟩
        have a31 := a30.on hB
        replace B1 := boxOn B1 hB S1
        replace S1 := Nat.lt_of_lt_of_le S1 hB.size
        replace B4 := boxOn B4 hB S4
        replace S4 := Nat.lt_of_lt_of_le S4 hB.size
        replace B10 := boxOn B10 hB S10
        replace S10 := Nat.lt_of_lt_of_le S10 hB.size
        replace B16 := boxOn B16 hB S16
        replace S16 := Nat.lt_of_lt_of_le S16 hB.size
        replace J1 := ints_on J1 hB
        replace J4 := ints_on J4 hB
        replace I10 := ints_on I10 hB
        replace I16 := ints_on I16 hB
        clear p16 q16 r16 u16 v16 x16
        try clear hw
        clear hB a30
        obtain ⟨⟨p16, q16, r16⟩, u16, v16, x16⟩ := boxD B16
        go_wp2
        go_ret
        exact ⟨rfl, a31.below⟩
end Dy
end Go.Proofs.YtlbkepiflhchdaaDoor
