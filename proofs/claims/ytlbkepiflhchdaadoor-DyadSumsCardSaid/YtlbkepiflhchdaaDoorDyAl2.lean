/- The examples of the chapter: a walk (printed by a program of mine). -/
import Derived.Test.YtlbkepiflhchdaaDoorDyAl
namespace Go.Proofs.YtlbkepiflhchdaaDoor
open Go.RowKit
namespace Dy
open Dp
/-- Blocks that were there are as they were. -/
def Keeps (W w : World) : Prop := ∀ p, p < W.heap.size → w.heap[p]? = W.heap[p]?
theorem Keeps.refl (W : World) : Keeps W W := fun _ _ => rfl
theorem Keeps.on {W w w' : World} (h : Keeps W w) (hs : W.heap.size ≤ w.heap.size) (hb : Below w.heap.size w w') : Keeps W w' := fun p hp => (hb.block p (Nat.lt_of_lt_of_le hp hs)).trans (h p hp)
theorem Amid.drew {w0 w : World} (h : Amid w0 w) : Amid w0 w.drew := ⟨h.below.drew, h.tab.keep rfl⟩
theorem same_true {s s' : Bool} {xs ys : List Int} {e e' : Int} (h1 : s = s') (h2 : xs = ys) (h3 : e = e') : Pa.Dy.same ⟨s, xs, e⟩ ⟨s', ys, e'⟩ = true := by
  subst h1 h2 h3
  exact Pa.Dy.same_refl _
set_option maxHeartbeats 6400000 in
set_option maxRecDepth 100000 in
/-- headcountlaw02.alive: the chapter's examples hold. -/
theorem alive_any (w : World) (hT : Tab w) : Calls Tryd.prog 34 #[] w fun e w' => e = .returned (.bool true) ∧ Below w.heap.size w w' := by
  have a0 : Amid w w := ⟨Below.refl _ _, hT⟩
  have AL1 := Lib.hid al1
  have AL2 := Lib.hid al2
  have AL3 := Lib.hid al3
  have AL4 := Lib.hid al4
  go_enter Tryd.func34, Tryd.ntmps34
  go_wp2_with fail
  refine (Of_any w 3 (by decide) (by decide) false 3 rfl rfl).mono ?_
  rintro e w1 ⟨A1, n1, rfl, hB1, hI1⟩
  have a1 := a0.on hB1
  have i1 := ints_all hI1
  clear hB1 hI1
  go_wp2_with fail
  refine (Half_ok w1 ⟨false, 3, 0⟩ (may_small _ _ _ (by decide) (by decide) (by decide) (by decide)) A1 n1 n1 i1 a1.tab ⟨false, 3, 1⟩ 0 AL1.out).mono ?_
  rintro e w2 ⟨A2, n2, c2, rfl, hc2, hB2, hI2⟩
  have a2 := a1.on hB2
  have i2 := ints_all hI2
  clear hB2 hI2
  go_wp2_with fail
  have b3 : Box (w2.alloc (.cells #[.bool false, .slice A2 n2 c2, .int .i64 1] 24)) w2.heap.size ⟨false, 3, 1⟩ := Box.new ⟨false, 3, 1⟩ _ _ _ i2 _ _ rfl rfl
  have a3 := a2.alloc (.cells #[.bool false, .slice A2 n2 c2, .int .i64 1] 24)
  generalize hw3 : (w2.alloc (.cells #[.bool false, .slice A2 n2 c2, .int .i64 1] 24)) = w3 at *
  clear hw3
  refine (Of_any w3 2 (by decide) (by decide) false 2 rfl rfl).mono ?_
  rintro e w4 ⟨A4, n4, rfl, hB4, hI4⟩
  have a4 := a3.on hB4
  have i4 := ints_all hI4
  replace b3 := b3.below hB4
  clear hB4 hI4
  go_wp2_with fail
  refine (Half_ok w4 ⟨false, 2, 0⟩ (may_small _ _ _ (by decide) (by decide) (by decide) (by decide)) A4 n4 n4 i4 a4.tab ⟨false, 1, 0⟩ 0 AL2.out).mono ?_
  rintro e w5 ⟨A5, n5, c5, rfl, hc5, hB5, hI5⟩
  have a5 := a4.on hB5
  have i5 := ints_all hI5
  replace b3 := b3.below hB5
  clear hB5 hI5
  go_wp2_with fail
  have b6 : Box (w5.alloc (.cells #[.bool false, .slice A5 n5 c5, .int .i64 0] 24)) w5.heap.size ⟨false, 1, 0⟩ := Box.new ⟨false, 1, 0⟩ _ _ _ i5 _ _ rfl rfl
  replace b3 := b3.below ((Below.refl _ _).alloc (Nat.le_refl _) (.cells #[.bool false, .slice A5 n5 c5, .int .i64 0] 24))
  have a6 := a5.alloc (.cells #[.bool false, .slice A5 n5 c5, .int .i64 0] 24)
  generalize hw6 : (w5.alloc (.cells #[.bool false, .slice A5 n5 c5, .int .i64 0] 24)) = w6 at *
  clear hw6
  refine (part_any w6 false 1 (by decide) 1).mono ?_
  rintro e w7 ⟨A7, rfl, hB7, hI7⟩
  have a7 := a6.on hB7
  have i7 := ints_all hI7
  have i7 : Ints w7 0 w7.heap.size .u32 A7 1 (canon 4294967296 1) := by rw [canon_one 1 (by decide) (by decide)]; exact ints_all hI7
  replace b3 := b3.below hB7
  replace b6 := b6.below hB7
  clear hB7 hI7
  go_wp2_with fail
  refine (part_any w7 false 1 (by decide) 1).mono ?_
  rintro e w8 ⟨A8, rfl, hB8, hI8⟩
  have a8 := a7.on hB8
  have i8 := ints_all hI8
  have i8 : Ints w8 0 w8.heap.size .u32 A8 1 (canon 4294967296 1) := by rw [canon_one 1 (by decide) (by decide)]; exact ints_all hI8
  replace b3 := b3.below hB8
  replace b6 := b6.below hB8
  replace i7 := ints_on i7 hB8
  clear hB8 hI8
  go_wp2_with fail
  refine (Add_ok w8 ⟨false, 1, 1⟩ ⟨false, 1, 1⟩ (may_small _ _ _ (by decide) (by decide) (by decide) (by decide)) (may_small _ _ _ (by decide) (by decide) (by decide) (by decide)) A7 1 1 i7 A8 1 1 i8 a8.tab ⟨false, 1, 0⟩ 0 AL3.out).mono ?_
  rintro e w9 ⟨A9, n9, c9, rfl, hc9, hB9, hI9⟩
  have a9 := a8.on hB9
  have i9 := ints_all hI9
  replace b3 := b3.below hB9
  replace b6 := b6.below hB9
  clear hB9 hI9
  go_wp2_with fail
  have b10 : Box (w9.alloc (.cells #[.bool false, .slice A9 n9 c9, .int .i64 0] 24)) w9.heap.size ⟨false, 1, 0⟩ := Box.new ⟨false, 1, 0⟩ _ _ _ i9 _ _ rfl rfl
  replace b3 := b3.below ((Below.refl _ _).alloc (Nat.le_refl _) (.cells #[.bool false, .slice A9 n9 c9, .int .i64 0] 24))
  replace b6 := b6.below ((Below.refl _ _).alloc (Nat.le_refl _) (.cells #[.bool false, .slice A9 n9 c9, .int .i64 0] 24))
  have a10 := a9.alloc (.cells #[.bool false, .slice A9 n9 c9, .int .i64 0] 24)
  generalize hw10 : (w9.alloc (.cells #[.bool false, .slice A9 n9 c9, .int .i64 0] 24)) = w10 at *
  clear hw10
  refine (part_any w10 false 1 (by decide) 1).mono ?_
  rintro e w11 ⟨A11, rfl, hB11, hI11⟩
  have a11 := a10.on hB11
  have i11 := ints_all hI11
  have i11 : Ints w11 0 w11.heap.size .u32 A11 1 (canon 4294967296 1) := by rw [canon_one 1 (by decide) (by decide)]; exact ints_all hI11
  replace b3 := b3.below hB11
  replace b6 := b6.below hB11
  replace b10 := b10.below hB11
  clear hB11 hI11
  go_wp2_with fail
  refine (part_any w11 false 3 (by decide) 2).mono ?_
  rintro e w12 ⟨A12, rfl, hB12, hI12⟩
  have a12 := a11.on hB12
  have i12 := ints_all hI12
  have i12 : Ints w12 0 w12.heap.size .u32 A12 1 (canon 4294967296 3) := by rw [canon_one 3 (by decide) (by decide)]; exact ints_all hI12
  replace b3 := b3.below hB12
  replace b6 := b6.below hB12
  replace b10 := b10.below hB12
  replace i11 := ints_on i11 hB12
  clear hB12 hI12
  go_wp2_with fail
  refine (Sub_ok w12 ⟨false, 1, 1⟩ ⟨false, 3, 2⟩ (may_small _ _ _ (by decide) (by decide) (by decide) (by decide)) (may_small _ _ _ (by decide) (by decide) (by decide) (by decide)) A11 1 1 i11 A12 1 1 i12 a12.tab ⟨true, 1, 2⟩ 0 AL4.out).mono ?_
  rintro e w13 ⟨A13, n13, c13, rfl, hc13, hB13, hI13⟩
  have a13 := a12.on hB13
  have i13 := ints_all hI13
  replace b3 := b3.below hB13
  replace b6 := b6.below hB13
  replace b10 := b10.below hB13
  clear hB13 hI13
  go_wp2_with fail
  have b14 : Box (w13.alloc (.cells #[.bool true, .slice A13 n13 c13, .int .i64 2] 24)) w13.heap.size ⟨true, 1, 2⟩ := Box.new ⟨true, 1, 2⟩ _ _ _ i13 _ _ rfl rfl
  replace b3 := b3.below ((Below.refl _ _).alloc (Nat.le_refl _) (.cells #[.bool true, .slice A13 n13 c13, .int .i64 2] 24))
  replace b6 := b6.below ((Below.refl _ _).alloc (Nat.le_refl _) (.cells #[.bool true, .slice A13 n13 c13, .int .i64 2] 24))
  replace b10 := b10.below ((Below.refl _ _).alloc (Nat.le_refl _) (.cells #[.bool true, .slice A13 n13 c13, .int .i64 2] 24))
  have a14 := a13.alloc (.cells #[.bool true, .slice A13 n13 c13, .int .i64 2] 24)
  generalize hw14 : (w13.alloc (.cells #[.bool true, .slice A13 n13 c13, .int .i64 2] 24)) = w14 at *
  clear hw14
  obtain ⟨X0, x0, y0, hb0', hi0⟩ := b3.some_
  have hb0 : w14.heap[w2.heap.size]? = some (.cells #[.bool false, .slice X0 x0 y0, .int .i64 1] 24 (0, 0)) := hb0'
  have hp0 : w2.heap.size < w14.heap.size := (Array.getElem?_eq_some_iff.1 hb0).1
  clear hb0'
  obtain ⟨X1, x1, y1, hb1', hi1⟩ := b6.some_
  have hb1 : w14.heap[w5.heap.size]? = some (.cells #[.bool false, .slice X1 x1 y1, .int .i64 0] 24 (0, 0)) := hb1'
  have hp1 : w5.heap.size < w14.heap.size := (Array.getElem?_eq_some_iff.1 hb1).1
  clear hb1'
  obtain ⟨X2, x2, y2, hb2', hi2⟩ := b10.some_
  have hb2 : w14.heap[w9.heap.size]? = some (.cells #[.bool false, .slice X2 x2 y2, .int .i64 0] 24 (0, 0)) := hb2'
  have hp2 : w9.heap.size < w14.heap.size := (Array.getElem?_eq_some_iff.1 hb2).1
  clear hb2'
  obtain ⟨X3, x3, y3, hb3', hi3⟩ := b14.some_
  have hb3 : w14.heap[w13.heap.size]? = some (.cells #[.bool true, .slice X3 x3 y3, .int .i64 2] 24 (0, 0)) := hb3'
  have hp3 : w13.heap.size < w14.heap.size := (Array.getElem?_eq_some_iff.1 hb3).1
  clear hb3'
  have hi0 : Ints w14 0 w14.heap.size .u32 X0 x0 (canon 4294967296 3) := hi0
  have hi1 : Ints w14 0 w14.heap.size .u32 X1 x1 (canon 4294967296 1) := hi1
  have hi2 : Ints w14 0 w14.heap.size .u32 X2 x2 (canon 4294967296 1) := hi2
  have hi3 : Ints w14 0 w14.heap.size .u32 X3 x3 (canon 4294967296 1) := hi3
  have k14 : Keeps w14 w14.drew := fun _ _ => rfl
  have s14 : w14.heap.size ≤ w14.drew.heap.size := Nat.le_refl _
  have a15 := a14.drew
  clear b3 b6 b10 b14 a14
  have j0 : Ints w14.drew 0 w14.drew.heap.size .u32 X0 x0 (canon 4294967296 3) := hi0.drewN 1
  clear hi0
  have j1 : Ints w14.drew 0 w14.drew.heap.size .u32 X1 x1 (canon 4294967296 1) := hi1.drewN 1
  clear hi1
  have j2 : Ints w14.drew 0 w14.drew.heap.size .u32 X2 x2 (canon 4294967296 1) := hi2.drewN 1
  clear hi2
  have j3 : Ints w14.drew 0 w14.drew.heap.size .u32 X3 x3 (canon 4294967296 1) := hi3.drewN 1
  clear hi3
  refine region_E (Keeps w14) [] (m := 40) (L := #[false, false, false, false, false, false, false, false, false, false, false, false, false, false, false, false, false, false, false, false, false, false, false, false, false, false, false, false, false, false, false, false, false, false, false, false, false, false, false, false]) (by kernel_rfl) (by rfl) (by rfl) ?_
  refine stepK (i := 0) (L := #[true, false, false, false, false, false, false, false, false, false, false, false, false, false, false, false, false, false, false, false, false, false, false, false, false, false, false, false, false, false, false, false, false, false, false, false, false, false, false, false]) rfl (by rfl) (by kernel_rfl) (by rfl) (fun K hK => ?_)
  go_simp
  go_at_call 38
  refine (Of_any w14.drew 12 (by decide) (by decide) false 12 rfl rfl).mono ?_
  rintro e v15 ⟨Ao, no_, rfl, hB, hI⟩
  have a15' := a15.on hB
  have k15' := k14.on s14 hB
  have s15' := Nat.le_trans s14 hB.size
  replace j0 := ints_on j0 hB
  replace j1 := ints_on j1 hB
  replace j2 := ints_on j2 hB
  replace j3 := ints_on j3 hB
  have jo := ints_all hI
  clear hB hI
  refine hK _ _ ⟨fun _ _ => k15', ?_⟩
  clear hK K
  try simp only []
  refine stepK (i := 1) (L := #[true, true, false, false, false, false, false, false, false, false, false, false, false, false, false, false, false, false, false, false, false, false, false, false, false, false, false, false, false, false, false, false, false, false, false, false, false, false, false, false]) rfl (by rfl) (by kernel_rfl) (by rfl) (fun K hK => ?_)
  go_simp
  go_at_call 37
  refine (part_any v15 false 12 (by decide) 0).mono ?_
  rintro e v16 ⟨Aq, rfl, hB, hI⟩
  have a16' := a15'.on hB
  have k16' := k15'.on s15' hB
  have s16' := Nat.le_trans s15' hB.size
  replace j0 := ints_on j0 hB
  replace j1 := ints_on j1 hB
  replace j2 := ints_on j2 hB
  replace j3 := ints_on j3 hB
  replace jo := ints_on jo hB
  have jq : Ints v16 0 v16.heap.size .u32 Aq 1 (canon 4294967296 12) := by rw [canon_one 12 (by decide) (by decide)]; exact ints_all hI
  clear hB hI
  refine hK _ _ ⟨fun _ _ => k16', ?_⟩
  clear hK K
  try simp only []
  refine stepK (i := 2) (L := #[true, true, true, false, false, false, false, false, false, false, false, false, false, false, false, false, false, false, false, false, false, false, false, false, false, false, false, false, false, false, false, false, false, false, false, false, false, false, false, false]) rfl (by rfl) (by kernel_rfl) (by rfl) (fun K hK => ?_)
  go_simp
  go_at_call 36
  refine (Pa.dyadSame_any v16 false false _ _ _ _ _ _ _ _ 0 0 jo jq true (same_true rfl rfl rfl)).mono ?_
  rintro e v17 ⟨rfl, hB⟩
  have a17' := a16'.on hB
  have k17' := k16'.on s16' hB
  have s17' := Nat.le_trans s16' hB.size
  replace j0 := ints_on j0 hB
  replace j1 := ints_on j1 hB
  replace j2 := ints_on j2 hB
  replace j3 := ints_on j3 hB
  replace jo := ints_on jo hB
  replace jq := ints_on jq hB
  clear hB
  refine hK _ _ ⟨fun _ _ => k17', ?_⟩
  clear hK K
  try simp only []
  refine pureE (i := 3) (L := #[true, true, true, true, false, false, false, false, false, false, false, false, false, false, false, false, false, false, false, false, false, false, false, false, false, false, false, false, false, false, false, false, false, false, false, false, false, false, false, false]) (v := ?_) rfl (by rfl) (by kernel_rfl) (by kernel_rfl) (by kernel_rfl) (fun _ _ _ h => h) (by rfl) ?hy4 ?rest4
  case hy4 => intro w; go_simp; (try with_reducible rfl)
  try simp only [Act.put, List.setIfInBounds_toArray, List.set_cons_zero, List.set_cons_succ]
  refine pureE (i := 4) (L := #[true, true, true, true, true, false, false, false, false, false, false, false, false, false, false, false, false, false, false, false, false, false, false, false, false, false, false, false, false, false, false, false, false, false, false, false, false, false, false, false]) (v := ?_) rfl (by rfl) (by kernel_rfl) (by kernel_rfl) (by kernel_rfl) (fun _ _ _ h => h) (by rfl) ?hy5 ?rest5
  case hy5 => intro w; go_simp; (try with_reducible rfl)
  try simp only [Act.put, List.setIfInBounds_toArray, List.set_cons_zero, List.set_cons_succ]
  refine pureE (i := 5) (L := #[true, true, true, true, true, true, false, false, false, false, false, false, false, false, false, false, false, false, false, false, false, false, false, false, false, false, false, false, false, false, false, false, false, false, false, false, false, false, false, false]) (v := ?_) rfl (by rfl) (by kernel_rfl) (by kernel_rfl) (by kernel_rfl) (fun _ _ _ h => h) (by rfl) ?hy6 ?rest6
  case hy6 => intro w; go_simp; (try with_reducible rfl)
  try simp only [Act.put, List.setIfInBounds_toArray, List.set_cons_zero, List.set_cons_succ]
  refine pureE (i := 6) (L := #[true, true, true, true, true, true, true, false, false, false, false, false, false, false, false, false, false, false, false, false, false, false, false, false, false, false, false, false, false, false, false, false, false, false, false, false, false, false, false, false]) (v := ?_) rfl (by rfl) (by kernel_rfl) (by kernel_rfl) (by kernel_rfl) (fun _ _ _ h => h) (by rfl) ?hy7 ?rest7
  case hy7 => intro w; go_simp; (try with_reducible rfl)
  try simp only [Act.put, List.setIfInBounds_toArray, List.set_cons_zero, List.set_cons_succ]
  refine pureE (i := 7) (L := #[true, true, true, true, true, true, true, true, false, false, false, false, false, false, false, false, false, false, false, false, false, false, false, false, false, false, false, false, false, false, false, false, false, false, false, false, false, false, false, false]) (v := ?_) rfl (by rfl) (by kernel_rfl) (by kernel_rfl) (by kernel_rfl) (fun _ _ _ h => h) (by rfl) ?hy8 ?rest8
  case hy8 => intro w; go_simp; (try with_reducible rfl)
  try simp only [Act.put, List.setIfInBounds_toArray, List.set_cons_zero, List.set_cons_succ]
  refine readE (i := 8) (L := #[true, true, true, true, true, true, true, true, true, false, false, false, false, false, false, false, false, false, false, false, false, false, false, false, false, false, false, false, false, false, false, false, false, false, false, false, false, false, false, false]) (v := .agg #[.bool false, .slice X0 x0 y0, .int .i64 1]) rfl (by rfl) (by kernel_rfl) (by kernel_rfl) (by kernel_rfl) (fun _ _ _ h => h) (by assumption) (by rfl) ?hyR1 ?restR1
  case hyR1 =>
    intro w' h1
    obtain ⟨⟨k1, k2, k3⟩, _⟩ := boxD ((h1 _ hp0).trans hb0)
    go_simp
  try simp only [Act.put, List.setIfInBounds_toArray, List.set_cons_zero, List.set_cons_succ]
  refine stepK (i := 9) (L := #[true, true, true, true, true, true, true, true, true, true, false, false, false, false, false, false, false, false, false, false, false, false, false, false, false, false, false, false, false, false, false, false, false, false, false, false, false, false, false, false]) rfl (by rfl) (by kernel_rfl) (by rfl) (fun K hK => ?_)
  go_simp
  go_at_call 37
  refine (part_any v17 false 3 (by decide) 1).mono ?_
  rintro e v18 ⟨Ar, rfl, hB, hI⟩
  have a18' := a17'.on hB
  have k18' := k17'.on s17' hB
  have s18' := Nat.le_trans s17' hB.size
  replace j0 := ints_on j0 hB
  replace j1 := ints_on j1 hB
  replace j2 := ints_on j2 hB
  replace j3 := ints_on j3 hB
  have jr : Ints v18 0 v18.heap.size .u32 Ar 1 (canon 4294967296 3) := by rw [canon_one 3 (by decide) (by decide)]; exact ints_all hI
  clear hB hI
  refine hK _ _ ⟨fun _ _ => k18', ?_⟩
  clear hK K
  try simp only []
  refine stepK (i := 10) (L := #[true, true, true, true, true, true, true, true, true, true, true, false, false, false, false, false, false, false, false, false, false, false, false, false, false, false, false, false, false, false, false, false, false, false, false, false, false, false, false, false]) rfl (by rfl) (by kernel_rfl) (by rfl) (fun K hK => ?_)
  go_simp
  go_at_call 36
  refine (Pa.dyadSame_any v18 false false _ _ _ _ _ _ _ _ 1 1 j0 jr true (same_true rfl rfl rfl)).mono ?_
  rintro e v19 ⟨rfl, hB⟩
  have a19' := a18'.on hB
  have k19' := k18'.on s18' hB
  have s19' := Nat.le_trans s18' hB.size
  replace j0 := ints_on j0 hB
  replace j1 := ints_on j1 hB
  replace j2 := ints_on j2 hB
  replace j3 := ints_on j3 hB
  replace jr := ints_on jr hB
  clear hB
  refine hK _ _ ⟨fun _ _ => k19', ?_⟩
  clear hK K
  try simp only []
  refine pureE (i := 11) (L := #[true, true, true, true, true, true, true, true, true, true, true, true, false, false, false, false, false, false, false, false, false, false, false, false, false, false, false, false, false, false, false, false, false, false, false, false, false, false, false, false]) (v := ?_) rfl (by rfl) (by kernel_rfl) (by kernel_rfl) (by kernel_rfl) (fun _ _ _ h => h) (by rfl) ?hy12 ?rest12
  case hy12 => intro w; go_simp; (try with_reducible rfl)
  try simp only [Act.put, List.setIfInBounds_toArray, List.set_cons_zero, List.set_cons_succ]
  refine pureE (i := 12) (L := #[true, true, true, true, true, true, true, true, true, true, true, true, true, false, false, false, false, false, false, false, false, false, false, false, false, false, false, false, false, false, false, false, false, false, false, false, false, false, false, false]) (v := ?_) rfl (by rfl) (by kernel_rfl) (by kernel_rfl) (by kernel_rfl) (fun _ _ _ h => h) (by rfl) ?hy13 ?rest13
  case hy13 => intro w; go_simp; (try with_reducible rfl)
  try simp only [Act.put, List.setIfInBounds_toArray, List.set_cons_zero, List.set_cons_succ]
  refine pureE (i := 13) (L := #[true, true, true, true, true, true, true, true, true, true, true, true, true, true, false, false, false, false, false, false, false, false, false, false, false, false, false, false, false, false, false, false, false, false, false, false, false, false, false, false]) (v := ?_) rfl (by rfl) (by kernel_rfl) (by kernel_rfl) (by kernel_rfl) (fun _ _ _ h => h) (by rfl) ?hy14 ?rest14
  case hy14 => intro w; go_simp; (try with_reducible rfl)
  try simp only [Act.put, List.setIfInBounds_toArray, List.set_cons_zero, List.set_cons_succ]
  refine pureE (i := 14) (L := #[true, true, true, true, true, true, true, true, true, true, true, true, true, true, true, false, false, false, false, false, false, false, false, false, false, false, false, false, false, false, false, false, false, false, false, false, false, false, false, false]) (v := ?_) rfl (by rfl) (by kernel_rfl) (by kernel_rfl) (by kernel_rfl) (fun _ _ _ h => h) (by rfl) ?hy15 ?rest15
  case hy15 => intro w; go_simp; (try with_reducible rfl)
  try simp only [Act.put, List.setIfInBounds_toArray, List.set_cons_zero, List.set_cons_succ]
  refine pureE (i := 15) (L := #[true, true, true, true, true, true, true, true, true, true, true, true, true, true, true, true, false, false, false, false, false, false, false, false, false, false, false, false, false, false, false, false, false, false, false, false, false, false, false, false]) (v := ?_) rfl (by rfl) (by kernel_rfl) (by kernel_rfl) (by kernel_rfl) (fun _ _ _ h => h) (by rfl) ?hy16 ?rest16
  case hy16 => intro w; go_simp; (try with_reducible rfl)
  try simp only [Act.put, List.setIfInBounds_toArray, List.set_cons_zero, List.set_cons_succ]
  refine pureE (i := 16) (L := #[true, true, true, true, true, true, true, true, true, true, true, true, true, true, true, true, true, false, false, false, false, false, false, false, false, false, false, false, false, false, false, false, false, false, false, false, false, false, false, false]) (v := ?_) rfl (by rfl) (by kernel_rfl) (by kernel_rfl) (by kernel_rfl) (fun _ _ _ h => h) (by rfl) ?hy17 ?rest17
  case hy17 => intro w; go_simp; (try with_reducible rfl)
  try simp only [Act.put, List.setIfInBounds_toArray, List.set_cons_zero, List.set_cons_succ]
  refine readE (i := 17) (L := #[true, true, true, true, true, true, true, true, true, true, true, true, true, true, true, true, true, true, false, false, false, false, false, false, false, false, false, false, false, false, false, false, false, false, false, false, false, false, false, false]) (v := .agg #[.bool false, .slice X1 x1 y1, .int .i64 0]) rfl (by rfl) (by kernel_rfl) (by kernel_rfl) (by kernel_rfl) (fun _ _ _ h => h) (by assumption) (by rfl) ?hyR2 ?restR2
  case hyR2 =>
    intro w' h1
    obtain ⟨⟨k1, k2, k3⟩, _⟩ := boxD ((h1 _ hp1).trans hb1)
    go_simp
  try simp only [Act.put, List.setIfInBounds_toArray, List.set_cons_zero, List.set_cons_succ]
  refine stepK (i := 18) (L := #[true, true, true, true, true, true, true, true, true, true, true, true, true, true, true, true, true, true, true, false, false, false, false, false, false, false, false, false, false, false, false, false, false, false, false, false, false, false, false, false]) rfl (by rfl) (by kernel_rfl) (by rfl) (fun K hK => ?_)
  go_simp
  go_at_call 37
  refine (part_any v19 false 1 (by decide) 0).mono ?_
  rintro e v20 ⟨At, rfl, hB, hI⟩
  have a20' := a19'.on hB
  have k20' := k19'.on s19' hB
  have s20' := Nat.le_trans s19' hB.size
  replace j1 := ints_on j1 hB
  replace j2 := ints_on j2 hB
  replace j3 := ints_on j3 hB
  have jt : Ints v20 0 v20.heap.size .u32 At 1 (canon 4294967296 1) := by rw [canon_one 1 (by decide) (by decide)]; exact ints_all hI
  clear hB hI
  refine hK _ _ ⟨fun _ _ => k20', ?_⟩
  clear hK K
  try simp only []
  refine stepK (i := 19) (L := #[true, true, true, true, true, true, true, true, true, true, true, true, true, true, true, true, true, true, true, true, false, false, false, false, false, false, false, false, false, false, false, false, false, false, false, false, false, false, false, false]) rfl (by rfl) (by kernel_rfl) (by rfl) (fun K hK => ?_)
  go_simp
  go_at_call 36
  refine (Pa.dyadSame_any v20 false false _ _ _ _ _ _ _ _ 0 0 j1 jt true (same_true rfl rfl rfl)).mono ?_
  rintro e v21 ⟨rfl, hB⟩
  have a21' := a20'.on hB
  have k21' := k20'.on s20' hB
  have s21' := Nat.le_trans s20' hB.size
  replace j1 := ints_on j1 hB
  replace j2 := ints_on j2 hB
  replace j3 := ints_on j3 hB
  replace jt := ints_on jt hB
  clear hB
  refine hK _ _ ⟨fun _ _ => k21', ?_⟩
  clear hK K
  try simp only []
  refine pureE (i := 20) (L := #[true, true, true, true, true, true, true, true, true, true, true, true, true, true, true, true, true, true, true, true, true, false, false, false, false, false, false, false, false, false, false, false, false, false, false, false, false, false, false, false]) (v := ?_) rfl (by rfl) (by kernel_rfl) (by kernel_rfl) (by kernel_rfl) (fun _ _ _ h => h) (by rfl) ?hy21 ?rest21
  case hy21 => intro w; go_simp; (try with_reducible rfl)
  try simp only [Act.put, List.setIfInBounds_toArray, List.set_cons_zero, List.set_cons_succ]
  refine pureE (i := 21) (L := #[true, true, true, true, true, true, true, true, true, true, true, true, true, true, true, true, true, true, true, true, true, true, false, false, false, false, false, false, false, false, false, false, false, false, false, false, false, false, false, false]) (v := ?_) rfl (by rfl) (by kernel_rfl) (by kernel_rfl) (by kernel_rfl) (fun _ _ _ h => h) (by rfl) ?hy22 ?rest22
  case hy22 => intro w; go_simp; (try with_reducible rfl)
  try simp only [Act.put, List.setIfInBounds_toArray, List.set_cons_zero, List.set_cons_succ]
  refine pureE (i := 22) (L := #[true, true, true, true, true, true, true, true, true, true, true, true, true, true, true, true, true, true, true, true, true, true, true, false, false, false, false, false, false, false, false, false, false, false, false, false, false, false, false, false]) (v := ?_) rfl (by rfl) (by kernel_rfl) (by kernel_rfl) (by kernel_rfl) (fun _ _ _ h => h) (by rfl) ?hy23 ?rest23
  case hy23 => intro w; go_simp; (try with_reducible rfl)
  try simp only [Act.put, List.setIfInBounds_toArray, List.set_cons_zero, List.set_cons_succ]
  refine pureE (i := 23) (L := #[true, true, true, true, true, true, true, true, true, true, true, true, true, true, true, true, true, true, true, true, true, true, true, true, false, false, false, false, false, false, false, false, false, false, false, false, false, false, false, false]) (v := ?_) rfl (by rfl) (by kernel_rfl) (by kernel_rfl) (by kernel_rfl) (fun _ _ _ h => h) (by rfl) ?hy24 ?rest24
  case hy24 => intro w; go_simp; (try with_reducible rfl)
  try simp only [Act.put, List.setIfInBounds_toArray, List.set_cons_zero, List.set_cons_succ]
  refine pureE (i := 24) (L := #[true, true, true, true, true, true, true, true, true, true, true, true, true, true, true, true, true, true, true, true, true, true, true, true, true, false, false, false, false, false, false, false, false, false, false, false, false, false, false, false]) (v := ?_) rfl (by rfl) (by kernel_rfl) (by kernel_rfl) (by kernel_rfl) (fun _ _ _ h => h) (by rfl) ?hy25 ?rest25
  case hy25 => intro w; go_simp; (try with_reducible rfl)
  try simp only [Act.put, List.setIfInBounds_toArray, List.set_cons_zero, List.set_cons_succ]
  refine pureE (i := 25) (L := #[true, true, true, true, true, true, true, true, true, true, true, true, true, true, true, true, true, true, true, true, true, true, true, true, true, true, false, false, false, false, false, false, false, false, false, false, false, false, false, false]) (v := ?_) rfl (by rfl) (by kernel_rfl) (by kernel_rfl) (by kernel_rfl) (fun _ _ _ h => h) (by rfl) ?hy26 ?rest26
  case hy26 => intro w; go_simp; (try with_reducible rfl)
  try simp only [Act.put, List.setIfInBounds_toArray, List.set_cons_zero, List.set_cons_succ]
  refine readE (i := 26) (L := #[true, true, true, true, true, true, true, true, true, true, true, true, true, true, true, true, true, true, true, true, true, true, true, true, true, true, true, false, false, false, false, false, false, false, false, false, false, false, false, false]) (v := .agg #[.bool false, .slice X2 x2 y2, .int .i64 0]) rfl (by rfl) (by kernel_rfl) (by kernel_rfl) (by kernel_rfl) (fun _ _ _ h => h) (by assumption) (by rfl) ?hyR3 ?restR3
  case hyR3 =>
    intro w' h1
    obtain ⟨⟨k1, k2, k3⟩, _⟩ := boxD ((h1 _ hp2).trans hb2)
    go_simp
  try simp only [Act.put, List.setIfInBounds_toArray, List.set_cons_zero, List.set_cons_succ]
  refine stepK (i := 27) (L := #[true, true, true, true, true, true, true, true, true, true, true, true, true, true, true, true, true, true, true, true, true, true, true, true, true, true, true, true, false, false, false, false, false, false, false, false, false, false, false, false]) rfl (by rfl) (by kernel_rfl) (by rfl) (fun K hK => ?_)
  go_simp
  go_at_call 37
  refine (part_any v21 false 1 (by decide) 0).mono ?_
  rintro e v22 ⟨Au, rfl, hB, hI⟩
  have a22' := a21'.on hB
  have k22' := k21'.on s21' hB
  have s22' := Nat.le_trans s21' hB.size
  replace j2 := ints_on j2 hB
  replace j3 := ints_on j3 hB
  have ju : Ints v22 0 v22.heap.size .u32 Au 1 (canon 4294967296 1) := by rw [canon_one 1 (by decide) (by decide)]; exact ints_all hI
  clear hB hI
  refine hK _ _ ⟨fun _ _ => k22', ?_⟩
  clear hK K
  try simp only []
  refine stepK (i := 28) (L := #[true, true, true, true, true, true, true, true, true, true, true, true, true, true, true, true, true, true, true, true, true, true, true, true, true, true, true, true, true, false, false, false, false, false, false, false, false, false, false, false]) rfl (by rfl) (by kernel_rfl) (by rfl) (fun K hK => ?_)
  go_simp
  go_at_call 36
  refine (Pa.dyadSame_any v22 false false _ _ _ _ _ _ _ _ 0 0 j2 ju true (same_true rfl rfl rfl)).mono ?_
  rintro e v23 ⟨rfl, hB⟩
  have a23' := a22'.on hB
  have k23' := k22'.on s22' hB
  have s23' := Nat.le_trans s22' hB.size
  replace j2 := ints_on j2 hB
  replace j3 := ints_on j3 hB
  replace ju := ints_on ju hB
  clear hB
  refine hK _ _ ⟨fun _ _ => k23', ?_⟩
  clear hK K
  try simp only []
  refine pureE (i := 29) (L := #[true, true, true, true, true, true, true, true, true, true, true, true, true, true, true, true, true, true, true, true, true, true, true, true, true, true, true, true, true, true, false, false, false, false, false, false, false, false, false, false]) (v := ?_) rfl (by rfl) (by kernel_rfl) (by kernel_rfl) (by kernel_rfl) (fun _ _ _ h => h) (by rfl) ?hy30 ?rest30
  case hy30 => intro w; go_simp; (try with_reducible rfl)
  try simp only [Act.put, List.setIfInBounds_toArray, List.set_cons_zero, List.set_cons_succ]
  refine pureE (i := 30) (L := #[true, true, true, true, true, true, true, true, true, true, true, true, true, true, true, true, true, true, true, true, true, true, true, true, true, true, true, true, true, true, true, false, false, false, false, false, false, false, false, false]) (v := ?_) rfl (by rfl) (by kernel_rfl) (by kernel_rfl) (by kernel_rfl) (fun _ _ _ h => h) (by rfl) ?hy31 ?rest31
  case hy31 => intro w; go_simp; (try with_reducible rfl)
  try simp only [Act.put, List.setIfInBounds_toArray, List.set_cons_zero, List.set_cons_succ]
  refine pureE (i := 31) (L := #[true, true, true, true, true, true, true, true, true, true, true, true, true, true, true, true, true, true, true, true, true, true, true, true, true, true, true, true, true, true, true, true, false, false, false, false, false, false, false, false]) (v := ?_) rfl (by rfl) (by kernel_rfl) (by kernel_rfl) (by kernel_rfl) (fun _ _ _ h => h) (by rfl) ?hy32 ?rest32
  case hy32 => intro w; go_simp; (try with_reducible rfl)
  try simp only [Act.put, List.setIfInBounds_toArray, List.set_cons_zero, List.set_cons_succ]
  refine pureE (i := 32) (L := #[true, true, true, true, true, true, true, true, true, true, true, true, true, true, true, true, true, true, true, true, true, true, true, true, true, true, true, true, true, true, true, true, true, false, false, false, false, false, false, false]) (v := ?_) rfl (by rfl) (by kernel_rfl) (by kernel_rfl) (by kernel_rfl) (fun _ _ _ h => h) (by rfl) ?hy33 ?rest33
  case hy33 => intro w; go_simp; (try with_reducible rfl)
  try simp only [Act.put, List.setIfInBounds_toArray, List.set_cons_zero, List.set_cons_succ]
  refine pureE (i := 33) (L := #[true, true, true, true, true, true, true, true, true, true, true, true, true, true, true, true, true, true, true, true, true, true, true, true, true, true, true, true, true, true, true, true, true, true, false, false, false, false, false, false]) (v := ?_) rfl (by rfl) (by kernel_rfl) (by kernel_rfl) (by kernel_rfl) (fun _ _ _ h => h) (by rfl) ?hy34 ?rest34
  case hy34 => intro w; go_simp; (try with_reducible rfl)
  try simp only [Act.put, List.setIfInBounds_toArray, List.set_cons_zero, List.set_cons_succ]
  refine pureE (i := 34) (L := #[true, true, true, true, true, true, true, true, true, true, true, true, true, true, true, true, true, true, true, true, true, true, true, true, true, true, true, true, true, true, true, true, true, true, true, false, false, false, false, false]) (v := ?_) rfl (by rfl) (by kernel_rfl) (by kernel_rfl) (by kernel_rfl) (fun _ _ _ h => h) (by rfl) ?hy35 ?rest35
  case hy35 => intro w; go_simp; (try with_reducible rfl)
  try simp only [Act.put, List.setIfInBounds_toArray, List.set_cons_zero, List.set_cons_succ]
  refine readE (i := 35) (L := #[true, true, true, true, true, true, true, true, true, true, true, true, true, true, true, true, true, true, true, true, true, true, true, true, true, true, true, true, true, true, true, true, true, true, true, true, false, false, false, false]) (v := .agg #[.bool true, .slice X3 x3 y3, .int .i64 2]) rfl (by rfl) (by kernel_rfl) (by kernel_rfl) (by kernel_rfl) (fun _ _ _ h => h) (by assumption) (by rfl) ?hyR4 ?restR4
  case hyR4 =>
    intro w' h1
    obtain ⟨⟨k1, k2, k3⟩, _⟩ := boxD ((h1 _ hp3).trans hb3)
    go_simp
  try simp only [Act.put, List.setIfInBounds_toArray, List.set_cons_zero, List.set_cons_succ]
  refine stepK (i := 36) (L := #[true, true, true, true, true, true, true, true, true, true, true, true, true, true, true, true, true, true, true, true, true, true, true, true, true, true, true, true, true, true, true, true, true, true, true, true, true, false, false, false]) rfl (by rfl) (by kernel_rfl) (by rfl) (fun K hK => ?_)
  go_simp
  go_at_call 37
  refine (part_any v23 true 1 (by decide) 2).mono ?_
  rintro e v24 ⟨Az, rfl, hB, hI⟩
  have a24' := a23'.on hB
  have k24' := k23'.on s23' hB
  have s24' := Nat.le_trans s23' hB.size
  replace j3 := ints_on j3 hB
  have jz : Ints v24 0 v24.heap.size .u32 Az 1 (canon 4294967296 1) := by rw [canon_one 1 (by decide) (by decide)]; exact ints_all hI
  clear hB hI
  refine hK _ _ ⟨fun _ _ => k24', ?_⟩
  clear hK K
  try simp only []
  refine stepK (i := 37) (L := #[true, true, true, true, true, true, true, true, true, true, true, true, true, true, true, true, true, true, true, true, true, true, true, true, true, true, true, true, true, true, true, true, true, true, true, true, true, true, false, false]) rfl (by rfl) (by kernel_rfl) (by rfl) (fun K hK => ?_)
  go_simp
  go_at_call 36
  refine (Pa.dyadSame_any v24 true true _ _ _ _ _ _ _ _ 2 2 j3 jz true (same_true rfl rfl rfl)).mono ?_
  rintro e v25 ⟨rfl, hB⟩
  have a25' := a24'.on hB
  have k25' := k24'.on s24' hB
  have s25' := Nat.le_trans s24' hB.size
  replace j3 := ints_on j3 hB
  replace jz := ints_on jz hB
  clear hB
  refine hK _ _ ⟨fun _ _ => k25', ?_⟩
  clear hK K
  try simp only []
  refine pureE (i := 38) (L := #[true, true, true, true, true, true, true, true, true, true, true, true, true, true, true, true, true, true, true, true, true, true, true, true, true, true, true, true, true, true, true, true, true, true, true, true, true, true, true, false]) (v := ?_) rfl (by rfl) (by kernel_rfl) (by kernel_rfl) (by kernel_rfl) (fun _ _ _ h => h) (by rfl) ?hy39 ?rest39
  case hy39 => intro w; go_simp; (try with_reducible rfl)
  try simp only [Act.put, List.setIfInBounds_toArray, List.set_cons_zero, List.set_cons_succ]
  refine pureE (i := 39) (L := #[true, true, true, true, true, true, true, true, true, true, true, true, true, true, true, true, true, true, true, true, true, true, true, true, true, true, true, true, true, true, true, true, true, true, true, true, true, true, true, true]) (v := ?_) rfl (by rfl) (by kernel_rfl) (by kernel_rfl) (by kernel_rfl) (fun _ _ _ h => h) (by rfl) ?hy40 ?rest40
  case hy40 => intro w; go_simp; (try with_reducible rfl)
  try simp only [Act.put, List.setIfInBounds_toArray, List.set_cons_zero]
  refine doneE (by kernel_rfl) ?_ _
  go_wp2
  go_ret
  exact ⟨rfl, a25'.below⟩
end Dy
end Go.Proofs.YtlbkepiflhchdaaDoor
