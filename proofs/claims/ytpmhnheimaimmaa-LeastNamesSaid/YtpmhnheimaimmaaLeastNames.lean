/- The statement LeastNames by a walk. -/
import Derived.Test.YtpmhnheimaimmaaLeastTags
import Derived.Test.YtpmhnheimaimmaaLeastOrder
namespace Go.Proofs.Ytpmhnheimaimmaa
open Go.RowKit
namespace Least

theorem Whose_out_at (w : World) (x : BitVec 32) (t : Int) (ht : U x = t) (h : 65535 < U (stillS x) / 4 / 8) :
    Calls Try.prog 24 #[.int .u32 t] w fun r w' => r = .returned (.tuple #[.int .i64 0, .int .i64 0, .int .i64 0, .int .i64 6]) ∧ Below w.heap.size w w' := by
  subst ht
  exact Whose_out w x h
theorem check07 : checkCode [0, 1, 2, 3, 4, 5, 6, 7] = 0 := by decide
theorem ints07 (w : World) : Ints (w.alloc (.cells #[.int .u32 0, .int .u32 1, .int .u32 2, .int .u32 3, .int .u32 4, .int .u32 5, .int .u32 6, .int .u32 7] 35)) 0 (w.heap.size + 1) .u32 (some ⟨w.heap.size, 0, none⟩) 8 [0, 1, 2, 3, 4, 5, 6, 7] := Ints.lit w .u32 _ _ _ _ rfl rfl (by decide) (by decide)
theorem guess07 : guessR [0, 1, 2, 3, 4, 5, 6, 7] = 4294967296 := by
  unfold guessR
  rw [if_pos check07]
  unfold guessS
  simp

set_option maxHeartbeats 3200000 in
theorem Names_any (w : World) : Calls Try.prog 7 #[] w fun e w' => e = .returned (.bool true) ∧ Below w.heap.size w w' := by
  obtain ⟨i0, hi0, hz0, hz1, hz2⟩ := info_parts Try.info35
  obtain ⟨t1, ht1⟩ : ∃ t, U (stirS 2097152#32) = t := ⟨_, rfl⟩
  obtain ⟨t2, ht2⟩ : ∃ t, tagOf 65535 7 3 = t := ⟨_, rfl⟩
  have T1 := Lib.hid ht1
  have T2 := Lib.hid ht2
  clear ht1 ht2
  go_enter Try.func7, Try.ntmps7
  go_wp2_with fail
  refine (Tags_bad _ 65536 0 (by decide)).mono ?_
  rintro e w1 ⟨rfl, rfl⟩
  go_wp2_with fail
  refine (Tags_bad _ 0 8 (by decide)).mono ?_
  rintro e w2 ⟨rfl, rfl⟩
  go_wp2_with fail
  refine (Tags_ok _ 65535 7 (by decide) (by decide)).mono ?_
  rintro e w3 ⟨g, c, f, rfl, hc4, hg4, hgs4, hB, hr4, hs4, hu4⟩
  clear hc4 hg4 hgs4 hr4 hs4 hu4
  go_wp2_with fail
  refine (Stir_at _ 2097152#32 2097152 t1 (by decide) T1.out).mono ?_
  rintro e w4 ⟨rfl, hb⟩
  have hB := hB.trans (hb.mono hB.size)
  clear hb
  go_wp2_with fail
  refine (Whose_out_at _ (stirS 2097152#32) t1 T1.out (by decide)).mono ?_
  rintro e w5 ⟨rfl, hb⟩
  have hB := hB.trans (hb.mono hB.size)
  clear hb
  go_wp2_with fail
  refine (Stir_at _ 2097151#32 2097151 t2 (by decide) T2.out).mono ?_
  rintro e w6 ⟨rfl, hb⟩
  have hB := hB.trans (hb.mono hB.size)
  clear hb
  go_wp2_with fail
  refine (Whose_tag _ 65535 7 3 t2 T2.out (by decide) (by decide) (by decide)).mono ?_
  rintro e w7 ⟨rfl, hb⟩
  have hB := hB.trans (hb.mono hB.size)
  clear hb
  go_wp2_with (first
    | (at_make; refine wpList_make_full _ rfl _ _ 22 rfl w7.heap.size 35 i0 (.int .u32 0) 1 Try.underlying22 hi0 hz0 hz1 .i64 .i64 9 9 9 rfl rfl rfl rfl (by rw [hz2]; decide) (by unfold maxLen; decide) (Nat.le_refl _) ?_))
  intro w8 hown hgrow
  have hb : Below w7.heap.size w7 w8 := (Below.refl _ w7).grown hgrow (Nat.le_refl _) (fun q hq => by cases hq)
  have hm : (madeCells #[Value.int .u32 0] 9).toList = ([0, 0, 0, 0, 0, 0, 0, 0, 0] : List Int).map (Value.int .u32) := by kernel_rfl
  rw [hm] at hown
  have hI := Ints.of_own hown (by decide) (by decide)
  have hB := hB.trans (hb.mono hB.size)
  clear hb hm hown hgrow
  go_wp2_with fail
  refine (Join_bad _ _ _ 0 0 _ _ _ _ hI _ _ _ [] (Ints.nil_ ..) (Nat.le_refl _) (Nat.zero_le _) 4 (by decide) (by decide)).mono ?_
  rintro e w9 ⟨rfl, hb⟩
  have hB := hB.trans (hb.mono hB.size)
  clear hb hI
  go_wp2_with fail
  refine (Join_bad _ 0 0 _ _ none _ _ [] (Ints.nil_ ..) _ _ _ [2, 2] (Ints.lit w9 .u32 _ _ _ _ rfl rfl (by decide) (by decide)) (Nat.zero_le _) (by simp) 8 (by decide) (by decide)).mono ?_
  rintro e w10 ⟨rfl, hb⟩
  have hB := hB.trans (((Below.refl _ w9).alloc (Nat.le_refl _) _ |>.trans (hb.mono (by simp))).mono hB.size)
  clear hb
  go_wp2_with fail
  refine (eight_any _).mono ?_
  rintro e w11 ⟨rfl, hw11⟩
  have hI11 : Ints w11 0 (w10.heap.size + 1) .u32 (some ⟨w10.heap.size, 0, none⟩) 8 [1, 2, 3, 4, 5, 6, 7, 4294967295] := hw11 ▸ Ints.lit w10 .u32 _ _ _ _ rfl rfl (by decide) (by decide)
  have hs11 : w10.heap.size + 1 ≤ w11.heap.size := by rw [hw11]; simp
  have hB : Below _ _ w11 := hw11 ▸ hB.alloc hB.size _
  clear hw11
  go_wp2_with fail
  have hj : joinN 8 [1, 2, 3, 4, 5, 6, 7, 4294967295] [0] = [0, 1, 2, 3, 4, 5, 6, 7] := by decide
  have q1 := Ints.lit w11 .u32 35 #[.int .u32 0] [0] 1 rfl rfl (by decide) (by decide)
  have q2 := hI11.alloc (by omega) (.cells #[.int .u32 0] 35)
  have q3 : checkCode [1, 2, 3, 4, 5, 6, 7, 4294967295] = 0 := by decide
  have q4 : checkCode [0] = 0 := by decide
  have q5 : w10.heap.size + 1 ≤ (w11.alloc (.cells #[.int .u32 0] 35)).heap.size := by rw [World.size_alloc]; omega
  have q6 : w11.heap.size + 1 ≤ (w11.alloc (.cells #[.int .u32 0] 35)).heap.size := by rw [World.size_alloc]; omega
  refine (Join_kept _ _ _ _ _ _ _ _ _ q2 _ _ _ [0] q1 (Nat.le_refl _) (Nat.le_refl _) q3 q4 q5 q6 _ hj).mono ?_
  rintro e w12 ⟨A12, n12, c12, rfl, _, hb, hI12⟩
  have hB := hB.trans (((Below.refl _ w11).alloc (Nat.le_refl _) _ |>.trans (hb.mono (by simp))).mono hB.size)
  clear hb hI11 hs11 hj q1 q2 q3 q4 q5 q6
  go_wp2_with fail
  refine (Guess_any _ _ _ _ _ _ [0, 1, 2, 3, 4, 5, 6, 7] (ints07 w12) 0 4294967296 check07 guess07).mono ?_
  rintro e w13 ⟨rfl, m13, hw13⟩
  have hI13 : Ints w13 0 w12.heap.size .u32 A12 n12 [0, 1, 2, 3, 4, 5, 6, 7] := hw13 ▸ (hI12.alloc (Nat.le_refl _) _).drewN _
  have hs13 : w12.heap.size + 1 ≤ w13.heap.size := by rw [hw13]; simp
  have hB : Below _ _ w13 := hw13 ▸ below_drewN (hB.alloc hB.size _) _
  clear hw13 hI12
  go_wp2_with fail
  refine (alive_any _).mono ?_
  rintro e w14 ⟨rfl, hb⟩
  have hI14 := hI13.below hb (by omega)
  have hs14 := hb.size
  have hB := hB.trans (hb.mono hB.size)
  clear hb hI13
  go_wp2_with fail
  refine (SameTags_any _ _ _ _ _ _ _ _ _ (hI14.alloc (by omega) _) _ _ _ [0, 1, 2, 3, 4, 5, 6, 7] (ints07 w14) true (by decide)).mono ?_
  rintro e w15 ⟨rfl, m15, hw15⟩
  have hB : Below _ _ w15 := hw15 ▸ below_drewN (hB.alloc hB.size _) _
  clear hw15
  go_wp2_with fail
  go_ret
  exact ⟨rfl, hB⟩
end Least
end Go.Proofs.Ytpmhnheimaimmaa
