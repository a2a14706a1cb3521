/- The chapter's examples, by a walk. -/
import Derived.Test.YtpmhnheimaimmaaLeastStill
import Derived.Test.YtpmhnheimaimmaaLeastWalks7
namespace Go.Proofs.Ytpmhnheimaimmaa
open Go.RowKit

/-- A slice that is written out. -/
theorem Ints.lit (w : World) (k : IntKind) (t : TypeId) (cs : Array Value) (xs : List Int) (n : Nat) (hcs : cs = (xs.map (Value.int k)).toArray) (hn : xs.length = n) (hw : ∀ x ∈ xs, k.min ≤ x ∧ x ≤ k.max) (hb : n ≤ 9223372036854775807) :
    Ints (w.alloc (.cells cs t)) 0 (w.heap.size + 1) k (some ⟨w.heap.size, 0, none⟩) n xs := by
  subst hcs
  refine ⟨hn, hw, hb, fun _ => ⟨w.heap.size, 0, rfl, Nat.zero_le _, Nat.lt_succ_self _, fun j hj => ⟨?_, ?_⟩⟩⟩
  · have hh : (w.alloc (.cells (xs.map (Value.int k)).toArray t)).heap[w.heap.size]? = some (.cells (xs.map (Value.int k)).toArray t) := Array.getElem?_push_size
    rw [cell_of_row _ _ _ _ t (0, 0) hh, Nat.zero_add]
    simp only [List.getElem?_toArray, List.getElem?_map]
    rw [List.getElem?_eq_getElem (by omega)]
    rfl
  · simp [go_sem]

namespace Least
theorem Stir_at (w : World) (x : BitVec 32) (i r : Int) (hi : U x = i) (hr : U (stirS x) = r) : Calls Try.prog 20 #[.int .u32 i] w fun e w' => e = .returned (.int .u32 r) ∧ Below w.heap.size w w' := by
  subst hi
  subst hr
  exact Stir_any w x
theorem Still_at (w : World) (x : BitVec 32) (i r : Int) (hi : U x = i) (hr : U (stillS x) = r) : Calls Try.prog 22 #[.int .u32 i] w fun e w' => e = .returned (.int .u32 r) ∧ Below w.heap.size w w' := by
  subst hi
  subst hr
  exact Still_any w x

theorem eight_any (w : World) : Calls Try.prog 26 #[] w fun e w' => e = .returned (.slice (some ⟨w.heap.size, 0, none⟩) 8 8) ∧ w' = w.alloc (.cells #[.int .u32 1, .int .u32 2, .int .u32 3, .int .u32 4, .int .u32 5, .int .u32 6, .int .u32 7, .int .u32 4294967295] 35) := by
  go_enter Try.func26, Try.ntmps26
  go_wp2
  go_ret
  exact ⟨rfl, rfl⟩

set_option maxHeartbeats 1600000 in
theorem alive_any (w : World) : Calls Try.prog 16 #[] w fun e w' => e = .returned (.bool true) ∧ Below w.heap.size w w' := by
  go_enter Try.func16, Try.ntmps16
  go_wp2_with fail
  refine (Guess_any _ 0 w.heap.size _ _ _ [] (Ints.nil_ ..) 0 0 (by decide) (by decide)).mono ?_
  rintro e w1 ⟨rfl, m1, hw1⟩
  have hB : Below w.heap.size w w1 := hw1 ▸ below_of_drewN ..
  clear hw1
  go_wp2_with fail
  refine (Guess_any _ _ _ _ _ _ [1, 5, 9] (Ints.lit w1 .u32 _ _ _ _ rfl rfl (by decide) (by decide)) 0 3 (by decide) (by decide)).mono ?_
  rintro e w2 ⟨rfl, m2, hw2⟩
  have hB : Below w.heap.size w w2 := hw2 ▸ below_drewN (hB.alloc hB.size _) _
  clear hw2
  go_wp2_with fail
  refine (eight_any _).mono ?_
  rintro e w3 ⟨rfl, hw3⟩
  have hI3 : Ints w3 0 (w2.heap.size + 1) .u32 (some ⟨w2.heap.size, 0, none⟩) 8 [1, 2, 3, 4, 5, 6, 7, 4294967295] := hw3 ▸ Ints.lit w2 .u32 _ _ _ _ rfl rfl (by decide) (by decide)
  have hB : Below w.heap.size w w3 := hw3 ▸ hB.alloc hB.size _
  clear hw3
  go_wp2_with fail
  refine (Guess_any _ _ _ _ _ _ _ hI3 0 7 (by decide) (by decide)).mono ?_
  rintro e w4 ⟨rfl, m4, hw4⟩
  have hB : Below w.heap.size w w4 := hw4 ▸ below_drewN hB _
  clear hw4 hI3
  go_wp2_with fail
  have hs : (w4.alloc (.cells #[.int .u32 1, .int .u32 5] 35)).heap.size = w4.heap.size + 1 := by simp
  have hIa := (Ints.lit w4 .u32 35 #[.int .u32 1, .int .u32 5] [1, 5] 2 rfl rfl (by decide) (by decide)).alloc (by simp) (.cells #[.int .u32 3, .int .u32 5] 35)
  have hIb := Ints.lit (w4.alloc (.cells #[.int .u32 1, .int .u32 5] 35)) .u32 35 #[.int .u32 3, .int .u32 5] [3, 5] 2 rfl rfl (by decide) (by decide)
  refine (Join_ok _ _ _ _ _ _ _ _ [1, 5] hIa _ _ _ [3, 5] (by rw [hs] at hIb; exact hIb) (by decide) (by decide) (by decide) (by decide) (by simp) (by simp)).mono ?_
  rintro e w5 ⟨A5, c5, rfl, hb5, hown5⟩
  have hB5 : Below w.heap.size w ((w4.alloc (.cells #[.int .u32 1, .int .u32 5] 35)).alloc (.cells #[.int .u32 3, .int .u32 5] 35)) := (hB.alloc hB.size _).alloc (by rw [hs]; have := hB.size; omega) _
  have hB : Below w.heap.size w w5 := hB5.trans (hb5.mono hB5.size)
  have hj : joinN 8 [1, 5] [3, 5] = [1, 3, 5] := by decide
  rw [hj] at hown5 ⊢
  have hI5 : Ints w5 _ w5.heap.size .u32 A5 3 [1, 3, 5] := Ints.of_own hown5 (by decide) (by decide)
  clear hown5 hb5 hB5 hIa hIb hs hj
  go_wp2_with fail
  refine (Stir_at _ 0#32 0 0 (by decide) (by decide)).mono ?_
  rintro e w6 ⟨rfl, hb6⟩
  have hI6 := hI5.below hb6 (Nat.le_refl _)
  have hB : Below w.heap.size w w6 := hB.trans (hb6.mono hB.size)
  have hs6 := hb6.size
  clear hb6 hI5
  go_wp2_with fail
  refine (Still_at _ 0#32 0 0 (by decide) (by decide)).mono ?_
  rintro e w7 ⟨rfl, hb7⟩
  have hI7 := hI6.below hb7 hs6
  have hB : Below w.heap.size w w7 := hB.trans (hb7.mono hB.size)
  have hs7 := Nat.le_trans hs6 hb7.size
  clear hb7 hI6 hs6
  go_wp2_with fail
  refine (Stir_at _ 1#32 1 3135421029 (by decide) (by decide)).mono ?_
  rintro e w8 ⟨rfl, hb8⟩
  have hI8 := hI7.below hb8 hs7
  have hB : Below w.heap.size w w8 := hB.trans (hb8.mono hB.size)
  have hs8 := Nat.le_trans hs7 hb8.size
  clear hb8 hI7 hs7
  go_wp2_with fail
  refine (SameTags_any _ _ _ _ _ _ _ _ _ (hI8.alloc hs8 _) _ _ _ [1, 3, 5] (Ints.lit w8 .u32 _ _ _ _ rfl rfl (by decide) (by decide)) true (by decide)).mono ?_
  rintro e w9 ⟨rfl, m9, hw9⟩
  have hB : Below w.heap.size w w9 := hw9 ▸ below_drewN (hB.alloc hB.size _) _
  clear hw9
  go_wp2_with fail
  go_ret
  exact ⟨rfl, hB⟩
end Least
end Go.Proofs.Ytpmhnheimaimmaa
