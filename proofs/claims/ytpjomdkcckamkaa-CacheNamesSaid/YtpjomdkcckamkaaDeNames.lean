/- DescNames: the walk. -/
import Derived.Test.YtpjomdkcckamkaaDeTotal
namespace Go.Proofs.Ytpjomdkcckamkaa
open Go.RowKit Go.Sort Go.Shelf
namespace De
def zeros (n : Nat) : List (Int × Int) := List.replicate n (0, 0)
theorem flatD_zeros : ∀ n, flatD (zeros n) = List.replicate (n * 2) (.int .i64 0)
  | 0 => rfl
  | n + 1 => by
    have e : (n + 1) * 2 = n * 2 + 1 + 1 := by omega
    rw [e, List.replicate_succ, List.replicate_succ, ← flatD_zeros n]
    rfl
theorem made_zeros (n : Nat) : (madeCells (Value.agg #[.int .i64 0, .int .i64 0]).cells (n * 2)).toList = flatD (zeros n) := by
  rw [flatD_zeros]
  apply List.ext_getElem
  · simp [madeCells]
  · intro j h1 h2
    simp [madeCells, Value.cells]
    rcases Nat.mod_two_eq_zero_or_one j with h | h <;> simp [h]
theorem rng_zeros (n : Nat) : ∀ x ∈ zeros n, Rng x := fun x hx => by
  rw [(List.mem_replicate.1 hx).2]
  exact ⟨⟨by decide, by decide⟩, by decide, by decide⟩

def names1 (w : World) (e : Ending) (w' : World) : Prop := e = .returned (.bool true) ∧ Below w.heap.size w w'
set_option maxHeartbeats 3200000 in
theorem descNames_any (w : World) : Calls Try.prog 4 #[] w (names1 w) := by
  obtain ⟨i0, hi0, hz0, hz1, hz2⟩ := info_parts Try.info29
  have e1 := Lib.hid (show fr (7, 1) (0, 0) = (true, 0) by decide)
  have e2 := Lib.hid (show fr (1, 0) (1, 0) = (false, 0) by decide)
  have e3 := Lib.hid (show fr (8, 0) (0, 0) = (false, 8) by decide)
  have e4 := Lib.hid (show check [(0, -1)] = 8 by decide)
  have e5 := Lib.hid (show check (zeros 65) = 4 by decide)
  have e6 := Lib.hid (show check (zeros 64) = 0 by decide)
  have e7 := Lib.hid (show best (zeros 64) = [(0, 0)] by decide +kernel)
  go_enter Try.func4, Try.ntmps4
  go_wp2_with fail
  refine (Fresher_any _ 7 1 0 0 true 0 e1.out).mono ?_
  rintro e w1 ⟨rfl, hb1⟩
  have hs1 := hb1.size
  go_wp2_with fail
  refine (Fresher_any _ 1 0 1 0 false 0 e2.out).mono ?_
  rintro e w2 ⟨rfl, hb2⟩
  have hs2 := hb2.size
  have hc2 := hb1.trans (hb2.mono hs1)
  go_wp2_with fail
  refine (Fresher_any _ 8 0 0 0 false 8 e3.out).mono ?_
  rintro e w3 ⟨rfl, hb3⟩
  have hs3 := hb3.size
  have hc3 := hc2.trans (hb3.mono (by omega))
  clear hb1 hb2 hb3 hc2
  go_wp2_with fail
  have hL := descs_new w3 #[.int .i64 0, .int .i64 (-1)] 29 1 [(0, -1)] rfl rfl (rng_of (by decide)) (by decide)
  refine (Order_bad _ _ _ _ 1 1 _ hL (by simp) (by simp) 8 e4.out rfl).mono ?_
  rintro e w4 ⟨rfl, hb4⟩
  have hs4 := hb4.size
  simp at hs4
  have hc4 := (hc3.alloc (by omega) _).trans (hb4.mono (by simp; omega))
  clear hb4 hL hc3
  go_wp2_with (first
      | (at_make; refine wpList_make_full _ rfl _ _ 22 rfl w4.heap.size 29 i0 _ 2 Try.underlying22 hi0 hz0 hz1 .i64 .i64 65 65 65 rfl rfl rfl rfl (by rw [hz2]; decide) (by unfold maxLen; decide) (Nat.le_refl _) ?_))
  intro w5 hown5 hg5
  have hz5 : (madeCells #[Value.int .i64 0, Value.int .i64 0] 130).toList = flatD (zeros 65) := made_zeros 65
  rw [hz5] at hown5
  have hD5 := Descs.of_own hown5 (rng_zeros 65) (by decide)
  have hs5 := hg5.size
  have hc5 := hc4.grown hg5 (by omega) (fun q hq => by cases hq)
  clear hown5 hg5 hz5 hc4
  go_wp2_with fail
  refine (Best_bad _ _ _ _ 65 65 _ hD5 (Nat.le_refl _) (by omega) 4 e5.out rfl).mono ?_
  rintro e w6 ⟨rfl, hb6⟩
  have hs6 := hb6.size
  have hc6 := hc5.trans (hb6.mono (by omega))
  clear hb6 hD5 hc5
  go_wp2_with (first
      | (at_make; refine wpList_make_full _ rfl _ _ 22 rfl w6.heap.size 29 i0 _ 2 Try.underlying22 hi0 hz0 hz1 .i64 .i64 64 64 64 rfl rfl rfl rfl (by rw [hz2]; decide) (by unfold maxLen; decide) (Nat.le_refl _) ?_))
  intro w7 hown7 hg7
  have hz7 : (madeCells #[Value.int .i64 0, Value.int .i64 0] 128).toList = flatD (zeros 64) := made_zeros 64
  rw [hz7] at hown7
  have hD7 := Descs.of_own hown7 (rng_zeros 64) (by decide)
  have hs7 := hg7.size
  have hc7 := hc6.grown hg7 (by omega) (fun q hq => by cases hq)
  clear hown7 hg7 hz7 hc6
  go_wp2_with fail
  refine (Best_ok _ _ _ _ 64 64 _ hD7 (Nat.le_refl _) (by omega) e6.out).mono ?_
  rintro e w8 ⟨A8, n8, c8, r8, rfl, _, hb8, _, hr8, hD8⟩
  rw [e7.out] at hD8
  have n8e : n8 = 1 := by rw [← hD8.len]; rfl
  subst n8e
  have hs8 := hb8.size
  have hc8 := hc7.trans (hb8.mono (by omega))
  clear hb8 hD7 hc7 hD8
  go_wp2_with fail
  refine (alive_any _).mono ?_
  rintro e w9 ⟨rfl, hb9⟩
  have hs9 := hb9.size
  have hc9 := hc8.trans (hb9.mono (by omega))
  clear hb9 hc8
  go_wp2_with fail
  refine (Check_any _ 0 0 none 0 0 [] (Descs.nil_ ..) (Nat.zero_le _) (by omega) 0 rfl).mono ?_
  rintro e w10 ⟨rfl, hb10⟩
  have hs10 := hb10.size
  have hc10 := hc9.trans (hb10.mono (by omega))
  clear hb10 hc9
  go_wp2_with fail
  refine (Same_b _ 0 0 0 0 none _ 0 0 0 0 [] [] (Descs.nil_ ..) (Descs.nil_ ..) true rfl).mono ?_
  rintro e w11 ⟨rfl, hb11⟩
  have hc11 := (hc10.alloc (by omega) _).trans (hb11.mono (by simp; omega))
  clear hb11 hc10
  go_wp2
  go_ret
  exact ⟨rfl, hc11⟩
end De
end Go.Proofs.Ytpjomdkcckamkaa
