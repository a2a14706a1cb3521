/- The reference's tags, by walks. -/
import Derived.Test.YtpmhnheimaimmaaLeastRef
import Derived.Test.YtpmhnheimaimmaaLeastApart
namespace Go.Proofs.Ytpmhnheimaimmaa
open Go.RowKit
namespace Least

def refL (e nd k : Nat) : List Int := (List.range k).foldl (fun l j => withS l (tagOf e nd j)) []
theorem refL_succ (e nd k : Nat) : refL e nd (k + 1) = withS (refL e nd k) (tagOf e nd k) := by simp [refL, List.range_succ]
theorem refL_len (e nd k : Nat) : (refL e nd k).length ≤ k := by
  induction k with
  | zero => simp [refL]
  | succ k ih => rw [refL_succ]; have := withS_len (refL e nd k) (tagOf e nd k); omega
theorem refL_mem (e nd k : Nat) (y : Int) : y ∈ refL e nd k ↔ ∃ j, j < k ∧ tagOf e nd j = y := by
  induction k with
  | zero => simp [refL]
  | succ k ih =>
    rw [refL_succ, mem_withS, ih]
    constructor
    · rintro (rfl | ⟨j, hj, rfl⟩)
      · exact ⟨k, by omega, rfl⟩
      · exact ⟨j, by omega, rfl⟩
    · rintro ⟨j, hj, rfl⟩
      by_cases h : j = k
      · subst h; exact .inl rfl
      · exact .inr ⟨j, by omega, rfl⟩
theorem refL_rises (e nd k : Nat) : (refL e nd k).Pairwise (· < ·) := by
  induction k with
  | zero => simp [refL]
  | succ k ih => rw [refL_succ]; exact sorted_withS _ _ ih
theorem row_ref {e nd : Nat} {f : Nat → Int} (h : SameRow (tagOf e nd) f 4) (hu : UpTo f 4) : rowL f = refL e nd 4 := by
  refine sorted_eq _ _ (row_rises hu) (refL_rises e nd 4) fun y => ?_
  rw [refL_mem, ← h.1 y, rowL, List.mem_map]
  simp
theorem refL_wf (e nd k : Nat) : ∀ x ∈ refL e nd k, IntKind.u32.min ≤ x ∧ x ≤ IntKind.u32.max := fun x hx => by
  obtain ⟨j, _, rfl⟩ := (refL_mem e nd k x).1 hx
  have h1 := U_lo (stirS (tagNo e nd j))
  have h2 := U_hi (stirS (tagNo e nd j))
  unfold tagOf
  simpa [IntKind.min, IntKind.max, IntKind.signed, IntKind.bits] using And.intro h1 h2

theorem RStir_at (w : World) (x : BitVec 32) (i r : Int) (hi : U x = i) (hr : U (stirS x) = r) : Calls Try.prog 21 #[.int .u32 i] w fun e w' => e = .returned (.int .u32 r) ∧ w' = w := by
  subst hi
  subst hr
  exact RStir_any w x

set_option maxHeartbeats 1600000 in
theorem ROf_any (w : World) (e nd : Nat) (he : e ≤ 65535) (hn : nd < 8) :
    Calls Try.prog 32 #[.int .i64 e, .int .i64 nd] w fun r w' => ∃ A n c, r = .returned (.slice A n c) ∧ Below w.heap.size w w' ∧ Ints w' w.heap.size w'.heap.size .u32 A n (refL e nd 4) := by
  have hnu := fun j => tagNo_u e nd j he hn
  have he' : (e : Int) ≤ 65535 := by omega
  have hn' : (nd : Int) < 8 := by omega
  go_enter Try.func32, Try.ntmps32
  go_wp2
  go_loopw [5, 6] (fun v i wr => ∃ k A n c, i = .int .i64 (k : Nat) ∧ k ≤ 4 ∧ v = .slice A n c ∧ n ≤ 4 ∧ Ints wr w.heap.size wr.heap.size .u32 A n (refL e nd k) ∧ Below w.heap.size w wr) (fun _ i _ => 4 - (intOf i).toNat)
  case atStart => exact ⟨0, none, 0, 0, rfl, by omega, rfl, by omega, Ints.nil_ .., Below.refl _ _⟩
  case round =>
    obtain ⟨k, A, n, c, rfl, hk, rfl, hn4, hI, hnx⟩ := hrel
    by_cases hlt : k < 4
    · have hu := hnu k hlt
      have hu2 : U (tagNo e nd k) = 32 * (e : Int) + 4 * nd + k := by omega
      have HS := Lib.hid (refL_succ e nd k)
      have hl := refL_len e nd (k + 1)
      rw [refL_succ] at hl
      clear hu hnu
      obtain ⟨t, ht⟩ : ∃ t, tagOf e nd k = t := ⟨_, rfl⟩
      rw [ht] at hl HS
      go_wp2_with fail
      refine (RStir_at _ (tagNo e nd k) _ t hu2 ht).mono ?_
      rintro r w1 ⟨rfl, rfl⟩
      clear hu2
      go_wp2_with fail
      refine (With_any _ _ _ _ _ _ _ hI (by omega) (Nat.le_refl _) t).mono ?_
      rintro r w2 ⟨A2, c2, rfl, hb2, hown2⟩
      have hwf := refL_wf e nd (k + 1)
      rw [HS.out] at hwf
      have hI2 := (Ints.of_own hown2 hwf (by omega)).more hnx.size (Nat.le_refl _)
      have hnx2 := hnx.trans (hb2.mono hnx.size)
      clear hown2 hwf hb2
      obtain ⟨n2, hn2⟩ : ∃ n2, (withS (refL e nd k) t).length = n2 := ⟨_, rfl⟩
      rw [hn2] at hI2 hl ⊢
      rw [← HS.out] at hI2
      clear hn2 ht
      go_wp2
      go_roundw
      case rel => exact ⟨k + 1, A2, n2, c2, by go_num, by omega, rfl, by omega, hI2, hnx2⟩
      case measure => simp [intOf]; omega
    · obtain rfl : k = 4 := by omega
      go_wp2
      go_ret
      exact ⟨A, n, c, rfl, hnx, hI⟩

theorem RTags_ok (w : World) (e nd : Nat) (he : e ≤ 65535) (hn : nd < 8) :
    Calls Try.prog 19 #[.int .i64 e, .int .i64 nd] w fun r w' => ∃ A n c, r = .returned (.tuple #[.slice A n c, .int .i64 0]) ∧ Below w.heap.size w w' ∧ Ints w' w.heap.size w'.heap.size .u32 A n (refL e nd 4) := by
  have he' : (e : Int) ≤ 65535 := by omega
  have hn' : (nd : Int) < 8 := by omega
  go_enter Try.func19, Try.ntmps19
  go_wp2_with fail
  refine (ROf_any _ e nd he hn).mono ?_
  rintro r w' ⟨A, n, c, rfl, hb, hI⟩
  go_wp2_with fail
  go_ret2
  exact ⟨A, n, c, rfl, hb, hI⟩

set_option maxHeartbeats 1600000 in
theorem RTags_bad (w : World) (e nd : Int) (hb : e < 0 ∨ 65535 < e ∨ nd < 0 ∨ 8 ≤ nd) :
    Calls Try.prog 19 #[.int .i64 e, .int .i64 nd] w fun r w' => r = .returned (.tuple #[.slice none 0 0, .int .i64 2]) ∧ w' = w := by
  by_cases h1 : e < 0
  · clear hb
    go_enter Try.func19, Try.ntmps19
    go_wp2
    go_ret2
    exact ⟨rfl, rfl⟩
  · by_cases h2 : 65535 < e
    · clear hb
      go_enter Try.func19, Try.ntmps19
      go_wp2
      go_ret2
      exact ⟨rfl, rfl⟩
    · by_cases h3 : nd < 0
      · clear hb
        go_enter Try.func19, Try.ntmps19
        go_wp2
        go_ret2
        exact ⟨rfl, rfl⟩
      · have h4 : 8 ≤ nd := by omega
        clear hb
        go_enter Try.func19, Try.ntmps19
        go_wp2
        go_ret2
        exact ⟨rfl, rfl⟩
end Least
end Go.Proofs.Ytpmhnheimaimmaa
