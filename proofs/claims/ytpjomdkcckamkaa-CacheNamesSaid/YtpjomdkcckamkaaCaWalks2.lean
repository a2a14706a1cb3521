/- Lists laid end to end; the best ones of other nodes: walks. -/
import Derived.Test.YtpjomdkcckamkaaCaWalks1
import Derived.Test.YtpjomdkcckamkaaCaShelf
namespace Go.Proofs.Ytpjomdkcckamkaa
open Go.RowKit Go.Sort Go.Shelf
namespace De
def sumN (n : Nat → Nat) : Nat → Nat
  | 0 => 0
  | j + 1 => sumN n j + n j
def catN (xs : Nat → List (Int × Int)) : Nat → List (Int × Int)
  | 0 => []
  | j + 1 => catN xs j ++ xs j
theorem sumN_le (n : Nat → Nat) : ∀ (k j : Nat), j ≤ k → sumN n j ≤ sumN n k
  | 0, j, h => by
    obtain rfl : j = 0 := by omega
    exact Nat.le_refl _
  | k + 1, j, h => by
    by_cases e : j = k + 1
    · rw [e]; exact Nat.le_refl _
    · have := sumN_le n k j (by omega)
      simp only [sumN]
      omega

set_option maxHeartbeats 400000 in
/-- slices.Grow of nil. -/
theorem Grow_nil (w : World) (n : Nat) (hn : n ≤ 1000000) :
    Calls Try.prog 96 #[.slice none 0 0, .int .i64 n] w fun e w' => ∃ A' c', e = .returned (.slice A' 0 c') ∧ Below w.heap.size w w' ∧ w'.ownsRow w.heap.size 29 2 (.slice A' 0 c') 0 [] := by
  obtain ⟨i0, hi0, hz0, hz1, hz2⟩ := info_parts Try.info29
  by_cases h0 : n = 0
  · subst h0
    go_enter Try.func96, Try.ntmps96
    go_wp2
    go_ret
    exact ⟨none, 0, rfl, Below.refl _ _, World.ownsRow_nil _ _ _ _⟩
  · have h := Any8.slices_Grow_grow (P := Try.prog) (ρ := Try.growD_ren) Try.growD i0 _ hi0 hz0 (by omega) none 0 0 n [] w (Nat.le_refl _) (by omega) (by rw [hz2]; omega) (by omega) (by simp) (fun _ => rfl) (fun a h => by cases h)
    refine h.mono ?_
    rintro e w' ⟨rfl, rfl⟩
    have hge := grownCap_ge w (0 + n) 0 (Try.growD_ren.t 25)
    have hle := grownCap_le_maxLen w (0 + n) 0 (Try.growD_ren.t 25) (by unfold maxLen; omega)
    refine ⟨_, _, rfl, ((Below.refl _ w).drew).alloc (Nat.le_refl _) _, by simp, .inr ⟨w.heap.size, _, _, rfl, Nat.le_refl _, heap_newg _ _ _ rfl, Nat.zero_le _, hle, ?_, by simp⟩⟩
    rw [Nat.zero_add] at *
    simp [Builtin.zeroCells, Value.cells]
    omega

set_option maxHeartbeats 1600000 in
set_option maxRecDepth 100000 in
/-- slices.Concat. -/
theorem Concat_any (w : World) (g k : Nat) (A : Nat → Option Addr) (n c : Nat → Nat) (xs : Nat → List (Int × Int)) (hg : g < w.heap.size) (hL : ∀ j, j < k → w.cell? ⟨g, j, none⟩ = some (.slice (A j) (n j) (c j)))
    (hD : ∀ j, j < k → Descs w 0 w.heap.size (A j) (n j) (xs j)) (hk : k ≤ 1000) (hb : sumN n k ≤ 1000000) :
    Calls Try.prog 81 #[.slice (some ⟨g, 0, none⟩) k k] w fun e w' => ∃ A' c', e = .returned (.slice A' (sumN n k) c') ∧ sumN n k ≤ c' ∧ Below w.heap.size w w' ∧ w'.ownsRow w.heap.size 29 2 (.slice A' (sumN n k) c') (sumN n k) (flatD (catN xs k)) := by
  obtain ⟨i0, hi0, hz0, hz1, hz2⟩ := info_parts Try.info29
  have HL := Lib.hid hL
  have HD := Lib.hid hD
  clear hL hD
  go_enter Try.func81, Try.ntmps81
  go_wp2
  go_loopw [3, 5, 11] (fun sv _ iv wr => ∃ j s : Nat, iv = .int .i64 j ∧ j ≤ k ∧ sv = .int .i64 s ∧ Hid (sumN n j = s) ∧ wr = w) (fun _ _ iv _ => k - (intOf iv).toNat)
  case atStart => exact ⟨0, 0, rfl, Nat.zero_le _, rfl, rfl, rfl⟩
  case round =>
    obtain ⟨j, s, rfl, hj, rfl, hs, rfl⟩ := hrel
    by_cases hlt : j < k
    · have g1 := HL.out j hlt
      have hle := sumN_le n k (j + 1) (by omega)
      have hs2 : Hid (sumN n (j + 1) = s + n j) := by rw [Hid, sumN, hs.out]
      rw [hs2.out] at hle
      generalize hA : A j = Aj at g1
      generalize hn : n j = nj at g1 hs2 hle
      generalize hc : c j = cj at g1
      clear hA hn hc hs
      go_wp2
      go_roundw
      case rel => exact ⟨j + 1, s + nj, by go_num, by omega, by go_num, hs2, by trivial⟩
      case measure => simp [intOf]; omega
    · obtain rfl : j = k := by omega
      have hsk : s = sumN n j := hs.out.symm
      have hsb : s ≤ 1000000 := by omega
      have HSK := Lib.hid hsk
      clear hs hsk
      obtain ⟨wo, rfl⟩ : ∃ wo : World, wo = wr := ⟨_, rfl⟩
      go_wp2_with fail
      refine (Grow_nil _ s hsb).mono ?_
      rintro e w1 ⟨A1, c1, rfl, hb1, hown1⟩
      go_wp2
      go_loopw [6, 8, 27] (fun v _ iv wr => ∃ i s : Nat, iv = .int .i64 i ∧ i ≤ j ∧ Hid (sumN n i = s) ∧ wr.ownsRow wo.heap.size 29 2 v s (flatD (catN xs i)) ∧ Below wo.heap.size wo wr) (fun _ _ iv _ => j - (intOf iv).toNat)
      case atStart => exact ⟨0, 0, rfl, Nat.zero_le _, rfl, hown1, hb1⟩
      case round =>
        clear hown1 hb1
        obtain ⟨i, s', rfl, hi, hs, hown, hnx⟩ := hrel
        obtain ⟨Av, cv, rfl, hcv, _⟩ := own_shape hown
        by_cases hil : i < j
        · have g1 : wr.cell? ⟨g, i, none⟩ = _ := Below.keepCell hnx hg (HL.out i hil)
          have hDi := (HD.out i hil).below hnx (Nat.le_refl _)
          have hle := sumN_le n j (i + 1) (by omega)
          have hs2 : Hid (sumN n (i + 1) = s' + n i) := by rw [Hid, sumN, hs.out]
          have hcat : Hid (flatD (catN xs (i + 1)) = flatD (catN xs i) ++ flatD (xs i)) := by rw [Hid, catN, flatD_append]
          rw [hs2.out] at hle
          generalize A i = Ai at g1 hDi
          generalize n i = ni at g1 hs2 hle hDi
          generalize c i = ci at g1
          have hsz := hnx.size
          go_wp2_with (first
            | (at_builtin; refine wpList_append_raw _ rfl (.tmp 31) (.tmp 32) 22 rfl wo.heap.size 29 i0 _ 2 16 Try.underlying22 hi0 hz0 hz1 hz2 rfl (by decide) _ _ _ rfl hown _ _ _ ni _ _ rfl hDi.raw (flatD_one _) ?c2 ?c3 ?c4 ?_))
          case c2 => unfold maxLen; omega
          case c3 => omega
          case c4 => omega
          intro A2 c2 w2 hown2 hgrow2 _
          have hb2 : Below wo.heap.size wo w2 := hnx.grown hgrow2 (by omega) (fun q hq => (hown.lt q hq).1)
          rw [← hcat.out] at hown2
          clear hgrow2 hown hs g1 hDi
          go_wp2
          go_roundw
          case rel => exact ⟨i + 1, s' + ni, by go_num, by omega, hs2, hown2, hb2⟩
          case measure => simp [intOf]; omega
        · obtain rfl : i = j := by omega
          have e := hs.out
          subst e
          clear hs HSK
          go_wp2
          go_ret
          exact ⟨Av, cv, rfl, hcv, hnx, hown⟩
end De
end Go.Proofs.Ytpjomdkcckamkaa
