/- A row of numbers sorted by the library, where it is short: by walks over the library's own text. -/
import Derived.Test.YtpmhnheimaimmaaLeastAlive
namespace Go.Proofs.Ytpmhnheimaimmaa
open Go.RowKit
namespace Least

/-- Numbers j - 1 and j changed about. -/
def sw (f : Nat → Int) (j : Nat) : Nat → Int := fun k => if k = j then f (j - 1) else if k + 1 = j then f j else f k
/-- The same numbers, each once. -/
def SameRow (f0 f : Nat → Int) (n : Nat) : Prop := (∀ y, (∃ k, k < n ∧ f k = y) ↔ ∃ k, k < n ∧ f0 k = y) ∧ ∀ p q, p < n → q < n → f p = f q → p = q
def UpTo (f : Nat → Int) (i : Nat) : Prop := ∀ p q, p < q → q < i → f p < f q
def But (f : Nat → Int) (i j : Nat) : Prop := ∀ p q, p < q → q ≤ i → q ≠ j → f p < f q
theorem SameRow.refl {f : Nat → Int} {n : Nat} (h : ∀ p q, p < n → q < n → f p = f q → p = q) : SameRow f f n := ⟨fun _ => Iff.rfl, h⟩
theorem sw_same {f0 f : Nat → Int} {n j : Nat} (h : SameRow f0 f n) (h0 : 0 < j) (hj : j < n) : SameRow f0 (sw f j) n := by
  refine ⟨fun y => ?_, fun p q hp hq => ?_⟩
  · rw [← h.1 y]
    constructor
    · rintro ⟨k, hk, rfl⟩
      unfold sw
      split
      · exact ⟨j - 1, by omega, rfl⟩
      · split
        · exact ⟨j, by omega, rfl⟩
        · exact ⟨k, hk, rfl⟩
    · rintro ⟨k, hk, rfl⟩
      by_cases e : k = j
      · exact ⟨j - 1, by omega, by unfold sw; rw [if_neg (by omega), if_pos (by omega), e]⟩
      · by_cases e2 : k + 1 = j
        · exact ⟨j, hj, by unfold sw; rw [if_pos rfl]; congr 1; omega⟩
        · exact ⟨k, hk, by unfold sw; rw [if_neg e, if_neg e2]⟩
  · unfold sw
    intro e
    have inj := h.2
    split at e <;> split at e <;> (try split at e) <;> (try split at e)
    all_goals first
      | omega
      | (have := inj _ _ (by omega) (by omega) e; omega)
theorem sw_but {f : Nat → Int} {i j : Nat} (h : But f i j) (h0 : 0 < j) (hi : j ≤ i) (hl : f j < f (j - 1)) : But (sw f j) i (j - 1) := by
  intro p q hpq hq hne
  unfold sw
  by_cases e1 : q = j
  · subst e1
    rw [if_pos rfl]
    rw [if_neg (by omega)]
    by_cases e2 : p + 1 = q
    · rw [if_pos e2]; exact hl
    · rw [if_neg e2]; exact h p (q - 1) (by omega) (by omega) (by omega)
  · rw [if_neg e1, if_neg (show ¬ q + 1 = j by omega)]
    by_cases e2 : p = j
    · rw [if_pos e2]; exact h (j - 1) q (by omega) hq e1
    · rw [if_neg e2]
      by_cases e3 : p + 1 = j
      · rw [if_pos e3]; exact h j q (by omega) hq e1
      · rw [if_neg e3]; exact h p q hpq hq e1
theorem but_start {f : Nat → Int} {i : Nat} (h : UpTo f i) : But f i i := fun p q hpq hq hne => h p q hpq (by omega)
theorem but_end0 {f : Nat → Int} {i : Nat} (h : But f i 0) : UpTo f (i + 1) := fun p q hpq hq => h p q hpq (by omega) (by omega)
theorem but_end {f : Nat → Int} {i j : Nat} (h : But f i j) (hl : f (j - 1) < f j) (h0 : 0 < j) : UpTo f (i + 1) := fun p q hpq hq => by
  by_cases e : q = j
  · subst e
    by_cases e2 : p = q - 1
    · rw [e2]; exact hl
    · have := h p (q - 1) (by omega) (by omega) (by omega); omega
  · exact h p q hpq (by omega) e

/-- The block holds the row, and may be written. -/
def RowAt (w : World) (g n : Nat) (f : Nat → Int) : Prop := ∀ k, k < n → w.cell? ⟨g, k, none⟩ = some (.int .u32 (f k)) ∧ w.frozen? ⟨g, k, none⟩ = false
theorem RowAt.drewN {w : World} {g n : Nat} {f : Nat → Int} (h : RowAt w g n f) (m : Nat) : RowAt (w.drewN m) g n f := h
theorem RowAt.sw_ {w : World} {g n j : Nat} {f : Nat → Int} (h : RowAt w g n f) (h0 : 0 < j) (hj : j < n) : RowAt ((w.setCell ⟨g, j, none⟩ (.int .u32 (f (j - 1)))).setCell ⟨g, j - 1, none⟩ (.int .u32 (f j))) g n (sw f j) := by
  intro k hk
  have h1 : (w.setCell ⟨g, j, none⟩ (.int .u32 (f (j - 1)))).cell? ⟨g, j - 1, none⟩ = some (.int .u32 (f (j - 1))) := (World.cell?_setCell_other _ _ _ _ (by intro e; injection e with _ e2; omega)).trans (h _ (by omega)).1
  refine ⟨?_, by rw [World.frozen?_setCell, World.frozen?_setCell]; exact (h k hk).2⟩
  unfold sw
  by_cases e : k = j
  · subst e
    rw [if_pos rfl, World.cell?_setCell_other _ _ _ _ (by intro e; injection e with _ e2; omega)]
    exact World.cell?_setCell_same' _ _ _ (by rw [(h k hk).1]; rfl)
  · rw [if_neg e]
    by_cases e2 : k + 1 = j
    · subst e2
      rw [if_pos rfl]
      exact World.cell?_setCell_same' _ _ _ (by rw [h1]; rfl)
    · rw [if_neg e2, World.cell?_setCell_other _ _ _ _ (by intro e; injection e with _ e2; omega), World.cell?_setCell_other _ _ _ _ (by intro e; injection e with _ e2; omega)]
      exact (h k hk).1

theorem Two.setAt {a w : World} {g : Nat} (h : Two a w g g) (k : Nat) (v : Value) : Two a (w.setCell ⟨g, k, none⟩ v) g g :=
  ⟨h.os, h.tape, h.output, by simpa [World.setCell] using h.size, fun k h1 h2 => (Below.heap_setCell _ _ _ _ h1).trans (h.block k h1 h2)⟩

theorem isNaN_any (w : World) (x : Int) : Calls Try.prog 59 #[.int .u32 x] w fun e w' => e = .returned (.bool false) ∧ w' = w := by
  go_enter Try.func59, Try.ntmps59
  go_wp2
  go_ret
  exact ⟨ret_bool (by simp), rfl⟩
theorem Less_any (w : World) (x y : Int) (r : Bool) (hr : decide (x < y) = r) : Calls Try.prog 49 #[.int .u32 x, .int .u32 y] w fun e w' => e = .returned (.bool r) ∧ w' = w := by
  have Hr := Lib.hid hr
  clear hr
  go_enter Try.func49, Try.ntmps49
  go_wp2_with fail
  refine (isNaN_any _ _).mono ?_
  rintro e w' ⟨rfl, rfl⟩
  go_wp2_with fail
  go_ret
  exact ⟨ret_bool (by simpa using Hr.out), by trivial⟩

set_option maxHeartbeats 1600000 in
/-- slices.insertionSortOrdered, from the beginning on. -/
theorem insertion_any (w : World) (g c n : Nat) (f : Nat → Int) (hrow : RowAt w g n f) (hinj : ∀ p q, p < n → q < n → f p = f q → p = q) (hn : n ≤ 1000) :
    Calls Try.prog 43 #[.slice (some ⟨g, 0, none⟩) n c, .int .i64 0, .int .i64 n] w fun e w' => e = .returned (.tuple #[]) ∧ Two w w' g g ∧ ∃ f', RowAt w' g n f' ∧ SameRow f f' n ∧ UpTo f' n := by
  go_enter Try.func43, Try.ntmps43
  go_wp2
  go_loopw [6] (fun i wr => ∃ k : Nat, i = .int .i64 k ∧ 1 ≤ k ∧ (k ≤ n ∨ k = 1) ∧ Two w wr g g ∧ ∃ f', RowAt wr g n f' ∧ SameRow f f' n ∧ UpTo f' k) (fun i _ => n - (intOf i).toNat)
  case atStart => exact ⟨1, rfl, by omega, by omega, Two.refl _ _ _, f, hrow, SameRow.refl hinj, fun p q h1 h2 => by omega⟩
  case round =>
    obtain ⟨k, rfl, hk1, hk, ht, f1, hr1, hs1, hu1⟩ := hrel
    by_cases hlt : k < n
    · go_wp2
      go_loopw [7] (fun i wr => ∃ j : Nat, i = .int .i64 j ∧ j ≤ k ∧ Two w wr g g ∧ ∃ f', RowAt wr g n f' ∧ SameRow f f' n ∧ But f' k j) (fun i _ => (intOf i).toNat)
      case atStart => exact ⟨k, rfl, by omega, ht, f1, hr1, hs1, but_start hu1⟩
      case round =>
        clear hr1 hs1 hu1 ht
        obtain ⟨j, rfl, hj, ht, f2, hr2, hs2, hb2⟩ := hrel
        by_cases h0 : 0 < j
        · have g1 := hr2 j (by omega)
          have g2 := hr2 (j - 1) (by omega)
          have h0i : (0 : Int) < (j : Int) := by omega
          by_cases hless : f2 j < f2 (j - 1)
          · go_wp2_with fail
            go_quiet (first | (go_at_call 49; refine Calls.quiet_of_same (Less_any _ _ _ true ?_); simpa using hless))
            go_wp2
            go_region
            go_wp2
            go_roundw
            case rel => exact ⟨j - 1, by congr 1; omega, by omega, ((ht.drewN _).setAt _ _).setAt _ _, sw f2 j, (hr2.drewN _).sw_ h0 (by omega), sw_same hs2 h0 (by omega), sw_but hb2 h0 hj hless⟩
            case measure => simp [intOf]; omega
          · have hgt : f2 (j - 1) < f2 j := by
              have := hs2.2 j (j - 1) (by omega) (by omega)
              omega
            have hu := but_end hb2 hgt h0
            go_wp2_with fail
            go_quiet (first | (go_at_call 49; refine Calls.quiet_of_same (Less_any _ _ _ false ?_); simpa using hless))
            go_wp2
            go_roundw
            case rel => exact ⟨k + 1, by go_num, by omega, by omega, ht.drewN _, f2, hr2, hs2, hu⟩
            case measure => simp [intOf]; omega
        · obtain rfl : j = 0 := by omega
          have hu := but_end0 hb2
          go_wp2_with fail
          go_quiet (fail)
          go_wp2
          go_roundw
          case rel => exact ⟨k + 1, by go_num, by omega, by omega, ht.drewN _, f2, hr2, hs2, hu⟩
          case measure => simp [intOf]; omega
    · go_wp2
      go_end0
      exact ⟨rfl, ht, f1, hr1, hs1, fun p q h1 h2 => hu1 p q h1 (by omega)⟩

set_option maxRecDepth 100000 in
theorem Len4 (w : World) : Calls Try.prog 41 #[.int .u64 4] w fun e w' => e = .returned (.int .i64 3) ∧ w' = w := by
  go_enter Try.func41, Try.ntmps41
  go_wp2
  go_ret
  exact ⟨by kernel_rfl, rfl⟩

set_option maxHeartbeats 1600000 in
theorem pdq4 (w : World) (g c : Nat) (f : Nat → Int) (hrow : RowAt w g 4 f) (hinj : ∀ p q, p < 4 → q < 4 → f p = f q → p = q) :
    Calls Try.prog 40 #[.slice (some ⟨g, 0, none⟩) 4 c, .int .i64 0, .int .i64 4, .int .i64 3] w fun e w' => e = .returned (.tuple #[]) ∧ Two w w' g g ∧ ∃ f', RowAt w' g 4 f' ∧ SameRow f f' 4 ∧ UpTo f' 4 := by
  go_enter Try.func40, Try.ntmps40
  go_wp2
  refine wp_loop_rounds 1 ?_
  rw [rounds_succ]
  go_wp2_with fail
  refine (insertion_any _ g c 4 f hrow hinj (by decide)).mono ?_
  rintro e w' ⟨rfl, ht, f1, hr1, hs1, hu1⟩
  go_wp2_with fail
  refine bodyPost_ret (results_none rfl _ _ _) rfl ?_
  exact ⟨rfl, ht, f1, hr1, hs1, hu1⟩

/-- slices.Sort, of four. -/
theorem Sort4 (w : World) (g c : Nat) (f : Nat → Int) (hrow : RowAt w g 4 f) (hinj : ∀ p q, p < 4 → q < 4 → f p = f q → p = q) :
    Calls Try.prog 31 #[.slice (some ⟨g, 0, none⟩) 4 c] w fun e w' => e = .returned (.tuple #[]) ∧ Two w w' g g ∧ ∃ f', RowAt w' g 4 f' ∧ SameRow f f' 4 ∧ UpTo f' 4 := by
  go_enter Try.func31, Try.ntmps31
  go_wp2_with fail
  refine (Len4 _).mono ?_
  rintro e w' ⟨rfl, rfl⟩
  go_wp2_with fail
  refine (pdq4 _ g c f hrow hinj).mono ?_
  rintro e w' ⟨rfl, ht, f1, hr1, hs1, hu1⟩
  go_wp2_with fail
  go_end0
  exact ⟨rfl, ht, f1, hr1, hs1, hu1⟩
end Least
end Go.Proofs.Ytpmhnheimaimmaa
