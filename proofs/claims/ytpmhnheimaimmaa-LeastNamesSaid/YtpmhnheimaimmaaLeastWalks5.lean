/- How tags are joined: the program's way; what is guessed; each by a walk. -/
import Derived.Test.YtpmhnheimaimmaaLeastWalks4
namespace Go.Proofs.Ytpmhnheimaimmaa
open Go.RowKit
namespace Least

/-- The variable in block g holds a slice that reads xs, below block B. -/
def Held (w : World) (g B : Nat) (xs : List Int) : Prop :=
  ∃ A n c, w.cell? ⟨g, 0, none⟩ = some (.slice A n c) ∧ w.frozen? ⟨g, 0, none⟩ = false ∧ n ≤ c ∧ Ints w 0 B .u32 A n xs

/-- But for what blocks g and g' hold, w' is w. -/
structure Two (w w' : World) (g g' : Nat) : Prop where
  os : w'.os = w.os
  tape : w'.tape = w.tape
  output : w'.output = w.output
  size : w'.heap.size = w.heap.size
  block : ∀ k, k ≠ g → k ≠ g' → w'.heap[k]? = w.heap[k]?

theorem Ints.cons {w : World} {lo hi : Nat} {k : IntKind} {A : Option Addr} {n : Nat} {x : Int} {xs : List Int} (h : Ints w lo hi k A n (x :: xs)) :
    n = xs.length + 1 ∧ ∃ b off, A = some ⟨b, off, none⟩ ∧ b < hi ∧ w.cell? ⟨b, off, none⟩ = some (.int k x) ∧ ∀ A', (n = 1 ∨ A' = some ⟨b, off + 1, none⟩) → Ints w lo hi k A' (n - 1) xs := by
  have hn : n = xs.length + 1 := by rw [← h.len]; rfl
  obtain ⟨b, off, e, h1, h2, hc⟩ := h.row (by omega)
  refine ⟨hn, b, off, e, h2, by simpa using (hc 0 (by omega)).1, fun A' hA => ⟨by omega, fun y hy => h.wf y (List.mem_cons_of_mem _ hy), by have := h.big; omega, fun h0 => ?_⟩⟩
  obtain rfl := hA.resolve_left (by omega)
  refine ⟨b, off + 1, rfl, h1, h2, fun j hj => ?_⟩
  have := hc (j + 1) (by omega)
  rw [show off + (j + 1) = off + 1 + j by omega] at this
  simpa using this

section
variable {w w' : World} {g g' B : Nat} {xs ys : List Int}
theorem Held.drewN (h : Held w g B xs) (m : Nat) : Held (w.drewN m) g B xs := by
  obtain ⟨A, n, c, h1, h2, h3, h4⟩ := h
  exact ⟨A, n, c, h1, h2, h3, h4.drewN m⟩
theorem Held.set_ (h : Held w g B ys) (hg : B ≤ g) {A : Option Addr} {n c : Nat} (hn : n ≤ c) (hI : Ints w 0 B .u32 A n xs) : Held (w.setCell ⟨g, 0, none⟩ (.slice A n c)) g B xs := by
  obtain ⟨_, _, _, h1, h2, _⟩ := h
  refine ⟨A, n, c, World.cell?_setCell_same' _ _ _ (by rw [h1]; rfl), by rw [World.frozen?_setCell]; exact h2, hn, hI.keep fun p hp => ⟨World.cell?_setCell_other _ _ _ _ (fun e => by subst e; simp at hp; omega), World.frozen?_setCell ..⟩⟩
theorem Held.other (h : Held w g B xs) (hne : g ≠ g') (hg : B ≤ g') (v : Value) : Held (w.setCell ⟨g', 0, none⟩ v) g B xs := by
  obtain ⟨A, n, c, h1, h2, h3, h4⟩ := h
  refine ⟨A, n, c, (World.cell?_setCell_other _ _ _ _ (fun e => by injection e with e; omega)).trans h1, by rw [World.frozen?_setCell]; exact h2, h3, h4.keep fun p hp => ⟨World.cell?_setCell_other _ _ _ _ (fun e => by subst e; simp at hp; omega), World.frozen?_setCell ..⟩⟩
theorem Two.refl (w : World) (g g' : Nat) : Two w w g g' := ⟨rfl, rfl, rfl, rfl, fun _ _ _ => rfl⟩
theorem Two.drewN {a : World} (h : Two a w g g') (m : Nat) : Two a (w.drewN m) g g' := ⟨h.os, h.tape, h.output, h.size, h.block⟩
theorem Two.setL {a : World} (h : Two a w g g') (v : Value) : Two a (w.setCell ⟨g, 0, none⟩ v) g g' :=
  ⟨h.os, h.tape, h.output, by simpa [World.setCell] using h.size, fun k h1 h2 => (Below.heap_setCell _ _ _ _ h1).trans (h.block k h1 h2)⟩
theorem Two.setR {a : World} (h : Two a w g g') (v : Value) : Two a (w.setCell ⟨g', 0, none⟩ v) g g' :=
  ⟨h.os, h.tape, h.output, by simpa [World.setCell] using h.size, fun k h1 h2 => (Below.heap_setCell _ _ _ _ h2).trans (h.block k h1 h2)⟩
end

theorem next_none (w : World) (g g' B : Nat) (h : Held w g B []) (h' : Held w g' B []) :
    Calls Try.prog 27 #[.pointer (some ⟨g, 0, none⟩), .pointer (some ⟨g', 0, none⟩)] w fun e w' => e = .returned (.tuple #[.int .u32 0, .bool false]) ∧ Two w w' g g' := by
  have H := h
  obtain ⟨A, n, c, hc, hf, hnc, hI⟩ := h
  have e : n = 0 := by have := hI.len; simpa using this.symm
  subst e
  have H' := h'
  obtain ⟨A', n', c', hc', hf', hnc', hI'⟩ := h'
  have e' : n' = 0 := by have := hI'.len; simpa using this.symm
  subst e'
  go_enter Try.func27, Try.ntmps27
  go_wp2
  go_ret2
  exact ⟨rfl, Two.refl ..⟩

set_option maxHeartbeats 800000 in
theorem next_left (w : World) (g g' B : Nat) (x : Int) (xs : List Int) (hne : g ≠ g') (hg : B ≤ g) (_hg' : B ≤ g') (h : Held w g B (x :: xs)) (h' : Held w g' B []) :
    Calls Try.prog 27 #[.pointer (some ⟨g, 0, none⟩), .pointer (some ⟨g', 0, none⟩)] w fun e w' => e = .returned (.tuple #[.int .u32 x, .bool true]) ∧ Held w' g B xs ∧ Held w' g' B [] ∧ Two w w' g g' := by
  have H := h
  obtain ⟨A, n, c, hc, hf, hnc, hI⟩ := h
  obtain ⟨hn, b, off, rfl, hb, hx, hcut⟩ := Ints.cons hI
  have hn1 : 1 ≤ n := by omega
  have q0 : ((n : Int) == 0) = false := by simp; omega
  have q1 : decide (0 < n) = true := by simp; omega
  have hbig := hI.big
  have Hn := Lib.hid hn
  clear hn hI
  have H' := h'
  obtain ⟨A', n', c', hc', hf', hnc', hI'⟩ := h'
  have e' : n' = 0 := by have := hI'.len; simpa using this.symm
  subst e'
  by_cases h1 : c = 1
  · subst h1
    obtain rfl : n = 1 := by omega
    go_enter Try.func27, Try.ntmps27
    go_wp2
    go_quiet (fail)
    go_wp2
    go_ret2
    exact ⟨rfl, (H.drewN _).set_ hg (Nat.le_refl 0) ((hcut _ (.inl (by first | rfl | trivial | simp))).drewN _), (H'.drewN _).other (Ne.symm hne) hg _, ((Two.refl ..).drewN _).setL _⟩
  · go_enter Try.func27, Try.ntmps27
    go_wp2
    go_quiet (fail)
    go_wp2
    go_ret2
    exact ⟨rfl, (H.drewN _).set_ hg (by omega) ((hcut _ (.inr rfl)).drewN _), (H'.drewN _).other (Ne.symm hne) hg _, ((Two.refl ..).drewN _).setL _⟩

set_option maxHeartbeats 800000 in
theorem next_less (w : World) (g g' B : Nat) (x : Int) (xs : List Int) (y : Int) (ys : List Int) (hne : g ≠ g') (hg : B ≤ g) (_hg' : B ≤ g') (h : Held w g B (x :: xs)) (h' : Held w g' B (y :: ys)) (hlt : x < y) :
    Calls Try.prog 27 #[.pointer (some ⟨g, 0, none⟩), .pointer (some ⟨g', 0, none⟩)] w fun e w' => e = .returned (.tuple #[.int .u32 x, .bool true]) ∧ Held w' g B xs ∧ Held w' g' B (y :: ys) ∧ Two w w' g g' := by
  have H := h
  obtain ⟨A, n, c, hc, hf, hnc, hI⟩ := h
  obtain ⟨hn, b, off, rfl, hb, hx, hcut⟩ := Ints.cons hI
  have hn1 : 1 ≤ n := by omega
  have q0 : ((n : Int) == 0) = false := by simp; omega
  have q1 : decide (0 < n) = true := by simp; omega
  have hbig := hI.big
  have Hn := Lib.hid hn
  clear hn hI
  have H' := h'
  obtain ⟨A', n', c', hc', hf', hnc', hI'⟩ := h'
  obtain ⟨hn', b', off', rfl, hb', hx', hcut'⟩ := Ints.cons hI'
  have hn1' : 1 ≤ n' := by omega
  have q0' : ((n' : Int) == 0) = false := by simp; omega
  have q1' : decide (0 < n') = true := by simp; omega
  have hbig' := hI'.big
  have Hn' := Lib.hid hn'
  clear hn' hI'
  have hq : (y == x) = false := by simp; omega
  by_cases h1 : c = 1
  · subst h1
    obtain rfl : n = 1 := by omega
    go_enter Try.func27, Try.ntmps27
    go_wp2
    go_quiet (fail)
    go_wp2
    go_ret2
    exact ⟨rfl, (H.drewN _).set_ hg (Nat.le_refl 0) ((hcut _ (.inl (by first | rfl | trivial | simp))).drewN _), (H'.drewN _).other (Ne.symm hne) hg _, ((Two.refl ..).drewN _).setL _⟩
  · go_enter Try.func27, Try.ntmps27
    go_wp2
    go_quiet (fail)
    go_wp2
    go_ret2
    exact ⟨rfl, (H.drewN _).set_ hg (by omega) ((hcut _ (.inr rfl)).drewN _), (H'.drewN _).other (Ne.symm hne) hg _, ((Two.refl ..).drewN _).setL _⟩

set_option maxHeartbeats 800000 in
theorem next_right (w : World) (g g' B : Nat) (y : Int) (ys : List Int) (hne : g ≠ g') (_hg : B ≤ g) (hg' : B ≤ g') (h : Held w g B []) (h' : Held w g' B (y :: ys)) :
    Calls Try.prog 27 #[.pointer (some ⟨g, 0, none⟩), .pointer (some ⟨g', 0, none⟩)] w fun e w' => e = .returned (.tuple #[.int .u32 y, .bool true]) ∧ Held w' g B [] ∧ Held w' g' B ys ∧ Two w w' g g' := by
  have H := h
  obtain ⟨A, n, c, hc, hf, hnc, hI⟩ := h
  have e : n = 0 := by have := hI.len; simpa using this.symm
  subst e
  have H' := h'
  obtain ⟨A', n', c', hc', hf', hnc', hI'⟩ := h'
  obtain ⟨hn', b', off', rfl, hb', hx', hcut'⟩ := Ints.cons hI'
  have hn1' : 1 ≤ n' := by omega
  have q0' : ((n' : Int) == 0) = false := by simp; omega
  have q1' : decide (0 < n') = true := by simp; omega
  have hbig' := hI'.big
  have Hn' := Lib.hid hn'
  clear hn' hI'
  by_cases h1 : c' = 1
  · subst h1
    obtain rfl : n' = 1 := by omega
    go_enter Try.func27, Try.ntmps27
    go_wp2
    go_quiet (fail)
    go_wp2
    go_ret2
    exact ⟨rfl, (H.drewN _).other hne hg' _, (H'.drewN _).set_ hg' (Nat.le_refl 0) ((hcut' _ (.inl (by first | rfl | trivial | simp))).drewN _), ((Two.refl ..).drewN _).setR _⟩
  · go_enter Try.func27, Try.ntmps27
    go_wp2
    go_quiet (fail)
    go_wp2
    go_ret2
    exact ⟨rfl, (H.drewN _).other hne hg' _, (H'.drewN _).set_ hg' (by omega) ((hcut' _ (.inr rfl)).drewN _), ((Two.refl ..).drewN _).setR _⟩

set_option maxHeartbeats 800000 in
theorem next_more (w : World) (g g' B : Nat) (x : Int) (xs : List Int) (y : Int) (ys : List Int) (hne : g ≠ g') (_hg : B ≤ g) (hg' : B ≤ g') (h : Held w g B (x :: xs)) (h' : Held w g' B (y :: ys)) (hlt : y < x) :
    Calls Try.prog 27 #[.pointer (some ⟨g, 0, none⟩), .pointer (some ⟨g', 0, none⟩)] w fun e w' => e = .returned (.tuple #[.int .u32 y, .bool true]) ∧ Held w' g B (x :: xs) ∧ Held w' g' B ys ∧ Two w w' g g' := by
  have H := h
  obtain ⟨A, n, c, hc, hf, hnc, hI⟩ := h
  obtain ⟨hn, b, off, rfl, hb, hx, hcut⟩ := Ints.cons hI
  have hn1 : 1 ≤ n := by omega
  have q0 : ((n : Int) == 0) = false := by simp; omega
  have q1 : decide (0 < n) = true := by simp; omega
  have hbig := hI.big
  have Hn := Lib.hid hn
  clear hn hI
  have H' := h'
  obtain ⟨A', n', c', hc', hf', hnc', hI'⟩ := h'
  obtain ⟨hn', b', off', rfl, hb', hx', hcut'⟩ := Ints.cons hI'
  have hn1' : 1 ≤ n' := by omega
  have q0' : ((n' : Int) == 0) = false := by simp; omega
  have q1' : decide (0 < n') = true := by simp; omega
  have hbig' := hI'.big
  have Hn' := Lib.hid hn'
  clear hn' hI'
  by_cases h1 : c' = 1
  · subst h1
    obtain rfl : n' = 1 := by omega
    go_enter Try.func27, Try.ntmps27
    go_wp2
    go_quiet (fail)
    go_wp2
    go_ret2
    exact ⟨rfl, (H.drewN _).other hne hg' _, (H'.drewN _).set_ hg' (Nat.le_refl 0) ((hcut' _ (.inl (by first | rfl | trivial | simp))).drewN _), ((Two.refl ..).drewN _).setR _⟩
  · go_enter Try.func27, Try.ntmps27
    go_wp2
    go_quiet (fail)
    go_wp2
    go_ret2
    exact ⟨rfl, (H.drewN _).other hne hg' _, (H'.drewN _).set_ hg' (by omega) ((hcut' _ (.inr rfl)).drewN _), ((Two.refl ..).drewN _).setR _⟩

set_option maxHeartbeats 800000 in
theorem next_same (w : World) (g g' B : Nat) (x : Int) (xs ys : List Int) (hne : g ≠ g') (hg : B ≤ g) (hg' : B ≤ g') (h : Held w g B (x :: xs)) (h' : Held w g' B (x :: ys)) :
    Calls Try.prog 27 #[.pointer (some ⟨g, 0, none⟩), .pointer (some ⟨g', 0, none⟩)] w fun e w' => e = .returned (.tuple #[.int .u32 x, .bool true]) ∧ Held w' g B xs ∧ Held w' g' B ys ∧ Two w w' g g' := by
  have H := h
  obtain ⟨A, n, c, hc, hf, hnc, hI⟩ := h
  obtain ⟨hn, b, off, rfl, hb, hx, hcut⟩ := Ints.cons hI
  have hn1 : 1 ≤ n := by omega
  have q0 : ((n : Int) == 0) = false := by simp; omega
  have q1 : decide (0 < n) = true := by simp; omega
  have hbig := hI.big
  have Hn := Lib.hid hn
  clear hn hI
  have H' := h'
  obtain ⟨A', n', c', hc', hf', hnc', hI'⟩ := h'
  obtain ⟨hn', b', off', rfl, hb', hx', hcut'⟩ := Ints.cons hI'
  have hn1' : 1 ≤ n' := by omega
  have q0' : ((n' : Int) == 0) = false := by simp; omega
  have q1' : decide (0 < n') = true := by simp; omega
  have hbig' := hI'.big
  have Hn' := Lib.hid hn'
  clear hn' hI'
  by_cases h1 : c = 1
  · subst h1
    obtain rfl : n = 1 := by omega
    by_cases h2 : c' = 1
    · subst h2
      obtain rfl : n' = 1 := by omega
      go_enter Try.func27, Try.ntmps27
      go_wp2
      go_quiet (fail)
      go_wp2
      go_ret2
      exact ⟨rfl, ((H.drewN _).other hne hg' _).set_ hg (Nat.le_refl 0) (((hcut _ (.inl (by first | rfl | trivial | simp))).drewN _).keep fun p hp => ⟨World.cell?_setCell_other _ _ _ _ (fun e => by subst e; simp at hp; omega), World.frozen?_setCell ..⟩), (((H'.drewN _).set_ hg' (Nat.le_refl 0) ((hcut' _ (.inl (by first | rfl | trivial | simp))).drewN _)).other (Ne.symm hne) hg _), (((Two.refl ..).drewN _).setR _).setL _⟩
    · go_enter Try.func27, Try.ntmps27
      go_wp2
      go_quiet (fail)
      go_wp2
      go_ret2
      exact ⟨rfl, ((H.drewN _).other hne hg' _).set_ hg (Nat.le_refl 0) (((hcut _ (.inl (by first | rfl | trivial | simp))).drewN _).keep fun p hp => ⟨World.cell?_setCell_other _ _ _ _ (fun e => by subst e; simp at hp; omega), World.frozen?_setCell ..⟩), (((H'.drewN _).set_ hg' (by omega) ((hcut' _ (.inr rfl)).drewN _)).other (Ne.symm hne) hg _), (((Two.refl ..).drewN _).setR _).setL _⟩
  · by_cases h2 : c' = 1
    · subst h2
      obtain rfl : n' = 1 := by omega
      go_enter Try.func27, Try.ntmps27
      go_wp2
      go_quiet (fail)
      go_wp2
      go_ret2
      exact ⟨rfl, ((H.drewN _).other hne hg' _).set_ hg (by omega) (((hcut _ (.inr rfl)).drewN _).keep fun p hp => ⟨World.cell?_setCell_other _ _ _ _ (fun e => by subst e; simp at hp; omega), World.frozen?_setCell ..⟩), (((H'.drewN _).set_ hg' (Nat.le_refl 0) ((hcut' _ (.inl (by first | rfl | trivial | simp))).drewN _)).other (Ne.symm hne) hg _), (((Two.refl ..).drewN _).setR _).setL _⟩
    · go_enter Try.func27, Try.ntmps27
      go_wp2
      go_quiet (fail)
      go_wp2
      go_ret2
      exact ⟨rfl, ((H.drewN _).other hne hg' _).set_ hg (by omega) (((hcut _ (.inr rfl)).drewN _).keep fun p hp => ⟨World.cell?_setCell_other _ _ _ _ (fun e => by subst e; simp at hp; omega), World.frozen?_setCell ..⟩), (((H'.drewN _).set_ hg' (by omega) ((hcut' _ (.inr rfl)).drewN _)).other (Ne.symm hne) hg _), (((Two.refl ..).drewN _).setR _).setL _⟩

/-- What the closure does where something is left. -/
theorem next_some (w : World) (g g' B : Nat) (xs ys : List Int) (x : Int) (xs' ys' : List Int) (hr : nextS xs ys = some (x, xs', ys')) (hne : g ≠ g') (hg : B ≤ g) (hg' : B ≤ g') (h : Held w g B xs) (h' : Held w g' B ys) :
    Calls Try.prog 27 #[.pointer (some ⟨g, 0, none⟩), .pointer (some ⟨g', 0, none⟩)] w fun e w' => e = .returned (.tuple #[.int .u32 x, .bool true]) ∧ Held w' g B xs' ∧ Held w' g' B ys' ∧ Two w w' g g' := by
  cases xs with
  | nil =>
    cases ys with
    | nil => simp [nextS] at hr
    | cons b l2 =>
      simp only [nextS, Option.some.injEq, Prod.mk.injEq] at hr
      obtain ⟨rfl, rfl, rfl⟩ := hr
      exact next_right w g g' B _ _ hne hg hg' h h'
  | cons a l1 =>
    cases ys with
    | nil =>
      simp only [nextS, Option.some.injEq, Prod.mk.injEq] at hr
      obtain ⟨rfl, rfl, rfl⟩ := hr
      exact next_left w g g' B _ _ hne hg hg' h h'
    | cons b l2 =>
      simp only [nextS] at hr
      by_cases h1 : a ≤ b
      · rw [if_pos h1] at hr
        by_cases h2 : b = a
        · subst h2
          rw [if_pos rfl] at hr
          simp only [Option.some.injEq, Prod.mk.injEq] at hr
          obtain ⟨rfl, rfl, rfl⟩ := hr
          exact next_same w g g' B _ _ _ hne hg hg' h h'
        · rw [if_neg h2] at hr
          simp only [Option.some.injEq, Prod.mk.injEq] at hr
          obtain ⟨rfl, rfl, rfl⟩ := hr
          exact next_less w g g' B _ _ _ _ hne hg hg' h h' (by omega)
      · rw [if_neg h1] at hr
        simp only [Option.some.injEq, Prod.mk.injEq] at hr
        obtain ⟨rfl, rfl, rfl⟩ := hr
        exact next_more w g g' B _ _ _ _ hne hg hg' h h' (by omega)

theorem Two.below {w w' : World} {g g' B : Nat} (h : Two w w' g g') (h1 : B ≤ g) (h2 : B ≤ g') : Below B w w' :=
  ⟨h.os, h.tape, h.output, by rw [h.size]; exact Nat.le_refl _, fun k hk => h.block k (by omega) (by omega)⟩
theorem own_two {w w' : World} {g g' base : Nat} {e : TypeId} {size n : Nat} {v : Value} {xs : List Value} (h : w.ownsRow base e size v n xs) (ht : Two w w' g g') (h1 : g < base) (h2 : g' < base) : w'.ownsRow base e size v n xs := by
  refine ⟨h.1, ?_⟩
  rcases h.2 with hn | ⟨q, cap, cur, hv, hb, hgg, rest⟩
  · exact .inl hn
  · exact .inr ⟨q, cap, cur, hv, hb, (ht.block q (by omega) (by omega)).trans hgg, rest⟩
theorem Held.grown {w w' : World} {g B : Nat} {xs : List Int} {row : Option Nat} (h : Held w g B xs) (hg : w.grownBy w' row) (hr : ∀ k, row = some k → B ≤ k ∧ g ≠ k) (hB : B ≤ w.heap.size) (hgs : g < w.heap.size) : Held w' g B xs := by
  obtain ⟨A, n, c, h1, h2, h3, h4⟩ := h
  have hb := hg.block g hgs (fun e => by have := (hr g e.symm).2; omega)
  refine ⟨A, n, c, (World.cell?_of_block hb).trans h1, (World.frozen?_of_block hb).trans h2, h3, h4.keep fun p hp => ?_⟩
  have hb := hg.block p.block (by omega) (fun e => by have := (hr _ e.symm).1; omega)
  exact ⟨World.cell?_of_block hb, World.frozen?_of_block hb⟩
theorem grown_alloc (w : World) (o : Obj) : w.grownBy (w.alloc o) none := World.grownBy_alloc w o none

end Least
end Go.Proofs.Ytpmhnheimaimmaa
