/- The statements on descriptors: the chapter's examples; DescTotal. -/
import Derived.Test.YtpjomdkcckamkaaDeWalks6
namespace Go.Proofs.Ytpjomdkcckamkaa
open Go.RowKit Go.Sort Go.Shelf
namespace De
theorem raw_get {cs : Array Value} {xs : List (Int × Int)} (h : cs.toList = flatD xs) (j : Nat) (hj : j < xs.length) : cs[j * 2]? = some (.int .i64 (xs[j]?.getD (0, 0)).1) ∧ cs[j * 2 + 1]? = some (.int .i64 (xs[j]?.getD (0, 0)).2) := by
  have := flatD_get xs j hj
  rw [← h] at this
  simpa using this
/-- Descriptors that are written out, in a new block. -/
theorem descs_new (w : World) (cs : Array Value) (t : TypeId) (n : Nat) (xs : List (Int × Int)) (hl : xs.length = n) (hcs : cs.toList = flatD xs) (hw : ∀ x ∈ xs, Rng x) (hn : n ≤ 9223372036854775807) :
    Descs (w.alloc (.cells cs t)) w.heap.size (w.heap.size + 1) (some ⟨w.heap.size, 0, none⟩) n xs := by
  subst hl
  have hb := heap_alloc_new w (.cells cs t)
  refine ⟨rfl, hw, hn, fun _ => ⟨w.heap.size, 0, rfl, Nat.le_refl _, by omega, fun j hj => ?_⟩⟩
  obtain ⟨g1, g2⟩ := raw_get hcs j hj
  rw [Nat.zero_add, cell_of_row _ _ _ _ _ _ hb, cell_of_row _ _ _ _ _ _ hb]
  exact ⟨⟨g1, frozen_of_row _ _ _ _ _ hb⟩, g2, frozen_of_row _ _ _ _ _ hb⟩
theorem rng_of {xs : List (Int × Int)} (h : xs.all (fun x => decide (-9223372036854775808 ≤ x.1) && decide (x.1 ≤ 9223372036854775807) && decide (-9223372036854775808 ≤ x.2) && decide (x.2 ≤ 9223372036854775807)) = true) : ∀ x ∈ xs, Rng x := fun x hx => by
  have := List.all_eq_true.1 h x hx
  simp only [Bool.and_eq_true, decide_eq_true_eq] at this
  exact ⟨⟨this.1.1.1, this.1.1.2⟩, this.1.2, this.2⟩
def four : List (Int × Int) := [(1, 5), (0, 5), (2, 9), (1, 7)]

/-- headcountlaw07.four. -/
theorem four_any (w : World) : Calls Try.prog 54 #[] w fun e w' => ∃ A c, e = .returned (.slice A 4 c) ∧ 4 ≤ c ∧ Below w.heap.size w w' ∧ w.heap.size < w'.heap.size ∧ Descs w' w.heap.size w'.heap.size A 4 four := by
  have hd := descs_new w #[.int .i64 1, .int .i64 5, .int .i64 0, .int .i64 5, .int .i64 2, .int .i64 9, .int .i64 1, .int .i64 7] 29 4 four rfl rfl (rng_of (by decide)) (by decide)
  go_enter Try.func54, Try.ntmps54
  go_wp2
  go_ret
  exact ⟨_, 4, rfl, by omega, (Below.refl _ _).alloc (Nat.le_refl _) _, by simp, by simpa using hd⟩

/-- desc.Same, the world left open. -/
theorem Same_b (w : World) (lo hi lo' hi' : Nat) (A A' : Option Addr) (n c n' c' : Nat) (xs ys : List (Int × Int)) (hX : Descs w lo hi A n xs) (hY : Descs w lo' hi' A' n' ys) (r : Bool) (hr : Sm xs ys = r) :
    Calls Try.prog 20 #[.slice A n c, .slice A' n' c'] w fun e w' => e = .returned (.bool r) ∧ Below w.heap.size w w' :=
  (Same_any w lo hi lo' hi' A A' n c n' c' xs ys hX hY r hr).mono fun e w' ⟨he, m, hm⟩ => ⟨he, by rw [hm]; exact below_of_drewN _ _ _⟩

def ex1 : List (Int × Int) := [(2, 9), (1, 7), (0, 5), (1, 5)]
def ex2 : List (Int × Int) := [(2, 9), (1, 7), (0, 5)]
set_option maxHeartbeats 1600000 in
/-- headcountlaw07.alive. -/
theorem alive_p (w : World) : Calls Try.prog 18 #[] w fun e w' => e = .returned (.bool true) ∧ Below w.heap.size w w' ∧ 0 < w'.heap.size := by
  have e1 : Hid (srt four = ex1) := Lib.hid (by decide)
  have e2 : Hid (best four = ex2) := Lib.hid (by decide)
  go_enter Try.func18, Try.ntmps18
  go_wp2_with fail
  refine (four_any _).mono ?_
  rintro e w1 ⟨A1, c1, rfl, hc1, hb1, hl1, hD1⟩
  go_wp2_with fail
  refine (Order_ok _ _ _ A1 4 c1 four hD1 (Nat.le_refl _) (by omega) (by decide)).mono ?_
  rintro e w2 ⟨A2, c2, r2, rfl, hc2, hb2, hr2, hr2', hD2⟩
  rw [e1.out] at hD2
  have hs1 := hb1.size
  have hs2 := hb2.size
  have hb12 := hb1.trans (hb2.mono hs1)
  go_wp2_with fail
  refine (four_any _).mono ?_
  rintro e w3 ⟨A3, c3, rfl, hc3, hb3, hl3, hD3⟩
  have hs3 := hb3.size
  have hb13 := hb12.trans (hb3.mono (by omega))
  go_wp2_with fail
  refine (Best_ok _ _ _ A3 4 c3 four hD3 (Nat.le_refl _) (by omega) (by decide)).mono ?_
  rintro e w4 ⟨A4, n4, c4, r4, rfl, hc4, hb4, hr4, hr4', hD4⟩
  rw [e2.out] at hD4
  have hs4 := hb4.size
  have hb14 := hb13.trans (hb4.mono (by omega))
  have hD2' := (hD2.below (hb3.mono (by omega)) (Nat.le_refl _)).below (hb4.mono (by omega)) (Nat.le_refl (r2 + 1))
  have n4e : n4 = 3 := by rw [← hD4.len]; rfl
  subst n4e
  go_wp2_with fail
  have hL := descs_new w4 #[.int .i64 2, .int .i64 9, .int .i64 1, .int .i64 7, .int .i64 0, .int .i64 5, .int .i64 1, .int .i64 5] 29 4 ex1 rfl rfl (rng_of (by decide)) (by decide)
  refine (Same_b _ _ _ _ _ A2 _ 4 c2 4 4 ex1 ex1 (hD2'.alloc (by omega) _) hL true (by decide)).mono ?_
  rintro e w5 ⟨rfl, hb5⟩
  have hs5 := hb5.size
  simp at hs5
  have hb45 := ((Below.refl w4.heap.size w4).alloc (Nat.le_refl _) _).trans (hb5.mono (by simp))
  have hb15 := hb14.trans (hb45.mono (by omega))
  have hD4' := hD4.below hb45 (by omega)
  clear hL hb5
  go_wp2_with fail
  have hL := descs_new w5 #[.int .i64 2, .int .i64 9, .int .i64 1, .int .i64 7, .int .i64 0, .int .i64 5] 29 3 ex2 rfl rfl (rng_of (by decide)) (by decide)
  refine (Same_b _ _ _ _ _ A4 _ 3 c4 3 3 ex2 ex2 (hD4'.alloc (by omega) _) hL true (by decide)).mono ?_
  rintro e w6 ⟨rfl, hb6⟩
  have hb16 := (hb15.alloc (by omega) _).trans (hb6.mono (by simp; omega))
  have hs6 := hb6.size
  simp at hs6
  have hpos : 0 < w6.heap.size := by omega
  clear hL
  go_wp2
  go_ret
  exact ⟨rfl, hb16, hpos⟩
theorem alive_any (w : World) : Calls Try.prog 18 #[] w fun e w' => e = .returned (.bool true) ∧ Below w.heap.size w w' :=
  (alive_p w).mono fun _ _ ⟨he, hb, _⟩ => ⟨he, hb⟩
end De
end Go.Proofs.Ytpjomdkcckamkaa
