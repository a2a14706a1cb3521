/- How lists that rise are joined, in whatever order: no program in sight. -/
import Derived.Test.YtpmhnheimaimmaaLeastPure
namespace Go.Proofs.Ytpmhnheimaimmaa
namespace Least

theorem joinN_take_left : ∀ (n m : Nat) (a b : List Int), n ≤ m → joinN n (a.take m) b = joinN n a b
  | 0, _, _, _, _ => rfl
  | n + 1, m, a, b, h => by
    obtain ⟨m, rfl⟩ : ∃ k, m = k + 1 := ⟨m - 1, by omega⟩
    cases a with
    | nil => rfl
    | cons x xs =>
      rw [List.take_succ_cons]
      have ih := fun ys => joinN_take_left n m xs ys (by omega)
      have ih2 := fun ys => joinN_take_left n (m + 1) (x :: xs) ys (by omega)
      rw [List.take_succ_cons] at ih2
      cases b with
      | nil => simp only [joinN, nextS]; rw [ih]
      | cons y ys =>
        simp only [joinN, nextS]
        split <;> (try split) <;> grind

theorem joinN_comm : ∀ (n : Nat) (a b : List Int), joinN n a b = joinN n b a
  | 0, _, _ => rfl
  | n + 1, a, b => by
    cases a with
    | nil =>
      cases b with
      | nil => rfl
      | cons y ys => simp only [joinN, nextS]; rw [joinN_comm n]
    | cons x xs =>
      cases b with
      | nil => simp only [joinN, nextS]; rw [joinN_comm n]
      | cons y ys =>
        have h1 := joinN_comm n xs (y :: ys)
        have h2 := joinN_comm n (x :: xs) ys
        have h3 := joinN_comm n xs ys
        simp only [joinN, nextS]
        grind

theorem joinN_take_right (n m : Nat) (a b : List Int) (h : n ≤ m) : joinN n a (b.take m) = joinN n a b := by
  rw [joinN_comm, joinN_take_left n m b a h, joinN_comm]

/-- All of both. -/
def joinAll (a b : List Int) : List Int := joinN (a.length + b.length) a b
theorem all_mem (a b : List Int) (y : Int) : y ∈ joinAll a b ↔ y ∈ a ∨ y ∈ b := joinN_mem _ a b (Nat.le_refl _) y
theorem all_sorted (a b : List Int) (ha : a.Pairwise (· < ·)) (hb : b.Pairwise (· < ·)) : (joinAll a b).Pairwise (· < ·) := joinN_sorted _ a b (Nat.le_refl _) ha hb
theorem all_more (a b : List Int) (m : Nat) (hm : a.length + b.length ≤ m) (ha : a.Pairwise (· < ·)) (hb : b.Pairwise (· < ·)) : joinN m a b = joinAll a b :=
  sorted_eq _ _ (joinN_sorted m a b hm ha hb) (all_sorted a b ha hb) fun y => (joinN_mem m a b hm y).trans (all_mem a b y).symm
theorem joinN_all (a b : List Int) (n : Nat) (ha : a.Pairwise (· < ·)) (hb : b.Pairwise (· < ·)) : joinN n a b = (joinAll a b).take n := by
  rw [joinN_take n (n + (a.length + b.length)) a b (by omega), all_more a b _ (by omega) ha hb]
theorem joinN_rises (a b : List Int) (n : Nat) (ha : a.Pairwise (· < ·)) (hb : b.Pairwise (· < ·)) : (joinN n a b).Pairwise (· < ·) := by
  rw [joinN_all a b n ha hb]
  exact (all_sorted a b ha hb).sublist (List.take_sublist _ _)
theorem joinN_len (n : Nat) (a b : List Int) : (joinN n a b).length ≤ n := by
  rw [joinN_take n n a b (Nat.le_refl _)]
  simp
  omega
theorem joinN_assoc (n : Nat) (a b c : List Int) (ha : a.Pairwise (· < ·)) (hb : b.Pairwise (· < ·)) (hc : c.Pairwise (· < ·)) : joinN n (joinN n a b) c = joinN n a (joinN n b c) := by
  rw [joinN_all a b n ha hb, joinN_all b c n hb hc, joinN_take_left n n _ _ (Nat.le_refl _), joinN_take_right n n _ _ (Nat.le_refl _), joinN_all _ _ n (all_sorted a b ha hb) hc, joinN_all _ _ n ha (all_sorted b c hb hc)]
  congr 1
  refine sorted_eq _ _ (all_sorted _ _ (all_sorted a b ha hb) hc) (all_sorted _ _ ha (all_sorted b c hb hc)) fun y => ?_
  rw [all_mem, all_mem, all_mem, all_mem]
  grind
theorem joinN_again (n : Nat) (a b : List Int) (ha : a.Pairwise (· < ·)) (hb : b.Pairwise (· < ·)) : joinN n (joinN n a b) b = joinN n a b := by
  rw [joinN_all a b n ha hb, joinN_take_left n n _ _ (Nat.le_refl _), joinN_all _ _ n (all_sorted a b ha hb) hb]
  congr 1
  refine sorted_eq _ _ (all_sorted _ _ (all_sorted a b ha hb) hb) (all_sorted a b ha hb) fun y => ?_
  rw [all_mem, all_mem]
  grind
theorem joinN_nil (n : Nat) (a : List Int) (ha : a.Pairwise (· < ·)) (hl : a.length ≤ n) : joinN n a [] = a := by
  rw [joinN_all a [] n ha .nil]
  have : joinAll a [] = a := sorted_eq _ _ (all_sorted a [] ha .nil) ha fun y => by rw [all_mem]; simp
  rw [this, List.take_of_length_le hl]
theorem join_code {a b : List Int} (ha : checkCode a = 0) (hb : checkCode b = 0) : checkCode (joinN 8 a b) = 0 :=
  checkCode_zero (joinN_len 8 a b) (joinN_rises a b 8 (checkCode_ok ha).2 (checkCode_ok hb).2)

/-- What is left out is above all that are kept. -/
theorem join_out {a b : List Int} (ha : checkCode a = 0) (hb : checkCode b = 0) (t : Int) (ht : t ∈ a ∨ t ∈ b) (hn : t ∉ joinN 8 a b) : (joinN 8 a b).length = 8 ∧ (joinN 8 a b)[(7 : Nat)]?.getD 0 < t := by
  have h1 := (checkCode_ok ha).2
  have h2 := (checkCode_ok hb).2
  rw [joinN_all a b 8 h1 h2] at hn ⊢
  have hs := all_sorted a b h1 h2
  have hm := (all_mem a b t).2 ht
  revert hs hm hn
  generalize joinAll a b = s
  intro hn hs hm
  rw [← List.take_append_drop 8 s, List.mem_append] at hm
  have hd := hm.resolve_left hn
  have hlen : 8 < s.length := by
    have := List.length_pos_of_mem hd
    simp at this
    omega
  refine ⟨by simp; omega, ?_⟩
  rw [← List.take_append_drop 8 s] at hs
  refine (List.pairwise_append.1 hs).2.2 _ ?_ _ hd
  have e : (s.take 8)[(7 : Nat)]? = some (s[7]) := by simp
  rw [e]
  exact List.mem_of_getElem? e

theorem guess_many {l : List Int} (h : checkCode l = 0) (h0 : ∀ x ∈ l, 0 ≤ x ∧ x ≤ 4294967295) : (l.length : Int) ≤ guessS l ∨ 7 ≤ guessS l := by
  unfold guessS
  split
  · exact .inl (Int.le_refl _)
  · rename_i h8
    have h7 := seventh h h8 fun x hx => (h0 x hx).1
    have hh : l[(7 : Nat)]?.getD 0 ≤ 4294967295 := by
      have : l[(7 : Nat)]? = some l[7] := List.getElem?_eq_getElem (by omega)
      rw [this]
      exact (h0 _ (List.getElem_mem _)).2
    refine .inr ((Int.le_ediv_iff_mul_le (by omega)).2 (by omega))
end Least
end Go.Proofs.Ytpmhnheimaimmaa
