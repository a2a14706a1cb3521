/- Draws told back: the plain law of the search. No program in sight. -/
import Derived.Test.YtpjomdkcckamkaaChPure
namespace Go.Proofs.Ytpjomdkcckamkaa
namespace De
theorem where_first {x : D} : ∀ {l : List D} {j : Nat}, (∀ i, i < j → l[i]? ≠ some x) → l[j]? = some x → where_ x l = some j
  | [], j, _, h => by simp at h
  | y :: l, 0, _, h => by
    simp at h
    simp [where_, h]
  | y :: l, j + 1, h1, h => by
    have h0 : y ≠ x := fun e => h1 0 (by omega) (by simp [e])
    have ih := where_first (l := l) (j := j) (fun i hi => by
      have := h1 (i + 1) (by omega)
      simpa using this) (by simpa using h)
    simp [where_, h0, ih]
theorem where_no {x : D} {l : List D} (h : ∀ i, i < l.length → l[i]? ≠ some x) : where_ x l = none := where_none.2 fun hx => by
  obtain ⟨i, hi, e⟩ := List.mem_iff_getElem.1 hx
  exact h i hi (by rw [List.getElem?_eq_getElem hi, e])
/-- What is told when k of them are over. -/
structure DrwAt (xs l : List D) (k : Nat) (left : List D) (outs : List Int) : Prop where
  eq : drw xs l = (drw left (l.drop k)).map (outs ++ ·)
  len : outs.length = k
  sub : ∀ x ∈ left, x ∈ xs
  le : left.length + k = xs.length
  rng : ∀ d ∈ outs, 0 ≤ d ∧ d ≤ xs.length
theorem DrwAt.start (xs l : List D) : DrwAt xs l 0 xs [] := ⟨by simp, rfl, fun _ h => h, rfl, by simp⟩
theorem DrwAt.step {xs l left : List D} {k : Nat} {outs : List Int} (h : DrwAt xs l k left outs) {x : D} (hx : l[k]? = some x) {i : Nat} (hi : where_ x left = some i) : DrwAt xs l (k + 1) (left.eraseIdx i) (outs ++ [(i : Int)]) := by
  have hk : k < l.length := by
    rcases Nat.lt_or_ge k l.length with h | h
    · exact h
    · rw [List.getElem?_eq_none h] at hx
      cases hx
  have hd : l.drop k = x :: l.drop (k + 1) := by
    rw [List.drop_eq_getElem_cons hk]
    rw [List.getElem?_eq_getElem hk] at hx
    injection hx with hx
    rw [hx]
  have hlt := (where_lt hi).1
  refine ⟨?_, by simp [h.len], fun y hy => h.sub y (List.eraseIdx_subset hy), ?_, ?_⟩
  · rw [h.eq, hd]
    simp only [drw, hi, Option.map_map]
    congr 1
    funext ds
    simp
  · rw [List.length_eraseIdx_of_lt hlt]
    have := h.le
    omega
  · intro d hd
    rcases List.mem_append.1 hd with h1 | h1
    · exact h.rng d h1
    · have := h.le
      simp at h1
      omega
theorem DrwAt.done {xs l left : List D} {k : Nat} {outs : List Int} (h : DrwAt xs l k left outs) (hk : l.length ≤ k) : drw xs l = some outs := by
  rw [h.eq, List.drop_eq_nil_of_le hk]
  simp [drw]
theorem DrwAt.none_ {xs l left : List D} {k : Nat} {outs : List Int} (h : DrwAt xs l k left outs) {x : D} (hx : l[k]? = some x) (hi : where_ x left = none) : drw xs l = none := by
  have hk : k < l.length := by
    rcases Nat.lt_or_ge k l.length with h | h
    · exact h
    · rw [List.getElem?_eq_none h] at hx
      cases hx
  have hd : l.drop k = x :: l.drop (k + 1) := by
    rw [List.drop_eq_getElem_cons hk]
    rw [List.getElem?_eq_getElem hk] at hx
    injection hx with hx
    rw [hx]
  rw [h.eq, hd]
  simp [drw, hi]
end De
end Go.Proofs.Ytpjomdkcckamkaa
