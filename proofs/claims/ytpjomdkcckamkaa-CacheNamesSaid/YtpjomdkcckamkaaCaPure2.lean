/- Caches: plain laws for the statements. -/
import Derived.Test.YtpjomdkcckamkaaCaWalks5
namespace Go.Proofs.Ytpjomdkcckamkaa
namespace De
theorem check_app {l m : List D} (h1 : check l = 0) (h2 : check m = 0) (hl : l.length + m.length ≤ 64) : check (l ++ m) = 0 := by
  obtain ⟨_, a⟩ := check_zero h1
  obtain ⟨_, b⟩ := check_zero h2
  exact check_ok (by simp; omega) (by rw [List.all_append, a, b]; rfl)
theorem merge_zeroM {own cap : Int} {xs ys : List D} (h : mergeC own cap xs ys = 0) : MayC own cap xs ∧ check ys = 0 ∧ xs.length + ys.length ≤ 64 := by
  unfold mergeC at h
  split at h
  · rename_i h1
    split at h
    · rename_i h2
      split at h
      · cases h
      · exact ⟨(mayC_iff _ _ _).1 h1, h2, by omega⟩
    · rename_i h2
      exact absurd h h2
  · cases h
theorem merge_ok {own cap : Int} {xs ys : List D} (h : MayC own cap xs) (h2 : check ys = 0) (h3 : xs.length + ys.length ≤ 64) : mergeC own cap xs ys = 0 := by
  rw [mergeC, if_pos ((mayC_iff _ _ _).2 h), if_pos h2, if_neg (by omega)]
theorem may_six {own cap : Int} {xs : List D} (h : MayC own cap xs) : xs.length ≤ 6 ∧ 1 ≤ cap ∧ cap ≤ 6 := by
  have h1 := h.len
  have h2 := (newOk_iff own cap).1 h.new
  omega
theorem merge_code {own cap : Int} {xs ys : List D} (h : MayC own cap xs) (h3 : ys.length ≤ 50) : mergeC own cap xs ys = check ys := by
  have h4 := may_six h
  rw [mergeC, if_pos ((mayC_iff _ _ _).2 h)]
  split
  · rename_i h2
    rw [if_neg (by omega), h2]
  · rfl
theorem taken_mayC {own cap : Int} {xs ys : List D} (h : mergeC own cap xs ys = 0) : MayC own cap (taken own cap.toNat (xs ++ ys)) := by
  obtain ⟨h1, h2, _⟩ := merge_zeroM h
  refine taken_may h1.new ?_
  rw [List.all_append, (check_zero h1.chk).2, (check_zero h2).2]
  rfl

-- Offers
theorem told_ok {own cap now : Int} {xs : List D} (h : MayC own cap xs) (h1 : 0 ≤ now) (h2 : now ≤ 2147483647) : check (told own now xs) = 0 := by
  rw [told, check_perm (srt_perm _)]
  exact told_check h h1 h2
theorem told_len (own now : Int) (xs : List D) : (told own now xs).length = xs.length + 1 := by rw [told, srt_len]; rfl
theorem told_mem {own now : Int} {xs : List D} {x : D} : x ∈ told own now xs ↔ x = (own, now) ∨ x ∈ xs := by rw [told, srt_mem, List.mem_cons]
theorem offers_own {own cap now : Int} {xs : List D} (h : MayC own cap xs) : taken own cap.toNat (xs ++ told own now xs) = xs := by
  have e : taken own cap.toNat (xs ++ told own now xs) = taken own cap.toNat xs := by
    unfold taken
    rw [best_cong (l := others own (xs ++ told own now xs)) (m := others own xs) fun x => ?_]
    rw [others_mem, others_mem, List.mem_append, told_mem]
    constructor
    · rintro ⟨h1 | rfl | h1, h2⟩
      · exact ⟨h1, h2⟩
      · exact absurd rfl h2
      · exact ⟨h1, h2⟩
    · rintro ⟨h1, h2⟩
      exact ⟨.inl h1, h2⟩
  rw [e, h.self]
theorem offers_merge {own cap now ow ca : Int} {xs ys : List D} (h : MayC own cap xs) (h1 : 0 ≤ now) (h2 : now ≤ 2147483647) : mergeC ow ca ys (told own now xs) = if mayC ow ca ys = true then 0 else 8 := by
  by_cases hm : mayC ow ca ys = true
  · rw [if_pos hm]
    have h3 := may_six ((mayC_iff _ _ _).1 hm)
    have h4 := may_six h
    exact merge_ok ((mayC_iff _ _ _).1 hm) (told_ok h h1 h2) (by rw [told_len]; omega)
  · rw [if_neg hm, mergeC, if_neg hm]
theorem offers_has {ow own now : Int} {xs ys : List D} (hne : own ≠ ow) : ∃ x ∈ best (others ow (ys ++ told own now xs)), x.1 = own ∧ now ≤ x.2 :=
  (best_is (others ow (ys ++ told own now xs))).has (own, now) (others_mem.2 ⟨List.mem_append_right _ (told_mem.2 (.inl rfl)), hne⟩)
theorem offers_fresh {ow own now : Int} {k : Nat} {xs ys : List D} (hne : own ≠ ow) {d : D} (hd : d ∈ taken ow k (ys ++ told own now xs)) (e : d.1 = own) : now ≤ d.2 := by
  obtain ⟨x, hx, e1, e2⟩ := offers_has (ow := ow) (own := own) (now := now) (xs := xs) (ys := ys) hne
  rw [apart_eq (best_is _).apart (List.mem_of_mem_take hd) hx (by rw [e, e1])]
  exact e2
theorem offers_full {ow own now : Int} {k : Nat} {xs ys : List D} (hne : own ≠ ow) (hno : ∀ d ∈ taken ow k (ys ++ told own now xs), d.1 ≠ own) : (taken ow k (ys ++ told own now xs)).length = k := by
  obtain ⟨x, hx, e1, e2⟩ := offers_has (ow := ow) (own := own) (now := now) (xs := xs) (ys := ys) hne
  unfold taken at *
  rw [List.length_take]
  refine Nat.min_eq_left (Decidable.byContradiction fun hc => ?_)
  rw [List.take_of_length_le (by omega)] at hno
  exact hno x hx e1

-- Once
theorem once_twice (own : Int) (k : Nat) (xs ys : List D) : taken own k (taken own k (xs ++ ys) ++ ys) = taken own k (xs ++ ys) := by
  rw [taken_step]
  exact taken_cong own k fun x => by simp
theorem once_all (own : Int) (k : Nat) (xs ys zs : List D) : taken own k (taken own k (xs ++ ys) ++ zs) = taken own k (xs ++ (ys ++ zs)) := by rw [taken_step, List.append_assoc]
theorem once_swap (own : Int) (k : Nat) (xs ys zs : List D) : taken own k (taken own k (xs ++ zs) ++ ys) = taken own k (xs ++ (ys ++ zs)) := by
  rw [taken_step]
  exact taken_cong own k fun x => by simp [or_comm]

-- Fresh
/-- Is a descriptor kept: is it the node's own, or does one of the first j stand for it? -/
def keptB (own : Int) (T : List D) (d : D) (j : Nat) : Bool := (d.1 == own) || (T.take j).any fun x => x.1 == d.1 && decide (d.2 ≤ x.2)
theorem kept_snoc (own : Int) (T : List D) (d : D) {j : Nat} (hj : j < T.length) : keptB own T d (j + 1) = (keptB own T d j || ((T[j]?.getD (0, 0)).1 == d.1 && decide (d.2 ≤ (T[j]?.getD (0, 0)).2))) := by
  unfold keptB
  rw [List.take_succ_eq_append_getElem hj, List.any_append, List.getElem?_eq_getElem hj]
  simp [Bool.or_assoc]
theorem left_out {own : Int} {k : Nat} {l : List D} {d : D} (hk : 1 ≤ k) (hd : d ∈ l) (h : keptB own (taken own k l) d (taken own k l).length = false) :
    (taken own k l).length = k ∧ ltB d ((taken own k l)[k - 1]?.getD (0, 0)) = false := by
  unfold keptB at h
  rw [List.take_length, Bool.or_eq_false_iff, beq_eq_false_iff_ne, List.any_eq_false] at h
  obtain ⟨h1, h2⟩ := h
  obtain ⟨x, hx, e1, e2⟩ := (best_is (others own l)).has d (others_mem.2 ⟨hd, h1⟩)
  have hS := (best_is (others own l)).strict
  unfold taken at *
  generalize best (others own l) = B at hx hS h2
  have hn : x ∉ B.take k := fun hc => h2 x hc (by simp [e1, e2])
  obtain ⟨m, hm, rfl⟩ := List.mem_iff_getElem.1 hx
  have hmk : k ≤ m := Decidable.byContradiction fun hc => hn (List.mem_iff_getElem.2 ⟨m, by simp; omega, by simp⟩)
  refine ⟨by simp; omega, ?_⟩
  have hlt := (List.pairwise_iff_getElem.1 hS) (k - 1) m (by omega) hm (by omega)
  rw [List.getElem?_eq_getElem (by simp; omega), Option.getD_some, List.getElem_take, Bool.eq_false_iff, Ne, lt_iff]
  rw [lt_iff] at hlt
  omega
end De
end Go.Proofs.Ytpjomdkcckamkaa
