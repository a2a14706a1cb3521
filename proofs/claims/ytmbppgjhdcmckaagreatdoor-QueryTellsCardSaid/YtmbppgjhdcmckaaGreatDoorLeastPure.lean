/- Plain laws of lists that rise, and of how they are joined: no program in sight. -/
namespace Go.Proofs.YtmbppgjhdcmckaaGreatDoor
namespace Least
def risesTo (xs : List Int) : Nat → Bool
  | 0 => true
  | k + 1 => risesTo xs k && (k == 0 || decide (xs[k-1]?.getD 0 < xs[k]?.getD 0))
def rises (xs : List Int) : Bool := risesTo xs xs.length
def checkCode (xs : List Int) : Int := if 8 < xs.length then 4 else if rises xs then 0 else 8
theorem risesTo_iff (xs : List Int) (k : Nat) : risesTo xs k = true ↔ ∀ j, 1 ≤ j → j < k → xs[j-1]?.getD 0 < xs[j]?.getD 0 := by
  induction k with
  | zero => simp [risesTo]
  | succ k ih =>
    simp only [risesTo, Bool.and_eq_true, Bool.or_eq_true, beq_iff_eq, decide_eq_true_eq, ih]
    constructor
    · rintro ⟨h1, h2⟩ j hj hk
      by_cases e : j = k
      · subst e; exact h2.resolve_left (by omega)
      · exact h1 j hj (by omega)
    · intro h
      refine ⟨fun j h1 h2 => h j h1 (by omega), ?_⟩
      by_cases e : k = 0
      · exact .inl e
      · exact .inr (h k (by omega) (by omega))
theorem risesTo_false {xs : List Int} {k n : Nat} (h : risesTo xs k = false) (hn : k ≤ n) : risesTo xs n = false := by
  rw [Bool.eq_false_iff] at h ⊢
  intro h2
  exact h ((risesTo_iff xs k).2 fun j h1 h3 => (risesTo_iff xs n).1 h2 j h1 (by omega))
theorem adj_pairwise : ∀ (xs : List Int), (∀ j, 1 ≤ j → j < xs.length → xs[j-1]?.getD 0 < xs[j]?.getD 0) → xs.Pairwise (· < ·)
  | [], _ => .nil
  | [x], _ => List.pairwise_singleton _ _
  | x :: y :: l, h => by
    have ht : (y :: l).Pairwise (· < ·) := adj_pairwise (y :: l) fun j h1 h2 => by
      have := h (j + 1) (by omega) (by simp at h2 ⊢; omega)
      obtain ⟨j, rfl⟩ : ∃ i, j = i + 1 := ⟨j - 1, by omega⟩
      simpa using this
    have hxy : x < y := by simpa using h 1 (by omega) (by simp)
    refine List.pairwise_cons.2 ⟨fun z hz => ?_, ht⟩
    rcases List.mem_cons.1 hz with rfl | hz
    · exact hxy
    · exact Int.lt_trans hxy (List.rel_of_pairwise_cons ht hz)
theorem rises_iff (xs : List Int) : rises xs = true ↔ xs.Pairwise (· < ·) := by
  unfold rises
  rw [risesTo_iff]
  constructor
  · exact adj_pairwise xs
  · intro h j h1 h2
    have := List.pairwise_iff_getElem.1 h (j - 1) j (by omega) h2 (by omega)
    simpa [List.getElem?_eq_getElem (show j - 1 < xs.length by omega), List.getElem?_eq_getElem h2] using this
theorem checkCode_ok {xs : List Int} (h : checkCode xs = 0) : xs.length ≤ 8 ∧ xs.Pairwise (· < ·) := by
  unfold checkCode at h
  split at h
  · omega
  · split at h
    · exact ⟨by omega, (rises_iff xs).1 (by assumption)⟩
    · omega
theorem checkCode_zero {xs : List Int} (h : xs.length ≤ 8) (h2 : xs.Pairwise (· < ·)) : checkCode xs = 0 := by
  unfold checkCode
  rw [if_neg (by omega), if_pos ((rises_iff xs).2 h2)]
def nextS : List Int → List Int → Option (Int × List Int × List Int)
  | [], [] => none
  | a :: as, [] => some (a, as, [])
  | [], b :: bs => some (b, [], bs)
  | a :: as, b :: bs => if a ≤ b then some (a, as, if b = a then bs else b :: bs) else some (b, a :: as, bs)
def joinN : Nat → List Int → List Int → List Int
  | 0, _, _ => []
  | f + 1, a, b => match nextS a b with
    | none => []
    | some (x, a', b') => x :: joinN f a' b'
def withS : List Int → Int → List Int
  | [], t => [t]
  | x :: xs, t => if t ≤ x then (if t < x then t :: x :: xs else x :: xs) else x :: withS xs t
def joinedS (a b : List Int) : List Int := (b.foldl withS a).take 8
theorem mem_withS (l : List Int) (t y : Int) : y ∈ withS l t ↔ y = t ∨ y ∈ l := by
  induction l with
  | nil => simp [withS]
  | cons x xs ih =>
    unfold withS
    split
    · split
      · simp
      · have : t = x := by omega
        simp [this]
    · simp only [List.mem_cons, ih]
      constructor <;> rintro (h | h | h) <;> simp [h]
theorem sorted_withS (l : List Int) (t : Int) (h : l.Pairwise (· < ·)) : (withS l t).Pairwise (· < ·) := by
  induction l with
  | nil => simp [withS]
  | cons x xs ih =>
    obtain ⟨h1, h2⟩ := List.pairwise_cons.1 h
    unfold withS
    split
    · split
      · refine List.pairwise_cons.2 ⟨fun z hz => ?_, h⟩
        rcases List.mem_cons.1 hz with rfl | hz
        · assumption
        · have := h1 z hz; omega
      · exact h
    · refine List.pairwise_cons.2 ⟨fun z hz => ?_, ih h2⟩
      rcases (mem_withS xs t z).1 hz with rfl | hz
      · omega
      · exact h1 z hz
theorem mem_fold (b : List Int) : ∀ (a : List Int) (y : Int), y ∈ b.foldl withS a ↔ y ∈ a ∨ y ∈ b := by
  induction b with
  | nil => simp
  | cons t b ih =>
    intro a y
    rw [List.foldl_cons, ih, mem_withS, List.mem_cons]
    grind
theorem sorted_fold (b : List Int) : ∀ (a : List Int), a.Pairwise (· < ·) → (b.foldl withS a).Pairwise (· < ·) := by
  induction b with
  | nil => exact fun _ h => h
  | cons t b ih => exact fun a h => ih _ (sorted_withS a t h)
theorem sorted_eq : ∀ (l m : List Int), l.Pairwise (· < ·) → m.Pairwise (· < ·) → (∀ y, y ∈ l ↔ y ∈ m) → l = m
  | [], [], _, _, _ => rfl
  | [], y :: m, _, _, h => absurd ((h y).2 (by simp)) (by simp)
  | x :: l, [], _, _, h => absurd ((h x).1 (by simp)) (by simp)
  | x :: l, y :: m, hl, hm, h => by
    obtain ⟨l1, l2⟩ := List.pairwise_cons.1 hl
    obtain ⟨m1, m2⟩ := List.pairwise_cons.1 hm
    have e : x = y := by
      rcases List.mem_cons.1 ((h x).1 (by simp)) with e | e
      · exact e
      · rcases List.mem_cons.1 ((h y).2 (by simp)) with e' | e'
        · exact e'.symm
        · have := m1 x e; have := l1 y e'; omega
    subst e
    congr 1
    refine sorted_eq l m l2 m2 fun z => ?_
    constructor
    · intro hz
      rcases List.mem_cons.1 ((h z).1 (List.mem_cons_of_mem _ hz)) with rfl | h'
      · exact absurd (l1 z hz) (by omega)
      · exact h'
    · intro hz
      rcases List.mem_cons.1 ((h z).2 (List.mem_cons_of_mem _ hz)) with rfl | h'
      · exact absurd (m1 z hz) (by omega)
      · exact h'
theorem joinN_take : ∀ (n m : Nat) (a b : List Int), n ≤ m → joinN n a b = (joinN m a b).take n
  | 0, _, _, _, _ => by simp [joinN]
  | n + 1, m, a, b, h => by
    obtain ⟨m, rfl⟩ : ∃ k, m = k + 1 := ⟨m - 1, by omega⟩
    unfold joinN
    cases nextS a b with
    | none => simp
    | some p => obtain ⟨x, a', b'⟩ := p; simp [joinN_take n m a' b' (by omega)]
theorem joinN_mem : ∀ (m : Nat) (a b : List Int), a.length + b.length ≤ m → ∀ y, y ∈ joinN m a b ↔ y ∈ a ∨ y ∈ b
  | 0, a, b, h, y => by
    have ha : a = [] := List.eq_nil_of_length_eq_zero (by omega)
    have hb : b = [] := List.eq_nil_of_length_eq_zero (by omega)
    simp [ha, hb, joinN]
  | m + 1, [], [], _, y => by simp [joinN, nextS]
  | m + 1, a :: as, [], h, y => by
    have := joinN_mem m as [] (by simp at h ⊢; omega) y
    simp [joinN, nextS, this]
  | m + 1, [], b :: bs, h, y => by
    have := joinN_mem m [] bs (by simp at h ⊢; omega) y
    simp [joinN, nextS, this]
  | m + 1, a :: as, b :: bs, h, y => by
    simp only [List.length_cons] at h
    unfold joinN nextS
    by_cases h1 : a ≤ b
    · simp only [if_pos h1]
      by_cases h2 : b = a
      · have := joinN_mem m as bs (by omega) y
        simp only [if_pos h2, List.mem_cons, this]
        subst h2
        grind
      · have := joinN_mem m as (b :: bs) (by simp; omega) y
        simp only [if_neg h2, List.mem_cons, this]
        grind
    · have := joinN_mem m (a :: as) bs (by simp; omega) y
      simp only [if_neg h1, List.mem_cons, this]
      grind
theorem joinN_sorted : ∀ (m : Nat) (a b : List Int), a.length + b.length ≤ m → a.Pairwise (· < ·) → b.Pairwise (· < ·) → (joinN m a b).Pairwise (· < ·)
  | 0, _, _, _, _, _ => by simp [joinN]
  | m + 1, [], [], _, _, _ => by simp [joinN, nextS]
  | m + 1, a :: as, [], h, ha, hb => by
    obtain ⟨a1, a2⟩ := List.pairwise_cons.1 ha
    have hl : as.length + ([] : List Int).length ≤ m := by simp at h ⊢; omega
    simp only [joinN, nextS]
    refine List.pairwise_cons.2 ⟨fun z hz => ?_, joinN_sorted m as [] hl a2 hb⟩
    rcases (joinN_mem m as [] hl z).1 hz with h' | h'
    · exact a1 z h'
    · simp at h'
  | m + 1, [], b :: bs, h, ha, hb => by
    obtain ⟨b1, b2⟩ := List.pairwise_cons.1 hb
    have hl : ([] : List Int).length + bs.length ≤ m := by simp at h ⊢; omega
    simp only [joinN, nextS]
    refine List.pairwise_cons.2 ⟨fun z hz => ?_, joinN_sorted m [] bs hl ha b2⟩
    rcases (joinN_mem m [] bs hl z).1 hz with h' | h'
    · simp at h'
    · exact b1 z h'
  | m + 1, a :: as, b :: bs, h, ha, hb => by
    obtain ⟨a1, a2⟩ := List.pairwise_cons.1 ha
    obtain ⟨b1, b2⟩ := List.pairwise_cons.1 hb
    simp only [List.length_cons] at h
    unfold joinN nextS
    by_cases h1 : a ≤ b
    · simp only [if_pos h1]
      by_cases h2 : b = a
      · simp only [if_pos h2]
        have hl : as.length + bs.length ≤ m := by omega
        refine List.pairwise_cons.2 ⟨fun z hz => ?_, joinN_sorted m as bs hl a2 b2⟩
        rcases (joinN_mem m as bs hl z).1 hz with h' | h'
        · exact a1 z h'
        · have := b1 z h'; omega
      · simp only [if_neg h2]
        have hl : as.length + (b :: bs).length ≤ m := by simp; omega
        refine List.pairwise_cons.2 ⟨fun z hz => ?_, joinN_sorted m as (b :: bs) hl a2 hb⟩
        rcases (joinN_mem m as (b :: bs) hl z).1 hz with h' | h'
        · exact a1 z h'
        · rcases List.mem_cons.1 h' with rfl | h'
          · omega
          · have := b1 z h'; omega
    · simp only [if_neg h1]
      have hl : (a :: as).length + bs.length ≤ m := by simp; omega
      refine List.pairwise_cons.2 ⟨fun z hz => ?_, joinN_sorted m (a :: as) bs hl ha b2⟩
      rcases (joinN_mem m (a :: as) bs hl z).1 hz with h' | h'
      · rcases List.mem_cons.1 h' with rfl | h'
        · omega
        · have := a1 z h'; omega
      · exact b1 z h'
/-- What the program joins is what the document joins. -/
theorem join_eq (a b : List Int) (ha : a.Pairwise (· < ·)) (hb : b.Pairwise (· < ·)) : joinN 8 a b = joinedS a b := by
  rw [joinN_take 8 (8 + (a.length + b.length)) a b (by omega), joinedS]
  congr 1
  refine sorted_eq _ _ (joinN_sorted _ a b (by omega) ha hb) (sorted_fold b a ha) fun y => ?_
  rw [joinN_mem _ a b (by omega), mem_fold]
def guessS (xs : List Int) : Int := if xs.length < 8 then (xs.length : Int) else (30064771072 : Int) / (xs[(7 : Nat)]?.getD 0)
theorem seventh {xs : List Int} (h : checkCode xs = 0) (h8 : ¬ xs.length < 8) (h0 : ∀ x ∈ xs, 0 ≤ x) : 7 ≤ xs[(7 : Nat)]?.getD 0 := by
  obtain ⟨h1, h2⟩ := checkCode_ok h
  have hp := List.pairwise_iff_getElem.1 h2
  have e : xs.length = 8 := by omega
  have g : ∀ k : Nat, (hk : k < xs.length) → (k : Int) ≤ xs[k]'hk := by
    intro k
    induction k with
    | zero => intro hk; exact h0 _ (List.getElem_mem hk)
    | succ k ih => intro hk; have := ih (by omega); have := hp k (k + 1) (by omega) hk (by omega); push_cast; omega
  have := g 7 (by omega)
  rw [List.getElem?_eq_getElem (show 7 < xs.length by omega)]
  simpa using this
/-! the steps of the reference's With -/
def wst (xs : List Int) (t : Int) (k : Nat) : Bool := (xs.take k).any fun x => decide (t ≤ x)
def wout (xs : List Int) (t : Int) (k : Nat) : List Int := if wst xs t k then withS (xs.take k) t else xs.take k
theorem withS_snoc_hit (l : List Int) (t x : Int) (h : (l.any fun x => decide (t ≤ x)) = true) : withS (l ++ [x]) t = withS l t ++ [x] := by
  induction l with
  | nil => simp at h
  | cons y l ih =>
    simp only [List.cons_append, withS]
    split
    · split <;> rfl
    · rename_i hy
      have : (l.any fun x => decide (t ≤ x)) = true := by simpa [hy] using h
      rw [ih this]; rfl
theorem withS_snoc_miss (l : List Int) (t x : Int) (h : (l.any fun x => decide (t ≤ x)) = false) : withS (l ++ [x]) t = l ++ (if t ≤ x then (if t < x then [t, x] else [x]) else [x, t]) := by
  induction l with
  | nil => simp [withS]
  | cons y l ih =>
    have hy : ¬ t ≤ y ∧ (l.any fun x => decide (t ≤ x)) = false := by simpa using h
    simp only [List.cons_append, withS, if_neg hy.1, ih hy.2]
theorem withS_miss (l : List Int) (t : Int) (h : (l.any fun x => decide (t ≤ x)) = false) : withS l t = l ++ [t] := by
  induction l with
  | nil => rfl
  | cons y l ih =>
    have hy : ¬ t ≤ y ∧ (l.any fun x => decide (t ≤ x)) = false := by simpa using h
    simp only [withS, if_neg hy.1, ih hy.2, List.cons_append]
theorem take_snoc (xs : List Int) (k : Nat) (hk : k < xs.length) : xs.take (k + 1) = xs.take k ++ [xs[k]?.getD 0] := by
  rw [List.take_succ_eq_append_getElem hk, List.getElem?_eq_getElem hk]; rfl
theorem wst_succ (xs : List Int) (t : Int) (k : Nat) (hk : k < xs.length) : wst xs t (k + 1) = (wst xs t k || decide (t ≤ xs[k]?.getD 0)) := by
  unfold wst; rw [take_snoc xs k hk]; simp
theorem wout_len (xs : List Int) (t : Int) (k : Nat) (hk : k ≤ xs.length) : (wout xs t k).length ≤ k + 1 := by
  have hw : ∀ l : List Int, (withS l t).length ≤ l.length + 1 := by
    intro l
    induction l with
    | nil => simp [withS]
    | cons y l ih => simp only [withS]; split <;> (try split) <;> simp <;> omega
  unfold wout
  split
  · have := hw (xs.take k); simp at this; omega
  · simp; omega
theorem withS_len (l : List Int) (t : Int) : (withS l t).length ≤ l.length + 1 := by
  induction l with
  | nil => simp [withS]
  | cons y l ih => simp only [withS]; split <;> (try split) <;> simp <;> omega
/-- already put -/
theorem wout_put (xs : List Int) (t : Int) (k : Nat) (hk : k < xs.length) (h : wst xs t k = true) : wst xs t (k + 1) = true ∧ wout xs t (k + 1) = wout xs t k ++ [xs[k]?.getD 0] := by
  have h1 : wst xs t (k + 1) = true := by rw [wst_succ xs t k hk, h]; rfl
  refine ⟨h1, ?_⟩
  unfold wout
  rw [h1, h, if_pos rfl, if_pos rfl, take_snoc xs k hk, withS_snoc_hit _ _ _ h]
/-- not yet, and not now -/
theorem wout_on (xs : List Int) (t : Int) (k : Nat) (hk : k < xs.length) (h : wst xs t k = false) (hx : ¬ t ≤ xs[k]?.getD 0) : wst xs t (k + 1) = false ∧ wout xs t (k + 1) = wout xs t k ++ [xs[k]?.getD 0] := by
  have h1 : wst xs t (k + 1) = false := by rw [wst_succ xs t k hk, h]; simpa using hx
  refine ⟨h1, ?_⟩
  unfold wout
  rw [h1, h]
  simp only [Bool.false_eq_true, if_false]
  exact take_snoc xs k hk
/-- now: the same -/
theorem wout_same (xs : List Int) (t : Int) (k : Nat) (hk : k < xs.length) (h : wst xs t k = false) (hx : t ≤ xs[k]?.getD 0) (hx2 : ¬ t < xs[k]?.getD 0) : wst xs t (k + 1) = true ∧ wout xs t (k + 1) = wout xs t k ++ [xs[k]?.getD 0] := by
  have h1 : wst xs t (k + 1) = true := by rw [wst_succ xs t k hk, h]; simpa using hx
  refine ⟨h1, ?_⟩
  unfold wout
  rw [h1, h]
  simp only [Bool.false_eq_true, if_false, if_true]
  rw [take_snoc xs k hk, withS_snoc_miss _ _ _ h, if_pos hx, if_neg hx2]
/-- now: ahead of it -/
theorem wout_new (xs : List Int) (t : Int) (k : Nat) (hk : k < xs.length) (h : wst xs t k = false) (hx2 : t < xs[k]?.getD 0) : wst xs t (k + 1) = true ∧ wout xs t (k + 1) = (wout xs t k ++ [t]) ++ [xs[k]?.getD 0] := by
  have h1 : wst xs t (k + 1) = true := by rw [wst_succ xs t k hk, h]; simp; omega
  refine ⟨h1, ?_⟩
  unfold wout
  rw [h1, h]
  simp only [Bool.false_eq_true, if_false, if_true]
  rw [take_snoc xs k hk, withS_snoc_miss _ _ _ h, if_pos (by omega), if_pos hx2]
  simp
theorem wout_end (xs : List Int) (t : Int) (h : wst xs t xs.length = true) : wout xs t xs.length = withS xs t := by
  unfold wout; rw [h, if_pos rfl, List.take_length]
theorem wout_end' (xs : List Int) (t : Int) (h : wst xs t xs.length = false) : wout xs t xs.length ++ [t] = withS xs t := by
  unfold wout
  rw [h]
  simp only [Bool.false_eq_true, if_false, List.take_length]
  unfold wst at h
  rw [List.take_length] at h
  exact (withS_miss xs t h).symm
/-! the steps of the reference's Joined -/
def jst (a b : List Int) (i : Nat) : List Int := (b.take i).foldl withS a
theorem jst_zero (a b : List Int) : jst a b 0 = a := by simp [jst]
theorem jst_succ (a b : List Int) (i : Nat) (h : i < b.length) : jst a b (i + 1) = withS (jst a b i) (b[i]?.getD 0) := by
  unfold jst; rw [take_snoc b i h, List.foldl_append]; rfl
theorem jst_len (a b : List Int) : ∀ i, i ≤ b.length → (jst a b i).length ≤ a.length + i
  | 0, _ => by simp [jst_zero]
  | i + 1, h => by rw [jst_succ a b i (by omega)]; have := withS_len (jst a b i) (b[i]?.getD 0); have := jst_len a b i (by omega); omega
theorem jst_end (a b : List Int) : (jst a b b.length).take 8 = joinedS a b := by simp [jst, joinedS]
theorem jst_mem (a b : List Int) (i : Nat) (y : Int) (h : y ∈ jst a b i) : y ∈ a ∨ y ∈ b := by
  rcases (mem_fold _ a y).1 h with h | h
  · exact .inl h
  · exact .inr (List.mem_of_mem_take h)
end Least
end Go.Proofs.YtmbppgjhdcmckaaGreatDoor
