/- Numbers as lists of digits, the lowest first: no program in sight. -/
namespace Go.Proofs.YtlbkepiflhchdaaDoor

/-- The number of some digits. -/
def num (B : Nat) : List Int → Nat
  | [] => 0
  | x :: xs => x.toNat + B * num B xs
/-- Digits below B. -/
def Dig (B : Nat) (l : List Int) : Prop := ∀ x ∈ l, 0 ≤ x ∧ x < (B : Int)
/-- No 0 at the end. -/
def Cutd (l : List Int) : Prop := ∀ h : l ≠ [], l.getLast h ≠ 0
/-- A number's digits. -/
def canonF (B : Nat) : Nat → Nat → List Int
  | 0, _ => []
  | f + 1, n => if n = 0 then [] else ((n % B : Nat) : Int) :: canonF B f (n / B)
def canon (B n : Nat) : List Int := canonF B n n

theorem num_append (B : Nat) : ∀ (l m : List Int), num B (l ++ m) = num B l + B ^ l.length * num B m
  | [], m => by simp [num]
  | x :: l, m => by
    simp only [List.cons_append, num, num_append B l m, List.length_cons, Nat.pow_succ]
    rw [Nat.mul_add, ← Nat.mul_assoc, Nat.mul_comm B (B ^ l.length)]
    omega
theorem num_lt (B : Nat) (hB : 0 < B) : ∀ (l : List Int), Dig B l → num B l < B ^ l.length
  | [], _ => by simp [num]
  | x :: l, h => by
    have ih := num_lt B hB l fun y hy => h y (List.mem_cons_of_mem _ hy)
    have hx := h x (List.mem_cons_self ..)
    simp only [num, List.length_cons, Nat.pow_succ]
    have h1 : B * num B l + B ≤ B * B ^ l.length := by
      rw [← Nat.mul_succ]
      exact Nat.mul_le_mul_left _ ih
    rw [Nat.mul_comm (B ^ l.length) B]
    omega
theorem num_zeros (B k : Nat) : num B (List.replicate k 0) = 0 := by
  induction k with
  | zero => rfl
  | succ k ih => simp [List.replicate_succ, num, ih]
theorem Dig.append {B : Nat} {l m : List Int} (h : Dig B l) (k : Dig B m) : Dig B (l ++ m) := fun x hx => by
  rcases List.mem_append.1 hx with h' | h'
  · exact h x h'
  · exact k x h'
theorem Dig.tail {B : Nat} {x : Int} {l : List Int} (h : Dig B (x :: l)) : Dig B l := fun y hy => h y (List.mem_cons_of_mem _ hy)
theorem Cutd.tail {x : Int} {l : List Int} (h : Cutd (x :: l)) : Cutd l := fun hne => by
  have := h (by simp)
  rwa [List.getLast_cons hne] at this
theorem num_pos {B : Nat} : ∀ {l : List Int}, Dig B l → Cutd l → l ≠ [] → 0 < num B l
  | [x], hd, hc, _ => by
    have h1 := hc (by simp)
    have h2 := hd x (by simp)
    simp only [num]
    simp only [List.getLast_singleton] at h1
    omega
  | x :: y :: l, hd, hc, _ => by
    have ih := num_pos hd.tail hc.tail (by simp)
    have hB : 0 < B := by
      have := hd x (by simp)
      omega
    simp only [num] at ih ⊢
    have := Nat.mul_pos hB ih
    omega
/-- Two lists of digits without 0 at the end are one, if their numbers are. -/
theorem num_inj {B : Nat} : ∀ {l m : List Int}, Dig B l → Dig B m → Cutd l → Cutd m → num B l = num B m → l = m
  | [], [], _, _, _, _, _ => rfl
  | [], y :: m, _, hm, _, cm, h => by have := num_pos hm cm (by simp); simp only [num] at h this; omega
  | x :: l, [], hl, _, cl, _, h => by have := num_pos hl cl (by simp); simp only [num] at h this; omega
  | x :: l, y :: m, hl, hm, cl, cm, h => by
    have hx := hl x (by simp)
    have hy := hm y (by simp)
    simp only [num] at h
    have e1 : x.toNat = y.toNat := by
      have h1 : (x.toNat + B * num B l) % B = x.toNat := by rw [Nat.add_mul_mod_self_left, Nat.mod_eq_of_lt (by omega)]
      have h2 : (y.toNat + B * num B m) % B = y.toNat := by rw [Nat.add_mul_mod_self_left, Nat.mod_eq_of_lt (by omega)]
      rw [← h1, ← h2, h]
    have e2 : num B l = num B m := by
      have : B * num B l = B * num B m := by omega
      exact Nat.eq_of_mul_eq_mul_left (by omega) this
    rw [num_inj hl.tail hm.tail cl.tail cm.tail e2]
    congr 1
    omega
theorem canonF_spec (B : Nat) (hB : 2 ≤ B) : ∀ (f n : Nat), n ≤ f → Dig B (canonF B f n) ∧ Cutd (canonF B f n) ∧ num B (canonF B f n) = n
  | 0, n, h => by
    obtain rfl : n = 0 := by omega
    exact ⟨fun x hx => by simp [canonF] at hx, fun h => absurd rfl h, rfl⟩
  | f + 1, n, h => by
    by_cases h0 : n = 0
    · subst h0
      exact ⟨fun x hx => by simp [canonF] at hx, fun h => absurd (by simp [canonF]) h, by simp [canonF, num]⟩
    · have hlt : n / B < n := Nat.div_lt_self (by omega) (by omega)
      obtain ⟨i1, i2, i3⟩ := canonF_spec B hB f (n / B) (by omega)
      have e : canonF B (f + 1) n = ((n % B : Nat) : Int) :: canonF B f (n / B) := by simp [canonF, h0]
      rw [e]
      have hm := Nat.mod_lt n (show 0 < B by omega)
      refine ⟨fun x hx => ?_, fun hne => ?_, ?_⟩
      · rcases List.mem_cons.1 hx with rfl | hx
        · omega
        · exact i1 x hx
      · by_cases hn : canonF B f (n / B) = []
        · have h3 : n / B = 0 := by rw [← i3, hn]; rfl
          have h4 := Nat.div_add_mod n B
          rw [h3] at h4
          simp only [hn, List.getLast_singleton]
          omega
        · rw [List.getLast_cons hn]
          exact i2 hn
      · simp only [num, i3, Int.toNat_natCast]
        exact Nat.mod_add_div n B
theorem canon_spec (B n : Nat) (hB : 2 ≤ B) : Dig B (canon B n) ∧ Cutd (canon B n) ∧ num B (canon B n) = n := canonF_spec B hB n n (Nat.le_refl _)
theorem canon_of {B n : Nat} {l : List Int} (hB : 2 ≤ B) (hd : Dig B l) (hc : Cutd l) (hn : num B l = n) : l = canon B n := by
  obtain ⟨h1, h2, h3⟩ := canon_spec B n hB
  exact num_inj hd h1 hc h2 (hn.trans h3.symm)
theorem canon_zero (B : Nat) : canon B 0 = [] := rfl
theorem canon_nil {B n : Nat} (hB : 2 ≤ B) (h : canon B n = []) : n = 0 := by
  obtain ⟨_, _, h3⟩ := canon_spec B n hB
  rw [h] at h3
  exact h3.symm
/-- A number has as many digits as its size asks. -/
theorem canon_len {B n k : Nat} (hB : 2 ≤ B) (h : n < B ^ k) : (canon B n).length ≤ k := by
  obtain ⟨h1, h2, h3⟩ := canon_spec B n hB
  rcases Nat.lt_or_ge k (canon B n).length with hk | hk
  · exfalso
    have hne : canon B n ≠ [] := fun e => by rw [e] at hk; simp at hk
    have hl := h2 hne
    have hsplit : canon B n = (canon B n).dropLast ++ [(canon B n).getLast hne] := (List.dropLast_concat_getLast hne).symm
    have hn : num B (canon B n) = num B (canon B n).dropLast + B ^ (canon B n).dropLast.length * ((canon B n).getLast hne).toNat := by
      conv => lhs; rw [hsplit]
      rw [num_append]
      simp [num]
    have hd := h1 _ (List.getLast_mem hne)
    have h4 : B ^ k ≤ B ^ (canon B n).dropLast.length := Nat.pow_le_pow_right (by omega) (by simp; omega)
    have h5 : B ^ (canon B n).dropLast.length * 1 ≤ B ^ (canon B n).dropLast.length * ((canon B n).getLast hne).toNat := Nat.mul_le_mul_left _ (by omega)
    omega
  · exact hk
/-- Digits without the 0 at their end. -/
def cutL (l : List Int) : List Int := (l.reverse.dropWhile (· == 0)).reverse
end Go.Proofs.YtlbkepiflhchdaaDoor
