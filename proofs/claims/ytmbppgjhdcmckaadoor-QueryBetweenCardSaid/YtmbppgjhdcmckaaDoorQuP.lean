/- The plain laws of headcountlaw25: counts, sums, and what lies between. No program in sight. -/
import Derived.Test.YtmbppgjhdcmckaaDoorQuL2
namespace Go.Proofs.YtmbppgjhdcmckaaDoor
open Go.RowKit
namespace Ma
open Dp Dy
theorem cA (n m D : Nat) (h : (2 * n + 1) * D < 2 * n * (n + 1) * m) : 2 * D < (2 * n + 1) * m := by
  rcases Nat.lt_or_ge (2 * D) ((2 * n + 1) * m) with h' | h'
  · exact h'
  · have h2 := Nat.mul_le_mul_left (2 * n + 1) h'
    have e1 : (2 * n + 1) * ((2 * n + 1) * m) = 2 * (2 * n * (n + 1) * m) + m := by grind
    have e2 : (2 * n + 1) * (2 * D) = 2 * ((2 * n + 1) * D) := by grind
    omega
theorem cB (n m D : Nat) (hn : 1 ≤ n) (h : 2 * n * (n + 1) * m < (2 * n + 3) * D) : (2 * n - 1) * m ≤ 2 * D := by
  obtain ⟨k, rfl⟩ : ∃ k, n = k + 1 := ⟨n - 1, by omega⟩
  rcases Nat.lt_or_ge (2 * D) ((2 * (k + 1) - 1) * m) with h' | h'
  · have h2 := Nat.mul_le_mul_left (2 * (k + 1) + 3) (Nat.le_of_lt h')
    have e0 : 2 * (k + 1) - 1 = 2 * k + 1 := by omega
    rw [e0] at h2
    have e1 : (2 * (k + 1) + 3) * ((2 * k + 1) * m) + 3 * m = 2 * (2 * (k + 1) * (k + 1 + 1) * m) := by grind
    have e2 : (2 * (k + 1) + 3) * (2 * D) = 2 * ((2 * (k + 1) + 3) * D) := by grind
    have : 0 < m := by
      rcases Nat.eq_zero_or_pos m with rfl | h0
      · simp at h'
      · exact h0
    omega
  · exact h'
theorem cC (n m D : Nat) (hn : 1 ≤ n) (h1 : (2 * n + 1) * D < 2 * n * (n + 1) * m) (h2 : 2 * n * (n + 1) * m < (2 * n + 3) * D) (hm : 0 < m) :
    2 * n - 1 ≤ 2 * D / m ∧ 2 * D / m < 2 * n + 1 :=
  ⟨(Nat.le_div_iff_mul_le hm).2 (cB n m D hn h2), (Nat.div_lt_iff_lt_mul hm).2 (cA n m D h1)⟩
/-- What so many times is, in parts. -/
theorem times_spec (n : Nat) : ∀ (s p : Dn) (o : Bool) (r : Dn), timesD n s p o = (r, true) → o = true ∧ (s.May → r.May) ∧ ∀ K, s.e ≤ K → p.e ≤ K → r.e ≤ K ∧ vl r K = vl s K + (n : Int) * vl p K := by
  induction n using Nat.strongRecOn with
  | ind n ih =>
    intro s p o r h
    by_cases h0 : n = 0
    · subst h0
      rw [timesD_zero] at h
      injection h with h1 h2
      subst h1 h2
      exact ⟨rfl, id, fun K k1 _ => ⟨k1, by simp⟩⟩
    have hp : 0 < n := by omega
    by_cases hodd : n % 2 = 1
    · by_cases hq : n / 2 = 0
      · have h' := timesD_odd_end hp hodd hq h
        rw [timesD_zero] at h'
        injection h' with h1 h2
        rw [Bool.and_eq_true, decide_eq_true_eq] at h2
        obtain ⟨a1, a2⟩ := add_vl h2.2
        subst h1
        refine ⟨h2.1, fun _ => add_may .., fun K k1 k2 => ⟨by omega, ?_⟩⟩
        rw [a2 K k1 k2]
        have : n = 1 := by omega
        subst this
        simp
      · have h' := timesD_odd_more hp hodd rfl (by omega) h
        obtain ⟨b1, b2, b3⟩ := ih (n / 2) (by omega) _ _ _ _ h'
        simp only [Bool.and_eq_true, decide_eq_true_eq] at b1
        obtain ⟨⟨c1, c2⟩, c3⟩ := b1
        obtain ⟨a1, a2⟩ := add_vl c2
        obtain ⟨d1, d2⟩ := add_vl c3
        refine ⟨c1, fun _ => b2 (add_may ..), fun K k1 k2 => ?_⟩
        obtain ⟨e1, e2⟩ := b3 K (by omega) (by omega)
        refine ⟨e1, ?_⟩
        rw [e2, a2 K k1 k2, d2 K k2 k2]
        have : n = 2 * (n / 2) + 1 := by omega
        generalize n / 2 = q at *
        subst this
        push_cast
        grind
    · have h' := timesD_even_more hp hodd rfl (by omega) h
      obtain ⟨b1, b2, b3⟩ := ih (n / 2) (by omega) _ _ _ _ h'
      simp only [Bool.and_eq_true, decide_eq_true_eq] at b1
      obtain ⟨c1, c3⟩ := b1
      obtain ⟨d1, d2⟩ := add_vl c3
      refine ⟨c1, b2, fun K k1 k2 => ?_⟩
      obtain ⟨e1, e2⟩ := b3 K (by omega) (by omega)
      refine ⟨e1, ?_⟩
      rw [e2, d2 K k2 k2]
      have : n = 2 * (n / 2) := by omega
      generalize n / 2 = q at *
      subst this
      push_cast
      grind
theorem sg_abs' (s : Bool) (n : Nat) : (sg s n).natAbs = n := by
  unfold sg
  cases s <;> simp
theorem formed_small (s : Bool) {m k : Nat} (hm : m < capD) (hk : k ≤ 1024) : (formed s m k).2 = 0 := by
  unfold formed
  by_cases h0 : m = 0
  · rw [if_pos h0]
  · obtain ⟨j, j1, j2, j3, _⟩ := strip_spec k m
    have hp2 : 0 < 2 ^ j := Nat.pow_pos (by decide)
    have h3 : (strip k m).1 ≤ m := by
      have := Nat.le_mul_of_pos_right (strip k m).1 hp2
      omega
    rw [if_neg h0, if_pos ⟨by omega, by omega⟩]
/-- A sum that is small enough may be. -/
theorem small_add {a b : Dn} {K : Nat} (hK : K ≤ 1024) (h1 : a.e ≤ K) (h2 : b.e ≤ K) (hv : (vl a K).natAbs + (vl b K).natAbs < capD) : (addD a b).2 = 0 := by
  have hs := sum_vl a b h1 h2
  unfold addD
  generalize (plusS a.neg (a.m * 2 ^ (max a.e b.e - a.e)) b.neg (b.m * 2 ^ (max a.e b.e - b.e))).1 = s at *
  generalize (plusS a.neg (a.m * 2 ^ (max a.e b.e - a.e)) b.neg (b.m * 2 ^ (max a.e b.e - b.e))).2 = N at *
  replace hv : (vl a K + vl b K).natAbs < capD := by omega
  rw [← hs, sg_abs'] at hv
  have hp : 0 < 2 ^ (K - max a.e b.e) := Nat.pow_pos (by decide)
  have hN : N < capD := Nat.lt_of_le_of_lt (Nat.le_mul_of_pos_right N hp) hv
  exact formed_small _ hN (by omega)
/-- So many times what is small enough may be. -/
theorem times_small {K : Nat} (hK : K ≤ 1024) (n : Nat) : ∀ (s p : Dn), s.e ≤ K → p.e ≤ K → (vl s K).natAbs + 2 * n * (vl p K).natAbs < capD → ∃ r, timesD n s p true = (r, true) := by
  induction n using Nat.strongRecOn with
  | ind n ih =>
    intro s p hs hp hb
    by_cases h0 : n = 0
    · subst h0
      exact ⟨s, timesD_zero ..⟩
    have hn : 0 < n := by omega
    by_cases hodd : n % 2 = 1
    · have hn1 : 2 * 1 * (vl p K).natAbs ≤ 2 * n * (vl p K).natAbs := Nat.mul_le_mul_right _ (by omega)
      have ha : (addD s p).2 = 0 := small_add hK hs hp (by omega)
      obtain ⟨a1, a2⟩ := add_vl ha
      by_cases hq : n / 2 = 0
      · refine ⟨(addD s p).1, ?_⟩
        rw [timesD, dif_neg h0]
        simp only [if_pos hodd, if_pos hq, ha]
        rfl
      · have hn2 : 2 * (2 * (n / 2) + 1) * (vl p K).natAbs = 2 * n * (vl p K).natAbs := by rw [show 2 * (n / 2) + 1 = n by omega]
        have e1 : 2 * (2 * (n / 2) + 1) * (vl p K).natAbs = 2 * (n / 2) * (2 * (vl p K).natAbs) + 2 * (vl p K).natAbs := by grind
        have e2 : 2 * 1 * (2 * (vl p K).natAbs) ≤ 2 * (n / 2) * (2 * (vl p K).natAbs) := Nat.mul_le_mul_right _ (by omega)
        have hd : (addD p p).2 = 0 := small_add hK hp hp (by omega)
        obtain ⟨d1, d2⟩ := add_vl hd
        have f1 : (vl (addD p p).1 K).natAbs = 2 * (vl p K).natAbs := by rw [d2 K hp hp]; omega
        have f2 : (vl (addD s p).1 K).natAbs ≤ (vl s K).natAbs + (vl p K).natAbs := by rw [a2 K hs hp]; omega
        obtain ⟨r, hr⟩ := ih (n / 2) (by omega) (addD s p).1 (addD p p).1 (by omega) (by omega) (by rw [f1]; omega)
        refine ⟨r, ?_⟩
        rw [timesD, dif_neg h0]
        simp only [if_pos hodd, if_neg hq, ha, hd]
        exact hr
    · have hq : ¬ n / 2 = 0 := by omega
      have hn2 : 2 * (2 * (n / 2)) * (vl p K).natAbs = 2 * n * (vl p K).natAbs := by rw [show 2 * (n / 2) = n by omega]
      have e1 : 2 * (2 * (n / 2)) * (vl p K).natAbs = 2 * (n / 2) * (2 * (vl p K).natAbs) := by grind
      have e2 : 2 * 1 * (2 * (vl p K).natAbs) ≤ 2 * (n / 2) * (2 * (vl p K).natAbs) := Nat.mul_le_mul_right _ (by omega)
      have hd : (addD p p).2 = 0 := small_add hK hp hp (by omega)
      obtain ⟨d1, d2⟩ := add_vl hd
      have f1 : (vl (addD p p).1 K).natAbs = 2 * (vl p K).natAbs := by rw [d2 K hp hp]; omega
      obtain ⟨r, hr⟩ := ih (n / 2) (by omega) s (addD p p).1 hs (by omega) (by rw [f1]; omega)
      refine ⟨r, ?_⟩
      rw [timesD, dif_neg h0]
      simp only [if_neg hodd, if_neg hq, hd]
      exact hr
theorem vl_wh (z : Int) (K : Nat) : vl (whole z) K = z * 2 ^ K := by
  have := vl_more (whole z) (k := 0) (l := K) (Nat.le_refl _) (Nat.zero_le _)
  rw [vl_whole, Nat.sub_zero] at this
  exact this
/-- THE STAGE'S THEOREM, at numbers: an average near 1 / n tells n. -/
theorem count_law {c x : Dn} {n : Nat} (n1 : 1 ≤ n) (n2 : n ≤ 1000) (hx : timesD (2 * n * (n + 1)) Dn.zero c true = (x, true))
    (hl : cmpD (whole (2 * n + 1 : Nat)) x < 0) (hh : cmpD x (whole (2 * n + 3 : Nat)) < 0) : c.neg = false ∧ c.m ≠ 0 ∧ nearD ⟨false, 1, 0⟩ c = (whole n, 0) := by
  obtain ⟨_, _, hs⟩ := times_spec _ _ _ _ _ hx
  obtain ⟨x1, x2⟩ := hs c.e (Nat.zero_le _) (Nat.le_refl _)
  rw [vl_zero, Int.zero_add] at x2
  have hc : vl c c.e = sg c.neg c.m := by unfold vl; simp
  rw [hc] at x2
  have k1 : ((2 * n + 1 : Nat) : Int) * 2 ^ c.e < vl x c.e := by
    rcases cmp_spec (whole (2 * n + 1 : Nat)) x (K := c.e) (Nat.zero_le _) x1 with ⟨_, h⟩ | ⟨h, _⟩ | ⟨h, _⟩
    · rw [vl_wh] at h; exact h
    · omega
    · omega
  have k2 : vl x c.e < ((2 * n + 3 : Nat) : Int) * 2 ^ c.e := by
    rcases cmp_spec x (whole (2 * n + 3 : Nat)) (K := c.e) x1 (Nat.zero_le _) with ⟨_, h⟩ | ⟨h, _⟩ | ⟨h, _⟩
    · rw [vl_wh] at h; exact h
    · omega
    · omega
  rw [x2] at k1 k2
  have hD : (0 : Int) < 2 ^ c.e := Int.pow_pos (by omega)
  have hpos : (0 : Int) < ((2 * n * (n + 1) : Nat) : Int) * sg c.neg c.m := Int.lt_trans (Int.mul_pos (by omega) hD) k1
  have hneg : c.neg = false := by
    cases hc' : c.neg
    · rfl
    · rw [hc'] at hpos
      have : sg true c.m ≤ 0 := by unfold sg; simp
      have := Int.mul_nonpos_of_nonneg_of_nonpos (Int.natCast_nonneg (2 * n * (n + 1))) this
      omega
  have hsg : sg c.neg c.m = (c.m : Int) := by rw [hneg]; rfl
  rw [hsg] at k1 k2 hpos
  have hm : 0 < c.m := by
    rcases Nat.eq_zero_or_pos c.m with h | h
    · rw [h] at hpos
      simp at hpos
    · exact h
  refine ⟨hneg, by omega, ?_⟩
  have j1 : (2 * n + 1) * 2 ^ c.e < 2 * n * (n + 1) * c.m := by
    have : (((2 * n + 1) * 2 ^ c.e : Nat) : Int) < ((2 * n * (n + 1) * c.m : Nat) : Int) := by
      rw [Int.natCast_mul, Int.natCast_mul (2 * n * (n + 1)), Int.natCast_pow]
      exact k1
    omega
  have j2 : 2 * n * (n + 1) * c.m < (2 * n + 3) * 2 ^ c.e := by
    have : ((2 * n * (n + 1) * c.m : Nat) : Int) < (((2 * n + 3) * 2 ^ c.e : Nat) : Int) := by
      rw [Int.natCast_mul (2 * n + 3), Int.natCast_mul (2 * n * (n + 1)), Int.natCast_pow]
      exact k2
    omega
  obtain ⟨q1, q2⟩ := cC n c.m (2 ^ c.e) n1 j1 j2 hm
  have hq : (quoN ⟨false, 1, 0⟩ c 1).1 = 2 * 2 ^ c.e / c.m := by
    unfold quoN
    show 1 * 2 ^ (c.e + 1) / (c.m * 2 ^ 0) = _
    rw [Nat.pow_zero, Nat.mul_one, Nat.one_mul, Nat.pow_succ, Nat.mul_comm]
  unfold nearD
  rw [hq]
  generalize 2 * 2 ^ c.e / c.m = q at *
  refine whole_of (by omega) (by omega) ?_
  show ((q / 2 + if q % 2 = 1 ∧ ((false = false) ∨ _) then 1 else 0 : Nat) : Int) = (n : Int)
  split
  · omega
  · rename_i h
    have : ¬ q % 2 = 1 := fun h' => h ⟨h', .inl rfl⟩
    omega
end Ma
end Go.Proofs.YtmbppgjhdcmckaaDoor
