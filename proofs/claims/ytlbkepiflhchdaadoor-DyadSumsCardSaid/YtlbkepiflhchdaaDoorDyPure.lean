/- The numbers of dyads, and what is reckoned with them: no program in sight. -/
import Derived.Test.YtlbkepiflhchdaaDoorNum
namespace Go.Proofs.YtlbkepiflhchdaaDoor
namespace Dp

/-- The whole number of a sign and a size. -/
def sg (s : Bool) (m : Nat) : Int := if s then -(m : Int) else m
/-- The sum of two, as sign and size. -/
def plusS (s : Bool) (m : Nat) (t : Bool) (n : Nat) : Bool × Nat :=
  if s = t then (s, m + n) else if n ≤ m then (s, m - n) else (t, n - m)
theorem plusS_sg (s : Bool) (m : Nat) (t : Bool) (n : Nat) : sg (plusS s m t n).1 (plusS s m t n).2 = sg s m + sg t n := by
  unfold plusS
  cases s <;> cases t <;> simp [sg] <;> (try omega) <;> split <;> simp <;> omega
theorem sg_mul (s : Bool) (m k : Nat) : sg s (m * k) = sg s m * (k : Int) := by
  unfold sg
  split <;> simp [Int.neg_mul]
theorem sg_zero (s : Bool) : sg s 0 = 0 := by simp [sg]
theorem sg_inj {s t : Bool} {m n : Nat} (h : sg s m = sg t n) (hm : m ≠ 0) : s = t ∧ m = n := by
  unfold sg at h
  cases s <;> cases t <;> simp at h ⊢ <;> omega
theorem sg_nil {s : Bool} {m : Nat} (h : sg s m = 0) : m = 0 := by
  unfold sg at h
  split at h <;> omega

/-- Factors of 2 taken away, k of them at most. -/
def strip : Nat → Nat → Nat × Nat
  | 0, m => (m, 0)
  | k + 1, m => if m % 2 = 0 then strip k (m / 2) else (m, k + 1)
theorem strip_spec : ∀ (k m : Nat), ∃ j, j ≤ k ∧ (strip k m).2 = k - j ∧ m = (strip k m).1 * 2 ^ j ∧ (j = k ∨ (strip k m).1 % 2 = 1)
  | 0, m => ⟨0, Nat.le_refl _, rfl, by simp [strip], .inl rfl⟩
  | k + 1, m => by
    by_cases h : m % 2 = 0
    · obtain ⟨j, h1, h2, h3, h4⟩ := strip_spec k (m / 2)
      have e : strip (k + 1) m = strip k (m / 2) := by simp [strip, h]
      rw [e]
      refine ⟨j + 1, by omega, by omega, ?_, by omega⟩
      rw [Nat.pow_succ, ← Nat.mul_assoc, ← h3]
      omega
    · have e : strip (k + 1) m = (m, k + 1) := by simp [strip, h]
      rw [e]
      exact ⟨0, by omega, by simp, by simp, .inr (by simp; omega)⟩
theorem strip_of : ∀ (k j m : Nat), j ≤ k → (j = k ∨ m % 2 = 1) → strip k (m * 2 ^ j) = (m, k - j)
  | 0, j, m, h, _ => by
    obtain rfl : j = 0 := by omega
    simp [strip]
  | k + 1, 0, m, _, h => by
    have h1 : m % 2 = 1 := by omega
    simp [strip, h1]
  | k + 1, j + 1, m, h, h2 => by
    have e : m * 2 ^ (j + 1) = m * 2 ^ j * 2 := by rw [Nat.pow_succ, Nat.mul_assoc]
    have ih := strip_of k j m (by omega) (by omega)
    rw [e]
    simp only [strip]
    rw [if_pos (by omega), Nat.mul_div_cancel _ (by omega), ih]
    congr 1
    omega

/-- A dyad's numbers: whether it is below 0, its limbs' number, its exponent. -/
structure Dn where
  neg : Bool
  m : Nat
  e : Nat
deriving DecidableEq
def Dn.zero : Dn := ⟨false, 0, 0⟩
/-- The numbers of 40 limbs. -/
def capE : Nat := 1280
theorem capE_eq : capE = 1280 := rfl
def capD : Nat := 2 ^ capE
theorem capD_eq : capD = 2 ^ capE := rfl
theorem capD_gt {m k : Nat} (h : m < 2 ^ k) (hk : k ≤ 1280) : m < capD := Nat.lt_of_lt_of_le h (Nat.pow_le_pow_right (by decide) hk)
def Dn.May (a : Dn) : Prop := a.m < capD ∧ a.e ≤ 1024 ∧ (a.m = 0 → a.e = 0 ∧ a.neg = false) ∧ (0 < a.e → a.m % 2 = 1)
theorem zero_may : Dn.zero.May := ⟨capD_gt (k := 0) (by decide) (by decide), by decide, by decide, by decide⟩
theorem may_zero {a : Dn} (h : a.May) (h0 : a.m = 0) : a = Dn.zero := by
  obtain ⟨h1, h2⟩ := h.2.2.1 h0
  cases a
  simp_all [Dn.zero]
/-- So many parts of 2^-k as a dyad. -/
def formed (s : Bool) (m k : Nat) : Dn × Int :=
  if m = 0 then (Dn.zero, 0) else if (strip k m).1 < capD ∧ (strip k m).2 ≤ 1024 then (⟨s, (strip k m).1, (strip k m).2⟩, 0) else (Dn.zero, 10)
/-- A dyad in parts of 2^-k. -/
def vl (a : Dn) (k : Nat) : Int := sg a.neg (a.m * 2 ^ (k - a.e))
theorem vl_zero (k : Nat) : vl Dn.zero k = 0 := by simp [vl, Dn.zero, sg]
theorem vl_more (a : Dn) {k l : Nat} (h : a.e ≤ k) (hl : k ≤ l) : vl a l = vl a k * 2 ^ (l - k) := by
  unfold vl
  have e : l - a.e = (k - a.e) + (l - k) := by omega
  rw [e, Nat.pow_add, ← Nat.mul_assoc, sg_mul]
  simp
theorem formed_cases (s : Bool) (m k : Nat) : (formed s m k).2 = 0 ∨ formed s m k = (Dn.zero, 10) := by
  unfold formed
  split
  · exact .inl rfl
  · split
    · exact .inl rfl
    · exact .inr rfl
theorem formed_may (s : Bool) (m k : Nat) : (formed s m k).1.May := by
  unfold formed
  split
  · exact zero_may
  · split
    · rename_i h0 h1
      obtain ⟨j, h2, h3, h4, h5⟩ := strip_spec k m
      refine ⟨h1.1, h1.2, fun h => ?_, fun h => ?_⟩
      · simp only at h
        rw [h] at h4
        omega
      · simp only at h ⊢
        omega
    · exact zero_may
theorem formed_vl {s : Bool} {m k : Nat} (h : (formed s m k).2 = 0) : (formed s m k).1.e ≤ k ∧ ∀ K, k ≤ K → vl (formed s m k).1 K = sg s (m * 2 ^ (K - k)) := by
  unfold formed at h ⊢
  split
  · rename_i h0
    subst h0
    exact ⟨Nat.zero_le _, fun K _ => by simp [vl_zero, sg]⟩
  · rename_i h0
    rw [if_neg h0] at h
    split
    · obtain ⟨j, h2, h3, h4, h5⟩ := strip_spec k m
      refine ⟨by simp only; omega, fun K hK => ?_⟩
      unfold vl
      simp only
      refine congrArg (sg s) ?_
      conv => rhs; rw [h4]
      rw [Nat.mul_assoc, ← Nat.pow_add]
      exact congrArg (fun t => (strip k m).1 * 2 ^ t) (by clear h; omega)
    · rename_i h1
      rw [if_neg h1] at h
      simp at h
theorem formed_of {s : Bool} {m k K : Nat} {r : Dn} (hr : r.May) (he : r.e ≤ K) (hk : k ≤ K) (h : vl r K = sg s (m * 2 ^ (K - k))) : formed s m k = (r, 0) := by
  unfold vl at h
  have p1 := Nat.pow_pos (n := K - k) (show 0 < 2 by omega)
  have p2 := Nat.pow_pos (n := K - r.e) (show 0 < 2 by omega)
  by_cases h0 : m = 0
  · subst h0
    rw [Nat.zero_mul, sg_zero] at h
    have h1 : r.m = 0 := by
      rcases Nat.mul_eq_zero.1 (sg_nil h) with h1 | h1
      · exact h1
      · omega
    rw [may_zero hr h1]
    simp [formed]
  · have h1 : r.m ≠ 0 := fun e => by
      rw [e, Nat.zero_mul, sg_zero] at h
      rcases Nat.mul_eq_zero.1 (sg_nil h.symm) with h1 | h1 <;> omega
    have h2 : r.m * 2 ^ (K - r.e) ≠ 0 := Nat.mul_ne_zero h1 (by omega)
    obtain ⟨rfl, h3⟩ := sg_inj h h2
    have h4 : r.e ≤ k := by
      rcases Nat.lt_or_ge k r.e with hlt | hge
      · exfalso
        have e : K - k = (r.e - k - 1) + 1 + (K - r.e) := by omega
        rw [e, Nat.pow_add, ← Nat.mul_assoc] at h3
        have h5 := Nat.eq_of_mul_eq_mul_right p2 h3
        have h6 := hr.2.2.2 (by omega)
        rw [h5, Nat.pow_succ, ← Nat.mul_assoc] at h6
        omega
      · exact hge
    have e : K - r.e = (k - r.e) + (K - k) := by omega
    rw [e, Nat.pow_add, ← Nat.mul_assoc] at h3
    have h5 := Nat.eq_of_mul_eq_mul_right p1 h3
    have h6 := strip_of k (k - r.e) r.m (by omega) (by
      rcases Nat.eq_zero_or_pos r.e with h7 | h7
      · left; omega
      · right; exact hr.2.2.2 h7)
    unfold formed
    rw [if_neg h0, ← h5, h6]
    have e2 : k - (k - r.e) = r.e := by omega
    simp only [e2]
    rw [if_pos ⟨hr.1, hr.2.1⟩]
theorem vl_inj {a b : Dn} (ha : a.May) (hb : b.May) {K : Nat} (h1 : a.e ≤ K) (h2 : b.e ≤ K) (h : vl a K = vl b K) : a = b := by
  have e1 : formed a.neg a.m a.e = (a, 0) := formed_of ha h1 h1 (by unfold vl; rfl)
  have e2 : formed a.neg a.m a.e = (b, 0) := formed_of hb h2 h1 (by rw [← h]; unfold vl; rfl)
  rw [e1] at e2
  exact congrArg Prod.fst e2

/-- The sum. -/
def addD (a b : Dn) : Dn × Int :=
  formed (plusS a.neg (a.m * 2 ^ (max a.e b.e - a.e)) b.neg (b.m * 2 ^ (max a.e b.e - b.e))).1 (plusS a.neg (a.m * 2 ^ (max a.e b.e - a.e)) b.neg (b.m * 2 ^ (max a.e b.e - b.e))).2 (max a.e b.e)
/-- A number, its sign turned. -/
def negD (a : Dn) : Dn := ⟨!a.neg && decide (a.m ≠ 0), a.m, a.e⟩
def subD (a b : Dn) : Dn × Int := addD a (negD b)
def halfD (a : Dn) : Dn × Int := formed a.neg a.m (a.e + 1)
/-- How two stand. -/
def cmpD (a b : Dn) : Int := if vl a (max a.e b.e) < vl b (max a.e b.e) then -1 else if vl a (max a.e b.e) = vl b (max a.e b.e) then 0 else 1

theorem neg_may {a : Dn} (h : a.May) : (negD a).May := ⟨h.1, h.2.1, fun h0 => ⟨(h.2.2.1 h0).1, by have : a.m = 0 := h0; simp [negD, this]⟩, h.2.2.2⟩
theorem vl_neg (a : Dn) (K : Nat) : vl (negD a) K = - vl a K := by
  unfold vl negD sg
  by_cases h : a.m = 0
  · simp [h]
  · cases a.neg <;> simp [h]
theorem max_le' {a b K : Nat} (h1 : a ≤ K) (h2 : b ≤ K) : max a b ≤ K := by omega
theorem sum_vl (a b : Dn) {K : Nat} (h1 : a.e ≤ K) (h2 : b.e ≤ K) :
    sg (plusS a.neg (a.m * 2 ^ (max a.e b.e - a.e)) b.neg (b.m * 2 ^ (max a.e b.e - b.e))).1 ((plusS a.neg (a.m * 2 ^ (max a.e b.e - a.e)) b.neg (b.m * 2 ^ (max a.e b.e - b.e))).2 * 2 ^ (K - max a.e b.e)) = vl a K + vl b K := by
  rw [sg_mul, plusS_sg, vl_more a (k := max a.e b.e) (l := K) (by omega) (by omega), vl_more b (k := max a.e b.e) (l := K) (by omega) (by omega)]
  unfold vl
  rw [Int.add_mul]
  simp
theorem add_vl {a b : Dn} (h : (addD a b).2 = 0) : (addD a b).1.e ≤ max a.e b.e ∧ ∀ K, a.e ≤ K → b.e ≤ K → vl (addD a b).1 K = vl a K + vl b K := by
  obtain ⟨h1, h2⟩ := formed_vl h
  exact ⟨h1, fun K k1 k2 => (h2 K (by omega)).trans (sum_vl a b k1 k2)⟩
theorem add_of {a b r : Dn} (hr : r.May) {K : Nat} (h1 : a.e ≤ K) (h2 : b.e ≤ K) (h3 : r.e ≤ K) (h : vl r K = vl a K + vl b K) : addD a b = (r, 0) :=
  formed_of hr h3 (by omega) (h.trans (sum_vl a b h1 h2).symm)
theorem add_may (a b : Dn) : (addD a b).1.May := formed_may ..
theorem add_cases (a b : Dn) : (addD a b).2 = 0 ∨ addD a b = (Dn.zero, 10) := formed_cases ..
theorem sub_vl {a b : Dn} (h : (subD a b).2 = 0) : (subD a b).1.e ≤ max a.e b.e ∧ ∀ K, a.e ≤ K → b.e ≤ K → vl (subD a b).1 K = vl a K - vl b K := by
  obtain ⟨h1, h2⟩ := add_vl h
  exact ⟨h1, fun K k1 k2 => by have := h2 K k1 k2; rw [vl_neg] at this; unfold subD; rw [this]; omega⟩
theorem sub_of {a b r : Dn} (hr : r.May) {K : Nat} (h1 : a.e ≤ K) (h2 : b.e ≤ K) (h3 : r.e ≤ K) (h : vl r K = vl a K - vl b K) : subD a b = (r, 0) :=
  add_of hr h1 (b := negD b) h2 h3 (by rw [vl_neg, h]; omega)
theorem sub_may (a b : Dn) : (subD a b).1.May := add_may ..
theorem sub_cases (a b : Dn) : (subD a b).2 = 0 ∨ subD a b = (Dn.zero, 10) := add_cases ..
theorem half_may (a : Dn) : (halfD a).1.May := formed_may ..
theorem half_cases (a : Dn) : (halfD a).2 = 0 ∨ halfD a = (Dn.zero, 10) := formed_cases ..
theorem half_vl {a : Dn} (h : (halfD a).2 = 0) : (halfD a).1.e ≤ a.e + 1 ∧ ∀ K, a.e + 1 ≤ K → 2 * vl (halfD a).1 K = vl a K := by
  obtain ⟨h1, h2⟩ := formed_vl h
  refine ⟨h1, fun K hK => ?_⟩
  unfold halfD
  rw [h2 K hK]
  unfold vl
  have e : K - a.e = (K - (a.e + 1)) + 1 := by omega
  rw [e, Nat.pow_succ, ← Nat.mul_assoc, sg_mul _ _ 2]
  generalize sg a.neg (a.m * 2 ^ (K - (a.e + 1))) = z
  omega
theorem half_over {a : Dn} (ha : a.May) (h : (halfD a).2 ≠ 0) : halfD a = (Dn.zero, 10) ∧ a.e = 1024 := by
  refine ⟨(half_cases a).resolve_left h, ?_⟩
  obtain ⟨j, h2, h3, h4, h5⟩ := strip_spec (a.e + 1) a.m
  have hm := ha.1
  have hp : 0 < 2 ^ j := Nat.pow_pos (by omega)
  have hle : (strip (a.e + 1) a.m).1 ≤ a.m := by
    conv => rhs; rw [h4]
    exact Nat.le_mul_of_pos_right _ hp
  have he := ha.2.1
  unfold halfD formed at h
  split at h
  · simp at h
  · split at h
    · simp at h
    · rename_i h6
      omega

theorem cmp_spec (a b : Dn) {K : Nat} (h1 : a.e ≤ K) (h2 : b.e ≤ K) : (cmpD a b = -1 ∧ vl a K < vl b K) ∨ (cmpD a b = 0 ∧ vl a K = vl b K) ∨ (cmpD a b = 1 ∧ vl b K < vl a K) := by
  have e1 := vl_more a (k := max a.e b.e) (l := K) (by omega) (by omega)
  have e2 := vl_more b (k := max a.e b.e) (l := K) (by omega) (by omega)
  have hp : (0 : Int) < 2 ^ (K - max a.e b.e) := Int.pow_pos (by omega)
  unfold cmpD
  split
  · rename_i h
    exact .inl ⟨rfl, by rw [e1, e2]; exact Int.mul_lt_mul_of_pos_right h hp⟩
  · split
    · rename_i h
      exact .inr (.inl ⟨rfl, by rw [e1, e2, h]⟩)
    · rename_i h h'
      exact .inr (.inr ⟨rfl, by rw [e1, e2]; exact Int.mul_lt_mul_of_pos_right (by omega) hp⟩)
theorem cmp_swap (a b : Dn) : cmpD b a = - cmpD a b := by
  have h1 := cmp_spec a b (K := max a.e b.e) (by omega) (by omega)
  have h2 := cmp_spec b a (K := max a.e b.e) (by omega) (by omega)
  omega
theorem cmp_zero {a b : Dn} (ha : a.May) (hb : b.May) : cmpD a b = 0 ↔ a = b := by
  have h1 := cmp_spec a b (K := max a.e b.e) (by omega) (by omega)
  constructor
  · intro h
    exact vl_inj ha hb (K := max a.e b.e) (by omega) (by omega) (by omega)
  · rintro rfl
    omega
/-- The comparison by a difference of signs and sizes. -/
theorem cmp_by (a b : Dn) (t : Bool) (ht : b.m ≠ 0 → t = !b.neg) (s : Bool) (m : Nat)
    (h : plusS a.neg (a.m * 2 ^ (max a.e b.e - a.e)) t (b.m * 2 ^ (max a.e b.e - b.e)) = (s, m)) : cmpD a b = if m = 0 then 0 else if s then -1 else 1 := by
  have e := plusS_sg a.neg (a.m * 2 ^ (max a.e b.e - a.e)) t (b.m * 2 ^ (max a.e b.e - b.e))
  rw [h] at e
  have hb : sg t (b.m * 2 ^ (max a.e b.e - b.e)) = - vl b (max a.e b.e) := by
    rw [← vl_neg]
    unfold vl negD
    by_cases h0 : b.m = 0
    · simp [h0, sg]
    · simp [h0, ht h0]
  rw [hb] at e
  have h1 := cmp_spec a b (K := max a.e b.e) (by omega) (by omega)
  have ea : sg a.neg (a.m * 2 ^ (max a.e b.e - a.e)) = vl a (max a.e b.e) := rfl
  rw [ea] at e
  generalize vl a (max a.e b.e) = x at *
  generalize vl b (max a.e b.e) = y at *
  simp only [sg] at e
  split
  · split at e <;> omega
  · split
    · rename_i hs
      rw [if_pos hs] at e
      omega
    · rename_i hs
      rw [if_neg hs] at e
      omega

/-! What the laws ask -/
theorem add_comm (a b : Dn) : addD a b = addD b a := by
  rcases add_cases a b with h | h
  · obtain ⟨h1, h2⟩ := add_vl h
    have h3 := h2 (max a.e b.e) (by omega) (by omega)
    rw [Int.add_comm] at h3
    have := add_of (add_may a b) (a := b) (b := a) (K := max a.e b.e) (by omega) (by omega) h1 h3
    rw [this, ← h]
  · rcases add_cases b a with k | k
    · obtain ⟨h1, h2⟩ := add_vl k
      have h3 := h2 (max a.e b.e) (by omega) (by omega)
      rw [Int.add_comm] at h3
      have := add_of (add_may b a) (a := a) (b := b) (K := max a.e b.e) (by omega) (by omega) (by omega) h3
      rw [this, ← k]
    · rw [h, k]
theorem add_back {a b : Dn} (ha : a.May) (h : (addD a b).2 = 0) : subD (addD a b).1 b = (a, 0) := by
  obtain ⟨h1, h2⟩ := add_vl h
  exact sub_of ha (K := max a.e b.e) h1 (by omega) (by omega) (by rw [h2 _ (by omega) (by omega)]; omega)
theorem add_assoc {a b c x q p : Dn} (h1 : addD a b = (x, 0)) (h2 : addD x c = (p, 0)) (h3 : addD b c = (q, 0)) : addD a q = (p, 0) := by
  have e1 := add_vl (a := a) (b := b) (by rw [h1])
  have e2 := add_vl (a := x) (b := c) (by rw [h2])
  have e3 := add_vl (a := b) (b := c) (by rw [h3])
  rw [h1] at e1
  rw [h2] at e2
  rw [h3] at e3
  have hp : p.May := by have := add_may x c; rwa [h2] at this
  obtain ⟨a1, a2⟩ := e1
  obtain ⟨b1, b2⟩ := e2
  obtain ⟨c1, c2⟩ := e3
  simp only at *
  refine add_of hp (K := max (max a.e b.e) c.e) (by omega) (by omega) (by omega) ?_
  rw [b2 _ (by omega) (by omega), a2 _ (by omega) (by omega), c2 _ (by omega) (by omega)]
  omega
theorem half_twice {a : Dn} (ha : a.May) (h : (halfD a).2 = 0) : addD (halfD a).1 (halfD a).1 = (a, 0) ∧ subD a (halfD a).1 = ((halfD a).1, 0) := by
  obtain ⟨h1, h2⟩ := half_vl h
  have h3 := h2 (a.e + 1) (by omega)
  exact ⟨add_of ha (K := a.e + 1) h1 h1 (by omega) (by omega), sub_of (half_may a) (K := a.e + 1) (by omega) h1 h1 (by omega)⟩
theorem sub_sign {a b : Dn} (h : (subD a b).2 = 0) : (subD a b).1.neg = decide (cmpD a b < 0) ∧ (decide ((subD a b).1.m = 0)) = decide (cmpD a b = 0) := by
  obtain ⟨h1, h2⟩ := sub_vl h
  have h3 := h2 (max a.e b.e) (by omega) (by omega)
  have h4 := cmp_spec a b (K := max a.e b.e) (by omega) (by omega)
  have h5 := sub_may a b
  generalize (subD a b).1 = r at *
  have hp : 0 < 2 ^ (max a.e b.e - r.e) := Nat.pow_pos (by omega)
  by_cases h0 : r.m = 0
  · have hr := may_zero h5 h0
    subst hr
    rw [vl_zero] at h3
    have : cmpD a b = 0 := by omega
    rw [this]
    exact ⟨rfl, rfl⟩
  · have hne : 0 < r.m * 2 ^ (max a.e b.e - r.e) := Nat.mul_pos (by omega) hp
    have h3 : sg r.neg (r.m * 2 ^ (max a.e b.e - r.e)) = vl a (max a.e b.e) - vl b (max a.e b.e) := h3
    unfold sg at h3
    cases hn : r.neg
    · simp only [hn, Bool.false_eq_true, if_false] at h3
      have : cmpD a b = 1 := by omega
      rw [this]
      simp [h0]
    · simp only [hn, if_true] at h3
      have : cmpD a b = -1 := by omega
      rw [this]
      simp [h0]
end Dp
end Go.Proofs.YtlbkepiflhchdaaDoor
