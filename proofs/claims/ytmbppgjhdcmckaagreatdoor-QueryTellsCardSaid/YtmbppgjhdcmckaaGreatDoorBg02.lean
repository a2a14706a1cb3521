/- The numbers of dyads, and what is reckoned with them: no program in sight. -/
/- Limbs: digits, shifts, sums in place, the lowest and the highest bit: no program in sight. -/
/- Quotients, bit by bit: no program in sight. -/
/- Sums and differences of 32 bits with what is carried, the lowest and the highest bit: walks. -/
/- Whether limbs, and dyads, may be: walks. -/
import Derived.Test.YtmbppgjhdcmckaaGreatDoorBg01
import Derived.IntWalk
import Derived.Laws.BitsAllLaws
import Derived.Shelf.Spec.TrailingZeros
import Derived.Lib.BitFns
namespace Go.Proofs.YtmbppgjhdcmckaaGreatDoor
namespace Dp
/-- The whole number of a sign and a size. -/
def sg (s : Bool) (m : Nat) : Int := if s then -(m : Int) else m
/-- The sum of two, as sign and size. -/
def plusS (s : Bool) (m : Nat) (t : Bool) (n : Nat) : Bool × Nat :=
 if s = t then (s, m + n) else if n ≤ m then (s, m - n) else (t, n - m)
theorem plusS_sg (s : Bool) (m : Nat) (t : Bool) (n : Nat) : sg (plusS s m t n).1 (plusS s m t n).2 = sg s m + sg t n := by
 unfold plusS
 cases s <;> cases t <;> simp [sg] <;> (try omega) <;> split <;> simp <;> omega
theorem sg_mul (s : Bool) (m k : Nat) : sg s (m * k) = sg s m * (k : Int) := by
 unfold sg
 split <;> simp [Int.neg_mul]
theorem sg_zero (s : Bool) : sg s 0 = 0 := by simp [sg]
theorem sg_inj {s t : Bool} {m n : Nat} (h : sg s m = sg t n) (hm : m ≠ 0) : s = t ∧ m = n := by
 unfold sg at h
 cases s <;> cases t <;> simp at h ⊢ <;> omega
theorem sg_nil {s : Bool} {m : Nat} (h : sg s m = 0) : m = 0 := by
 unfold sg at h
 split at h <;> omega
/-- Factors of 2 taken away, k of them at most. -/
def strip : Nat → Nat → Nat × Nat
 | 0, m => (m, 0)
 | k + 1, m => if m % 2 = 0 then strip k (m / 2) else (m, k + 1)
theorem strip_spec : ∀ (k m : Nat), ∃ j, j ≤ k ∧ (strip k m).2 = k - j ∧ m = (strip k m).1 * 2 ^ j ∧ (j = k ∨ (strip k m).1 % 2 = 1)
 | 0, m => ⟨0, Nat.le_refl _, rfl, by simp [strip], .inl rfl⟩
 | k + 1, m => by
  by_cases h : m % 2 = 0
  · obtain ⟨j, h1, h2, h3, h4⟩ := strip_spec k (m / 2)
    have e : strip (k + 1) m = strip k (m / 2) := by simp [strip, h]
    rw [e]
    refine ⟨j + 1, by omega, by omega, ?_, by omega⟩
    rw [Nat.pow_succ, ← Nat.mul_assoc, ← h3]
    omega
  · have e : strip (k + 1) m = (m, k + 1) := by simp [strip, h]
    rw [e]
    exact ⟨0, by omega, by simp, by simp, .inr (by simp; omega)⟩
theorem strip_of : ∀ (k j m : Nat), j ≤ k → (j = k ∨ m % 2 = 1) → strip k (m * 2 ^ j) = (m, k - j)
 | 0, j, m, h, _ => by
  obtain rfl : j = 0 := by omega
  simp [strip]
 | k + 1, 0, m, _, h => by
  have h1 : m % 2 = 1 := by omega
  simp [strip, h1]
 | k + 1, j + 1, m, h, h2 => by
  have e : m * 2 ^ (j + 1) = m * 2 ^ j * 2 := by rw [Nat.pow_succ, Nat.mul_assoc]
  have ih := strip_of k j m (by omega) (by omega)
  rw [e]
  simp only [strip]
  rw [if_pos (by omega), Nat.mul_div_cancel _ (by omega), ih]
  congr 1
  omega
/-- A dyad's numbers: whether it is below 0, its limbs' number, its exponent. -/
structure Dn where
 neg : Bool
 m : Nat
 e : Nat
deriving DecidableEq
def Dn.zero : Dn := ⟨false, 0, 0⟩
/-- The numbers of 40 limbs. -/
def capE : Nat := 1280
theorem capE_eq : capE = 1280 := rfl
def capD : Nat := 2 ^ capE
theorem capD_eq : capD = 2 ^ capE := rfl
theorem capD_gt {m k : Nat} (h : m < 2 ^ k) (hk : k ≤ 1280) : m < capD := Nat.lt_of_lt_of_le h (Nat.pow_le_pow_right (by decide) hk)
def Dn.May (a : Dn) : Prop := a.m < capD ∧ a.e ≤ 1024 ∧ (a.m = 0 → a.e = 0 ∧ a.neg = false) ∧ (0 < a.e → a.m % 2 = 1)
theorem zero_may : Dn.zero.May := ⟨capD_gt (k := 0) (by decide) (by decide), by decide, by decide, by decide⟩
theorem may_zero {a : Dn} (h : a.May) (h0 : a.m = 0) : a = Dn.zero := by
 obtain ⟨h1, h2⟩ := h.2.2.1 h0
 cases a
 simp_all [Dn.zero]
/-- So many parts of 2^-k as a dyad. -/
def formed (s : Bool) (m k : Nat) : Dn × Int :=
 if m = 0 then (Dn.zero, 0) else if (strip k m).1 < capD ∧ (strip k m).2 ≤ 1024 then (⟨s, (strip k m).1, (strip k m).2⟩, 0) else (Dn.zero, 10)
/-- A dyad in parts of 2^-k. -/
def vl (a : Dn) (k : Nat) : Int := sg a.neg (a.m * 2 ^ (k - a.e))
theorem vl_zero (k : Nat) : vl Dn.zero k = 0 := by simp [vl, Dn.zero, sg]
theorem vl_more (a : Dn) {k l : Nat} (h : a.e ≤ k) (hl : k ≤ l) : vl a l = vl a k * 2 ^ (l - k) := by
 unfold vl
 have e : l - a.e = (k - a.e) + (l - k) := by omega
 rw [e, Nat.pow_add, ← Nat.mul_assoc, sg_mul]
 simp
theorem formed_cases (s : Bool) (m k : Nat) : (formed s m k).2 = 0 ∨ formed s m k = (Dn.zero, 10) := by
 unfold formed
 split
 · exact .inl rfl
 · split
   · exact .inl rfl
   · exact .inr rfl
theorem formed_may (s : Bool) (m k : Nat) : (formed s m k).1.May := by
 unfold formed
 split
 · exact zero_may
 · split
   · rename_i h0 h1
     obtain ⟨j, h2, h3, h4, h5⟩ := strip_spec k m
     refine ⟨h1.1, h1.2, fun h => ?_, fun h => ?_⟩
     · simp only at h
       rw [h] at h4
       omega
     · simp only at h ⊢
       omega
   · exact zero_may
theorem formed_vl {s : Bool} {m k : Nat} (h : (formed s m k).2 = 0) : (formed s m k).1.e ≤ k ∧ ∀ K, k ≤ K → vl (formed s m k).1 K = sg s (m * 2 ^ (K - k)) := by
 unfold formed at h ⊢
 split
 · rename_i h0
   subst h0
   exact ⟨Nat.zero_le _, fun K _ => by simp [vl_zero, sg]⟩
 · rename_i h0
   rw [if_neg h0] at h
   split
   · obtain ⟨j, h2, h3, h4, h5⟩ := strip_spec k m
     refine ⟨by simp only; omega, fun K hK => ?_⟩
     unfold vl
     simp only
     refine congrArg (sg s) ?_
     conv => rhs; rw [h4]
     rw [Nat.mul_assoc, ← Nat.pow_add]
     exact congrArg (fun t => (strip k m).1 * 2 ^ t) (by clear h; omega)
   · rename_i h1
     rw [if_neg h1] at h
     simp at h
theorem formed_of {s : Bool} {m k K : Nat} {r : Dn} (hr : r.May) (he : r.e ≤ K) (hk : k ≤ K) (h : vl r K = sg s (m * 2 ^ (K - k))) : formed s m k = (r, 0) := by
 unfold vl at h
 have p1 := Nat.pow_pos (n := K - k) (show 0 < 2 by omega)
 have p2 := Nat.pow_pos (n := K - r.e) (show 0 < 2 by omega)
 by_cases h0 : m = 0
 · subst h0
   rw [Nat.zero_mul, sg_zero] at h
   have h1 : r.m = 0 := by
    rcases Nat.mul_eq_zero.1 (sg_nil h) with h1 | h1
    · exact h1
    · omega
   rw [may_zero hr h1]
   simp [formed]
 · have h1 : r.m ≠ 0 := fun e => by
     rw [e, Nat.zero_mul, sg_zero] at h
     rcases Nat.mul_eq_zero.1 (sg_nil h.symm) with h1 | h1 <;> omega
   have h2 : r.m * 2 ^ (K - r.e) ≠ 0 := Nat.mul_ne_zero h1 (by omega)
   obtain ⟨rfl, h3⟩ := sg_inj h h2
   have h4 : r.e ≤ k := by
    rcases Nat.lt_or_ge k r.e with hlt | hge
    · exfalso
      have e : K - k = (r.e - k - 1) + 1 + (K - r.e) := by omega
      rw [e, Nat.pow_add, ← Nat.mul_assoc] at h3
      have h5 := Nat.eq_of_mul_eq_mul_right p2 h3
      have h6 := hr.2.2.2 (by omega)
      rw [h5, Nat.pow_succ, ← Nat.mul_assoc] at h6
      omega
    · exact hge
   have e : K - r.e = (k - r.e) + (K - k) := by omega
   rw [e, Nat.pow_add, ← Nat.mul_assoc] at h3
   have h5 := Nat.eq_of_mul_eq_mul_right p1 h3
   have h6 := strip_of k (k - r.e) r.m (by omega) (by
    rcases Nat.eq_zero_or_pos r.e with h7 | h7
    · left; omega
    · right; exact hr.2.2.2 h7)
   unfold formed
   rw [if_neg h0, ← h5, h6]
   have e2 : k - (k - r.e) = r.e := by omega
   simp only [e2]
   rw [if_pos ⟨hr.1, hr.2.1⟩]
theorem vl_inj {a b : Dn} (ha : a.May) (hb : b.May) {K : Nat} (h1 : a.e ≤ K) (h2 : b.e ≤ K) (h : vl a K = vl b K) : a = b := by
 have e1 : formed a.neg a.m a.e = (a, 0) := formed_of ha h1 h1 (by unfold vl; rfl)
 have e2 : formed a.neg a.m a.e = (b, 0) := formed_of hb h2 h1 (by rw [← h]; unfold vl; rfl)
 rw [e1] at e2
 exact congrArg Prod.fst e2
/-- The sum. -/
def addD (a b : Dn) : Dn × Int :=
 formed (plusS a.neg (a.m * 2 ^ (max a.e b.e - a.e)) b.neg (b.m * 2 ^ (max a.e b.e - b.e))).1 (plusS a.neg (a.m * 2 ^ (max a.e b.e - a.e)) b.neg (b.m * 2 ^ (max a.e b.e - b.e))).2 (max a.e b.e)
/-- A number, its sign turned. -/
def negD (a : Dn) : Dn := ⟨!a.neg && decide (a.m ≠ 0), a.m, a.e⟩
def subD (a b : Dn) : Dn × Int := addD a (negD b)
def halfD (a : Dn) : Dn × Int := formed a.neg a.m (a.e + 1)
/-- How two stand. -/
def cmpD (a b : Dn) : Int := if vl a (max a.e b.e) < vl b (max a.e b.e) then -1 else if vl a (max a.e b.e) = vl b (max a.e b.e) then 0 else 1
theorem neg_may {a : Dn} (h : a.May) : (negD a).May := ⟨h.1, h.2.1, fun h0 => ⟨(h.2.2.1 h0).1, by have : a.m = 0 := h0; simp [negD, this]⟩, h.2.2.2⟩
theorem vl_neg (a : Dn) (K : Nat) : vl (negD a) K = - vl a K := by
 unfold vl negD sg
 by_cases h : a.m = 0
 · simp [h]
 · cases a.neg <;> simp [h]
theorem max_le' {a b K : Nat} (h1 : a ≤ K) (h2 : b ≤ K) : max a b ≤ K := by omega
theorem sum_vl (a b : Dn) {K : Nat} (h1 : a.e ≤ K) (h2 : b.e ≤ K) :
  sg (plusS a.neg (a.m * 2 ^ (max a.e b.e - a.e)) b.neg (b.m * 2 ^ (max a.e b.e - b.e))).1 ((plusS a.neg (a.m * 2 ^ (max a.e b.e - a.e)) b.neg (b.m * 2 ^ (max a.e b.e - b.e))).2 * 2 ^ (K - max a.e b.e)) = vl a K + vl b K := by
 rw [sg_mul, plusS_sg, vl_more a (k := max a.e b.e) (l := K) (by omega) (by omega), vl_more b (k := max a.e b.e) (l := K) (by omega) (by omega)]
 unfold vl
 rw [Int.add_mul]
 simp
theorem add_vl {a b : Dn} (h : (addD a b).2 = 0) : (addD a b).1.e ≤ max a.e b.e ∧ ∀ K, a.e ≤ K → b.e ≤ K → vl (addD a b).1 K = vl a K + vl b K := by
 obtain ⟨h1, h2⟩ := formed_vl h
 exact ⟨h1, fun K k1 k2 => (h2 K (by omega)).trans (sum_vl a b k1 k2)⟩
theorem add_of {a b r : Dn} (hr : r.May) {K : Nat} (h1 : a.e ≤ K) (h2 : b.e ≤ K) (h3 : r.e ≤ K) (h : vl r K = vl a K + vl b K) : addD a b = (r, 0) :=
 formed_of hr h3 (by omega) (h.trans (sum_vl a b h1 h2).symm)
theorem add_may (a b : Dn) : (addD a b).1.May := formed_may ..
theorem add_cases (a b : Dn) : (addD a b).2 = 0 ∨ addD a b = (Dn.zero, 10) := formed_cases ..
theorem sub_vl {a b : Dn} (h : (subD a b).2 = 0) : (subD a b).1.e ≤ max a.e b.e ∧ ∀ K, a.e ≤ K → b.e ≤ K → vl (subD a b).1 K = vl a K - vl b K := by
 obtain ⟨h1, h2⟩ := add_vl h
 exact ⟨h1, fun K k1 k2 => by have := h2 K k1 k2; rw [vl_neg] at this; unfold subD; rw [this]; omega⟩
theorem sub_of {a b r : Dn} (hr : r.May) {K : Nat} (h1 : a.e ≤ K) (h2 : b.e ≤ K) (h3 : r.e ≤ K) (h : vl r K = vl a K - vl b K) : subD a b = (r, 0) :=
 add_of hr h1 (b := negD b) h2 h3 (by rw [vl_neg, h]; omega)
theorem sub_may (a b : Dn) : (subD a b).1.May := add_may ..
theorem sub_cases (a b : Dn) : (subD a b).2 = 0 ∨ subD a b = (Dn.zero, 10) := add_cases ..
theorem half_may (a : Dn) : (halfD a).1.May := formed_may ..
theorem half_cases (a : Dn) : (halfD a).2 = 0 ∨ halfD a = (Dn.zero, 10) := formed_cases ..
theorem half_vl {a : Dn} (h : (halfD a).2 = 0) : (halfD a).1.e ≤ a.e + 1 ∧ ∀ K, a.e + 1 ≤ K → 2 * vl (halfD a).1 K = vl a K := by
 obtain ⟨h1, h2⟩ := formed_vl h
 refine ⟨h1, fun K hK => ?_⟩
 unfold halfD
 rw [h2 K hK]
 unfold vl
 have e : K - a.e = (K - (a.e + 1)) + 1 := by omega
 rw [e, Nat.pow_succ, ← Nat.mul_assoc, sg_mul _ _ 2]
 generalize sg a.neg (a.m * 2 ^ (K - (a.e + 1))) = z
 omega
theorem half_over {a : Dn} (ha : a.May) (h : (halfD a).2 ≠ 0) : halfD a = (Dn.zero, 10) ∧ a.e = 1024 := by
 refine ⟨(half_cases a).resolve_left h, ?_⟩
 obtain ⟨j, h2, h3, h4, h5⟩ := strip_spec (a.e + 1) a.m
 have hm := ha.1
 have hp : 0 < 2 ^ j := Nat.pow_pos (by omega)
 have hle : (strip (a.e + 1) a.m).1 ≤ a.m := by
  conv => rhs; rw [h4]
  exact Nat.le_mul_of_pos_right _ hp
 have he := ha.2.1
 unfold halfD formed at h
 split at h
 · simp at h
 · split at h
   · simp at h
   · rename_i h6
     omega
theorem cmp_spec (a b : Dn) {K : Nat} (h1 : a.e ≤ K) (h2 : b.e ≤ K) : (cmpD a b = -1 ∧ vl a K < vl b K) ∨ (cmpD a b = 0 ∧ vl a K = vl b K) ∨ (cmpD a b = 1 ∧ vl b K < vl a K) := by
 have e1 := vl_more a (k := max a.e b.e) (l := K) (by omega) (by omega)
 have e2 := vl_more b (k := max a.e b.e) (l := K) (by omega) (by omega)
 have hp : (0 : Int) < 2 ^ (K - max a.e b.e) := Int.pow_pos (by omega)
 unfold cmpD
 split
 · rename_i h
   exact .inl ⟨rfl, by rw [e1, e2]; exact Int.mul_lt_mul_of_pos_right h hp⟩
 · split
   · rename_i h
     exact .inr (.inl ⟨rfl, by rw [e1, e2, h]⟩)
   · rename_i h h'
     exact .inr (.inr ⟨rfl, by rw [e1, e2]; exact Int.mul_lt_mul_of_pos_right (by omega) hp⟩)
theorem cmp_swap (a b : Dn) : cmpD b a = - cmpD a b := by
 have h1 := cmp_spec a b (K := max a.e b.e) (by omega) (by omega)
 have h2 := cmp_spec b a (K := max a.e b.e) (by omega) (by omega)
 omega
theorem cmp_zero {a b : Dn} (ha : a.May) (hb : b.May) : cmpD a b = 0 ↔ a = b := by
 have h1 := cmp_spec a b (K := max a.e b.e) (by omega) (by omega)
 constructor
 · intro h
   exact vl_inj ha hb (K := max a.e b.e) (by omega) (by omega) (by omega)
 · rintro rfl
   omega
/-- The comparison by a difference of signs and sizes. -/
theorem cmp_by (a b : Dn) (t : Bool) (ht : b.m ≠ 0 → t = !b.neg) (s : Bool) (m : Nat)
  (h : plusS a.neg (a.m * 2 ^ (max a.e b.e - a.e)) t (b.m * 2 ^ (max a.e b.e - b.e)) = (s, m)) : cmpD a b = if m = 0 then 0 else if s then -1 else 1 := by
 have e := plusS_sg a.neg (a.m * 2 ^ (max a.e b.e - a.e)) t (b.m * 2 ^ (max a.e b.e - b.e))
 rw [h] at e
 have hb : sg t (b.m * 2 ^ (max a.e b.e - b.e)) = - vl b (max a.e b.e) := by
  rw [← vl_neg]
  unfold vl negD
  by_cases h0 : b.m = 0
  · simp [h0, sg]
  · simp [h0, ht h0]
 rw [hb] at e
 have h1 := cmp_spec a b (K := max a.e b.e) (by omega) (by omega)
 have ea : sg a.neg (a.m * 2 ^ (max a.e b.e - a.e)) = vl a (max a.e b.e) := rfl
 rw [ea] at e
 generalize vl a (max a.e b.e) = x at *
 generalize vl b (max a.e b.e) = y at *
 simp only [sg] at e
 split
 · split at e <;> omega
 · split
   · rename_i hs
     rw [if_pos hs] at e
     omega
   · rename_i hs
     rw [if_neg hs] at e
     omega
/-! What the laws ask -/
theorem add_comm (a b : Dn) : addD a b = addD b a := by
 rcases add_cases a b with h | h
 · obtain ⟨h1, h2⟩ := add_vl h
   have h3 := h2 (max a.e b.e) (by omega) (by omega)
   rw [Int.add_comm] at h3
   have := add_of (add_may a b) (a := b) (b := a) (K := max a.e b.e) (by omega) (by omega) h1 h3
   rw [this, ← h]
 · rcases add_cases b a with k | k
   · obtain ⟨h1, h2⟩ := add_vl k
     have h3 := h2 (max a.e b.e) (by omega) (by omega)
     rw [Int.add_comm] at h3
     have := add_of (add_may b a) (a := a) (b := b) (K := max a.e b.e) (by omega) (by omega) (by omega) h3
     rw [this, ← k]
   · rw [h, k]
theorem add_back {a b : Dn} (ha : a.May) (h : (addD a b).2 = 0) : subD (addD a b).1 b = (a, 0) := by
 obtain ⟨h1, h2⟩ := add_vl h
 exact sub_of ha (K := max a.e b.e) h1 (by omega) (by omega) (by rw [h2 _ (by omega) (by omega)]; omega)
theorem add_assoc {a b c x q p : Dn} (h1 : addD a b = (x, 0)) (h2 : addD x c = (p, 0)) (h3 : addD b c = (q, 0)) : addD a q = (p, 0) := by
 have e1 := add_vl (a := a) (b := b) (by rw [h1])
 have e2 := add_vl (a := x) (b := c) (by rw [h2])
 have e3 := add_vl (a := b) (b := c) (by rw [h3])
 rw [h1] at e1
 rw [h2] at e2
 rw [h3] at e3
 have hp : p.May := by have := add_may x c; rwa [h2] at this
 obtain ⟨a1, a2⟩ := e1
 obtain ⟨b1, b2⟩ := e2
 obtain ⟨c1, c2⟩ := e3
 simp only at *
 refine add_of hp (K := max (max a.e b.e) c.e) (by omega) (by omega) (by omega) ?_
 rw [b2 _ (by omega) (by omega), a2 _ (by omega) (by omega), c2 _ (by omega) (by omega)]
 omega
theorem half_twice {a : Dn} (ha : a.May) (h : (halfD a).2 = 0) : addD (halfD a).1 (halfD a).1 = (a, 0) ∧ subD a (halfD a).1 = ((halfD a).1, 0) := by
 obtain ⟨h1, h2⟩ := half_vl h
 have h3 := h2 (a.e + 1) (by omega)
 exact ⟨add_of ha (K := a.e + 1) h1 h1 (by omega) (by omega), sub_of (half_may a) (K := a.e + 1) (by omega) h1 h1 (by omega)⟩
theorem sub_sign {a b : Dn} (h : (subD a b).2 = 0) : (subD a b).1.neg = decide (cmpD a b < 0) ∧ (decide ((subD a b).1.m = 0)) = decide (cmpD a b = 0) := by
 obtain ⟨h1, h2⟩ := sub_vl h
 have h3 := h2 (max a.e b.e) (by omega) (by omega)
 have h4 := cmp_spec a b (K := max a.e b.e) (by omega) (by omega)
 have h5 := sub_may a b
 generalize (subD a b).1 = r at *
 have hp : 0 < 2 ^ (max a.e b.e - r.e) := Nat.pow_pos (by omega)
 by_cases h0 : r.m = 0
 · have hr := may_zero h5 h0
   subst hr
   rw [vl_zero] at h3
   have : cmpD a b = 0 := by omega
   rw [this]
   exact ⟨rfl, rfl⟩
 · have hne : 0 < r.m * 2 ^ (max a.e b.e - r.e) := Nat.mul_pos (by omega) hp
   have h3 : sg r.neg (r.m * 2 ^ (max a.e b.e - r.e)) = vl a (max a.e b.e) - vl b (max a.e b.e) := h3
   unfold sg at h3
   cases hn : r.neg
   · simp only [hn, Bool.false_eq_true, if_false] at h3
     have : cmpD a b = 1 := by omega
     rw [this]
     simp [h0]
   · simp only [hn, if_true] at h3
     have : cmpD a b = -1 := by omega
     rw [this]
     simp [h0]
end Dp
end Go.Proofs.YtmbppgjhdcmckaaGreatDoor
namespace Go.Proofs.YtmbppgjhdcmckaaGreatDoor
namespace Dp
/-! ### Digits -/
theorem split_ (B : Nat) (l : List Int) (k : Nat) : num B l = num B (l.take k) + B ^ k * num B (l.drop k) := by
 by_cases h : k ≤ l.length
 · conv => lhs; rw [← List.take_append_drop k l]
   rw [num_append, List.length_take, Nat.min_eq_left h]
 · rw [List.take_of_length_le (by omega), List.drop_eq_nil_of_le (by omega)]
   simp [num]
theorem take_next (B : Nat) (l : List Int) (k : Nat) : num B (l.take (k + 1)) = num B (l.take k) + B ^ k * (l[k]?.getD 0).toNat := by
 by_cases h : k < l.length
 · rw [List.take_succ_eq_append_getElem h, num_append, List.getElem?_eq_getElem h]
   simp [num, Nat.min_eq_left (Nat.le_of_lt h)]
 · rw [List.take_of_length_le (by omega), List.take_of_length_le (by omega), List.getElem?_eq_none (by omega)]
   simp
theorem dig_take {B : Nat} {l : List Int} (h : Dig B l) (k : Nat) : Dig B (l.take k) := fun x hx => h x (List.mem_of_mem_take hx)
theorem dig_get {B : Nat} (hB : 0 < B) {l : List Int} (h : Dig B l) (k : Nat) : ∃ d : Nat, l[k]?.getD 0 = (d : Int) ∧ d < B := by
 by_cases hk : k < l.length
 · rw [List.getElem?_eq_getElem hk]
   have := h _ (List.getElem_mem hk)
   exact ⟨l[k].toNat, by simp only [Option.getD_some]; omega, by omega⟩
 · rw [List.getElem?_eq_none (by omega)]
   exact ⟨0, rfl, hB⟩
theorem dig_set {B : Nat} {l : List Int} (h : Dig B l) (k d : Nat) (hd : d < B) : Dig B (l.set k (d : Int)) := fun x hx => by
 rcases List.mem_or_eq_of_mem_set hx with h' | h'
 · exact h x h'
 · subst h'; omega
theorem take_lt {B : Nat} (hB : 0 < B) {l : List Int} (h : Dig B l) (k : Nat) : num B (l.take k) < B ^ k := by
 have h1 := num_lt B hB (l.take k) (dig_take h k)
 exact Nat.lt_of_lt_of_le h1 (Nat.pow_le_pow_right hB (by simp; omega))
/-- A digit of a list's number. -/
theorem digit {B : Nat} (hB : 0 < B) {l : List Int} (h : Dig B l) (k : Nat) : l[k]?.getD 0 = ((num B l / B ^ k % B : Nat) : Int) := by
 obtain ⟨d, hd, hlt⟩ := dig_get hB h k
 have h1 := split_ B l (k + 1)
 rw [take_next, hd, Int.toNat_natCast] at h1
 have h2 := take_lt hB h k
 have hp : 0 < B ^ k := Nat.pow_pos hB
 have e : num B l / B ^ k = d + B * num B (l.drop (k + 1)) := by
  rw [h1, Nat.pow_succ, Nat.mul_assoc, Nat.add_assoc, ← Nat.mul_add, Nat.add_mul_div_left _ _ hp, Nat.div_eq_of_lt h2]
  omega
 rw [hd, e, Nat.add_mul_mod_self_left, Nat.mod_eq_of_lt hlt]
/-- A list whose digits are a number's is that number. -/
theorem num_of {B : Nat} : ∀ (l : List Int) (M : Nat), (∀ j, j < l.length → l[j]?.getD 0 = ((M / B ^ j % B : Nat) : Int)) → M < B ^ l.length → num B l = M
 | [], M, _, h => by simp at h; simp [num, h]
 | x :: l, M, h, hM => by
  have h0 := h 0 (by simp)
  simp at h0
  have ih := num_of l (M / B) (fun j hj => by
   have := h (j + 1) (by simpa using hj)
   simp only [List.getElem?_cons_succ] at this
   rw [this, Nat.pow_succ, Nat.mul_comm, Nat.div_div_eq_div_mul]) (by
   rw [List.length_cons, Nat.pow_succ, Nat.mul_comm] at hM
   exact Nat.div_lt_of_lt_mul hM)
  simp only [num]
  rw [ih, h0]
  have := Nat.mod_add_div M B
  omega
theorem last_ (B : Nat) (l : List Int) (h : l ≠ []) : num B l = num B l.dropLast + B ^ (l.length - 1) * (l.getLast h).toNat := by
 conv => lhs; rw [← List.dropLast_concat_getLast h]
 rw [num_append]
 simp [num]
theorem cutd_ge {B : Nat} (hB : 0 < B) {l : List Int} (hd : Dig B l) (hg : l ≠ [] → B ^ (l.length - 1) ≤ num B l) : Cutd l := fun h h0 => by
 have h1 := hg h
 rw [last_ B l h, h0] at h1
 have h2 := num_lt B hB l.dropLast fun x hx => hd x (List.dropLast_subset _ hx)
 simp at h1 h2
 omega
theorem canon_digits {B : Nat} (hB : 2 ≤ B) {l : List Int} {M : Nat} (h : ∀ j, j < l.length → l[j]?.getD 0 = ((M / B ^ j % B : Nat) : Int)) (hM : M < B ^ l.length) (hg : l ≠ [] → B ^ (l.length - 1) ≤ M) : l = canon B M := by
 have hn := num_of l M h hM
 have hd : Dig B l := fun x hx => by
  obtain ⟨j, hj, rfl⟩ := List.getElem_of_mem hx
  have h1 := h j hj
  rw [List.getElem?_eq_getElem hj, Option.getD_some] at h1
  have h2 := Nat.mod_lt (M / B ^ j) (show 0 < B by omega)
  omega
 exact canon_of hB hd (cutd_ge (by omega) hd fun hne => by rw [hn]; exact hg hne) hn
theorem set_num (B : Nat) : ∀ (l : List Int) (j : Nat) (v : Int), j < l.length → num B (l.set j v) + B ^ j * (l[j]?.getD 0).toNat = num B l + B ^ j * v.toNat
 | [], j, v, h => by simp at h
 | x :: l, 0, v, _ => by simp [num]; omega
 | x :: l, j + 1, v, h => by
  have ih := set_num B l j v (by simpa using h)
  simp only [List.set_cons_succ, num, List.getElem?_cons_succ, Nat.pow_succ]
  have e1 : B ^ j * B * (l[j]?.getD 0).toNat = B * (B ^ j * (l[j]?.getD 0).toNat) := by rw [Nat.mul_comm (B ^ j) B, Nat.mul_assoc]
  have e2 : B ^ j * B * v.toNat = B * (B ^ j * v.toNat) := by rw [Nat.mul_comm (B ^ j) B, Nat.mul_assoc]
  rw [e1, e2]
  have : B * num B (l.set j v) + B * (B ^ j * (l[j]?.getD 0).toNat) = B * num B l + B * (B ^ j * v.toNat) := by rw [← Nat.mul_add, ih, Nat.mul_add]
  omega
theorem set_take (B : Nat) (l : List Int) (k : Nat) (v : Int) (h : k < l.length) : num B ((l.set k v).take (k + 1)) = num B (l.take k) + B ^ k * v.toNat := by
 rw [take_next, List.take_set_of_le (Nat.le_refl _), List.getElem?_set_self h]
 rfl
theorem set_far (l : List Int) {k j : Nat} (v : Int) (h : k ≠ j) : (l.set k v)[j]?.getD 0 = l[j]?.getD 0 := by
 rw [List.getElem?_set_ne h]
/-! ### Limbs of 32 bits -/
theorem pow32 (k : Nat) : 4294967296 ^ k = 2 ^ (32 * k) := by rw [Nat.pow_mul]
/-- One limb of a number that is shifted to the right. -/
theorem at_law (M r : Nat) (hr : r < 32) : (((M / 4294967296 % 4294967296) * 4294967296 + M % 4294967296) / 2 ^ r) % 4294967296 = M / 2 ^ r % 4294967296 := by
 have e1 : (M / 4294967296 % 4294967296) * 4294967296 + M % 4294967296 = M % 2 ^ 64 := by omega
 rw [e1]
 have hp : 0 < 2 ^ r := Nat.pow_pos (by decide)
 have e2 : M = 2 ^ r * (2 ^ (64 - r) * (M / 2 ^ 64)) + M % 2 ^ 64 := by
  rw [← Nat.mul_assoc, ← Nat.pow_add, show r + (64 - r) = 64 by omega]
  omega
 have e3 : M / 2 ^ r = 2 ^ (64 - r) * (M / 2 ^ 64) + M % 2 ^ 64 / 2 ^ r := by
  conv => lhs; rw [e2]
  rw [Nat.mul_add_div hp]
 have e4 : 2 ^ (64 - r) = 4294967296 * 2 ^ (32 - r) := by
  rw [show (4294967296 : Nat) = 2 ^ 32 by rfl, ← Nat.pow_add]
  congr 1
  omega
 rw [e3, e4, Nat.mul_assoc, Nat.mul_add_mod]
theorem at_limb {l : List Int} (hd : Dig 4294967296 l) (i k : Nat) (hi lo : Nat) (h1 : l[i + k / 32 + 1]?.getD 0 = (hi : Int)) (h0 : l[i + k / 32]?.getD 0 = (lo : Int)) :
  ((hi * 4294967296 + lo) / 2 ^ (k % 32)) % 4294967296 = num 4294967296 l / 2 ^ k / 4294967296 ^ i % 4294967296 := by
 rw [digit (by decide) hd] at h1 h0
 have h1' : num 4294967296 l / 4294967296 ^ (i + k / 32 + 1) % 4294967296 = hi := by omega
 have h0' : num 4294967296 l / 4294967296 ^ (i + k / 32) % 4294967296 = lo := by omega
 rw [Nat.pow_succ, ← Nat.div_div_eq_div_mul] at h1'
 have := at_law (num 4294967296 l / 4294967296 ^ (i + k / 32)) (k % 32) (Nat.mod_lt _ (by decide))
 rw [h1', h0'] at this
 rw [this, Nat.div_div_eq_div_mul, Nat.div_div_eq_div_mul, pow32, pow32, ← Nat.pow_add, ← Nat.pow_add]
 congr 3
 omega
theorem wide_bound {ws xs : List Int} {i k : Nat} (hx : Dig 4294967296 xs) (h : num 4294967296 ws = num 4294967296 (xs.take i) * 2 ^ k) :
  num 4294967296 ws < 4294967296 ^ (i + k / 32) * 2 ^ (k % 32) := by
 have h1 := take_lt (by decide) hx i
 have ek : k = 32 * (k / 32) + k % 32 := by omega
 have e2 : (2 : Nat) ^ k = 4294967296 ^ (k / 32) * 2 ^ (k % 32) := by rw [pow32, ← Nat.pow_add, ← ek]
 rw [h, Nat.pow_add, Nat.mul_assoc, ← e2]
 exact Nat.mul_lt_mul_of_pos_right h1 (Nat.pow_pos (by decide))
theorem wide_p {ws : List Int} {j r p : Nat} (hw : Dig 4294967296 ws) (hb : num 4294967296 ws < 4294967296 ^ j * 2 ^ r) (hp : ws[j]?.getD 0 = (p : Int)) : p < 2 ^ r := by
 rw [digit (by decide) hw] at hp
 have h2 : num 4294967296 ws / 4294967296 ^ j % 4294967296 = p := Int.ofNat.inj hp
 have h3 : num 4294967296 ws / 4294967296 ^ j < 2 ^ r := Nat.div_lt_of_lt_mul hb
 rw [← h2]
 exact Nat.lt_of_le_of_lt (Nat.mod_le _ _) h3
theorem wide_z {ws : List Int} {j r : Nat} (hr : r < 32) (hw : Dig 4294967296 ws) (hb : num 4294967296 ws < 4294967296 ^ j * 2 ^ r) : ws[j + 1]?.getD 0 = 0 := by
 have hr2 : 2 ^ r ≤ 2 ^ 32 := Nat.pow_le_pow_right (by decide) (by omega)
 have h2 : num 4294967296 ws < 4294967296 ^ (j + 1) := Nat.lt_of_lt_of_le hb (by rw [Nat.pow_succ]; exact Nat.mul_le_mul_left _ hr2)
 rw [digit (by decide) hw, Nat.div_eq_of_lt h2]
 rfl
theorem wide_sum {x p r : Nat} (hr : r < 32) (hp1 : p < 2 ^ r) : p + x * 2 ^ r % 4294967296 < 4294967296 := by
 have e : (4294967296 : Nat) = 2 ^ r * 2 ^ (32 - r) := by rw [← Nat.pow_add, show r + (32 - r) = 32 by omega]
 have h2 : x * 2 ^ r % 4294967296 = 2 ^ r * (x % 2 ^ (32 - r)) := by
  conv => lhs; rw [e, Nat.mul_comm x]
  rw [Nat.mul_mod_mul_left]
 have h3 : x % 2 ^ (32 - r) < 2 ^ (32 - r) := Nat.mod_lt _ (Nat.pow_pos (by decide))
 have h4 : 2 ^ r * (x % 2 ^ (32 - r)) + 2 ^ r ≤ 4294967296 := by
  conv => rhs; rw [e]
  rw [← Nat.mul_succ]
  exact Nat.mul_le_mul_left _ h3
 rw [h2]
 exact Nat.lt_of_lt_of_le (by rw [Nat.add_comm]; exact Nat.add_lt_add_left hp1 _) h4
theorem wide_hi {x r : Nat} (hr : r < 32) (hx : x < 4294967296) : x * 2 ^ r / 4294967296 < 4294967296 := by
 have hr2 : 2 ^ r ≤ 2 ^ 32 := Nat.pow_le_pow_right (by decide) (by omega)
 have h1 : x * 2 ^ r < 4294967296 * 2 ^ r := Nat.mul_lt_mul_of_pos_right hx (Nat.pow_pos (by decide))
 exact Nat.lt_of_lt_of_le (Nat.div_lt_of_lt_mul h1) hr2
theorem wide_num (B : Nat) {ws : List Int} {j p a b : Nat} (hl : j + 1 < ws.length) (hp : ws[j]?.getD 0 = (p : Int)) (hz : ws[j + 1]?.getD 0 = 0) :
  num B ((ws.set j ((p + a : Nat) : Int)).set (j + 1) ((b : Nat) : Int)) = num B ws + B ^ j * (a + B * b) := by
 have s1 := set_num B ws j ((p + a : Nat) : Int) (by omega)
 have s2 := set_num B (ws.set j ((p + a : Nat) : Int)) (j + 1) ((b : Nat) : Int) (by simp; omega)
 rw [set_far _ _ (by omega), hz] at s2
 rw [hp] at s1
 simp only [Int.toNat_natCast, Int.toNat_zero, Nat.mul_zero, Nat.add_zero] at s1 s2
 rw [s2, Nat.pow_succ, Nat.mul_assoc, Nat.mul_add]
 rw [Nat.mul_add] at s1
 generalize B ^ j * p = P at *
 generalize B ^ j * a = Q at *
 generalize B ^ j * (B * b) = R at *
 omega
theorem wide_next {ws xs : List Int} {i k x : Nat} (h : num 4294967296 ws = num 4294967296 (xs.take i) * 2 ^ k) (hxi : xs[i]?.getD 0 = (x : Int)) :
  num 4294967296 (xs.take (i + 1)) * 2 ^ k = num 4294967296 ws + 4294967296 ^ (i + k / 32) * (x * 2 ^ (k % 32)) := by
 have ek : k = 32 * (k / 32) + k % 32 := by omega
 have e2 : (2 : Nat) ^ k = 4294967296 ^ (k / 32) * 2 ^ (k % 32) := by rw [pow32, ← Nat.pow_add, ← ek]
 rw [take_next, hxi, Int.toNat_natCast, Nat.add_mul, ← h, e2, Nat.pow_add]
 generalize 4294967296 ^ i = a
 generalize 4294967296 ^ (k / 32) = b
 generalize 2 ^ (k % 32) = c
 congr 1
 simp only [Nat.mul_left_comm, Nat.mul_comm]
/-- A number's limb is laid into shifted ones. -/
theorem wide_law {ws xs : List Int} {i k x p : Nat} (hw : Dig 4294967296 ws) (hx : Dig 4294967296 xs) (hl : i + k / 32 + 1 < ws.length) (h : num 4294967296 ws = num 4294967296 (xs.take i) * 2 ^ k)
  (hxi : xs[i]?.getD 0 = (x : Int)) (hp : ws[i + k / 32]?.getD 0 = (p : Int)) :
  p < 2 ^ (k % 32) ∧ ws[i + k / 32 + 1]?.getD 0 = 0 ∧ p + x * 2 ^ (k % 32) % 4294967296 < 4294967296 ∧ x * 2 ^ (k % 32) / 4294967296 < 4294967296 ∧
   Dig 4294967296 ((ws.set (i + k / 32) ((p + x * 2 ^ (k % 32) % 4294967296 : Nat) : Int)).set (i + k / 32 + 1) ((x * 2 ^ (k % 32) / 4294967296 : Nat) : Int)) ∧
   num 4294967296 ((ws.set (i + k / 32) ((p + x * 2 ^ (k % 32) % 4294967296 : Nat) : Int)).set (i + k / 32 + 1) ((x * 2 ^ (k % 32) / 4294967296 : Nat) : Int)) = num 4294967296 (xs.take (i + 1)) * 2 ^ k := by
 have hx2 : x < 4294967296 := by
  obtain ⟨d, hd, hlt⟩ := dig_get (by decide) hx i
  rw [hxi] at hd
  rw [Int.ofNat.inj hd]
  exact hlt
 have hr : k % 32 < 32 := Nat.mod_lt _ (by decide)
 have hb := wide_bound hx h
 have h1 := wide_p hw hb hp
 have h2 := wide_z hr hw hb
 have h3 := wide_sum (x := x) hr h1
 have h4 := wide_hi hr hx2
 refine ⟨h1, h2, h3, h4, dig_set (dig_set hw _ _ h3) _ _ h4, ?_⟩
 rw [wide_num 4294967296 hl hp h2, wide_next h hxi, Nat.mod_add_div]
/-- A limb of a difference, in place: d is it, c2 what is borrowed. -/
theorem diff_law {B : Nat} {cur us vs : List Int} {i c u v d c2 : Nat} (hl : i < cur.length) (h : num B (us.take i) + B ^ i * c = num B (cur.take i) + num B (vs.take i)) (hu : us[i]?.getD 0 = (u : Int)) (hv : vs[i]?.getD 0 = (v : Int)) (hd : u + B * c2 = d + v + c) :
  num B (us.take (i + 1)) + B ^ (i + 1) * c2 = num B ((cur.set i ((d : Nat) : Int)).take (i + 1)) + num B (vs.take (i + 1)) := by
 rw [set_take _ _ _ _ hl, take_next, take_next, hu, hv]
 simp only [Int.toNat_natCast, Nat.pow_succ]
 have e : B ^ i * u + B ^ i * B * c2 = B ^ i * d + B ^ i * v + B ^ i * c := by
  rw [Nat.mul_assoc, ← Nat.mul_add, hd, Nat.mul_add, Nat.mul_add]
 omega
theorem diff_end {B N : Nat} {cur us vs : List Int} {c : Nat} (hB : 0 < B) (hdc : Dig B cur) (hc : cur.length = N) (hu : us.length = N) (hv : vs.length = N) (h : num B (us.take N) + B ^ N * c = num B (cur.take N) + num B (vs.take N)) (hb : num B vs ≤ num B us) : num B cur = num B us - num B vs := by
 rw [List.take_of_length_le (by omega), List.take_of_length_le (by omega), List.take_of_length_le (by omega)] at h
 rcases Nat.eq_zero_or_pos c with h0 | h0
 · subst h0; omega
 · have h1 : B ^ N * 1 ≤ B ^ N * c := Nat.mul_le_mul_left _ h0
   have h2 := num_lt B hB cur hdc
   rw [hc] at h2
   omega
/-- How two stand is told by the highest limb that differs. -/
theorem less_by {B : Nat} (hB : 0 < B) {xs ys : List Int} {i : Nat} (hdx : Dig B xs) (heq : xs.drop (i + 1) = ys.drop (i + 1)) (hlt : (xs[i]?.getD 0).toNat < (ys[i]?.getD 0).toNat) : num B xs < num B ys := by
 rw [split_ B xs (i + 1), split_ B ys (i + 1), heq, take_next, take_next]
 have h1 := take_lt hB hdx i
 have h2 : B ^ i * (xs[i]?.getD 0).toNat + B ^ i ≤ B ^ i * (ys[i]?.getD 0).toNat := by
  rw [← Nat.mul_succ]
  exact Nat.mul_le_mul_left _ hlt
 omega
theorem drop_eq {xs ys : List Int} {i : Nat} (hx : i < xs.length) (hy : i < ys.length) (h : xs.drop (i + 1) = ys.drop (i + 1)) (he : xs[i]?.getD 0 = ys[i]?.getD 0) : xs.drop i = ys.drop i := by
 rw [List.drop_eq_getElem_cons hx, List.drop_eq_getElem_cons hy, h]
 rw [List.getElem?_eq_getElem hx, List.getElem?_eq_getElem hy] at he
 simp only [Option.getD_some] at he
 rw [he]
/-! ### The lowest and the highest bit -/
/-- low is how many of P's lowest bits are 0, high how many bits P has; both 0, if P is. -/
def LoHi (P low high : Nat) : Prop := (P = 0 ∧ low = 0 ∧ high = 0) ∨ (0 < high ∧ 2 ^ (high - 1) ≤ P ∧ P < 2 ^ high ∧ ∃ q, P = 2 ^ low * (2 * q + 1))
theorem ends_zero : LoHi 0 0 0 := .inl ⟨rfl, rfl, rfl⟩
theorem ends_high {P low high i x n t : Nat} (h : LoHi P low high) (hP : P < 4294967296 ^ i) (hn1 : 2 ^ (n - 1) ≤ x) (hn2 : x < 2 ^ n) (hn : 0 < n) (ht : ∃ q, x = 2 ^ t * (2 * q + 1)) :
  LoHi (P + 4294967296 ^ i * x) (if high = 0 then 32 * i + t else low) (32 * i + n) := by
 rw [pow32] at hP ⊢
 have hb : 2 ^ (32 * i) * x + 2 ^ (32 * i) ≤ 2 ^ (32 * i + n) := by
  rw [Nat.pow_add, ← Nat.mul_succ]
  exact Nat.mul_le_mul_left _ hn2
 have ha : 2 ^ (32 * i + n - 1) ≤ 2 ^ (32 * i) * x := by
  rw [show 32 * i + n - 1 = 32 * i + (n - 1) by omega, Nat.pow_add]
  exact Nat.mul_le_mul_left _ hn1
 refine .inr ⟨by omega, by omega, by omega, ?_⟩
 rcases h with ⟨rfl, rfl, rfl⟩ | ⟨h1, h2, h3, q, h4⟩
 · obtain ⟨q, hq⟩ := ht
   refine ⟨q, ?_⟩
   rw [if_pos rfl, Nat.pow_add, Nat.mul_assoc, ← hq]
   omega
 · rw [if_neg (by omega)]
   have hlow : low < 32 * i := by
    have h5 : 2 ^ low < 2 ^ (32 * i) := by
     have : 2 ^ low * 1 ≤ 2 ^ low * (2 * q + 1) := Nat.mul_le_mul_left _ (by omega)
     omega
    exact (Nat.pow_lt_pow_iff_right (by decide)).1 h5
   refine ⟨q + 2 ^ (32 * i - low - 1) * x, ?_⟩
   rw [show 32 * i = low + 1 + (32 * i - low - 1) by omega, Nat.pow_add, Nat.pow_succ, h4]
   rw [show low + 1 + (32 * i - low - 1) - low - 1 = 32 * i - low - 1 by omega]
   generalize 2 ^ (32 * i - low - 1) = b
   have e : 2 ^ low * (2 * (q + b * x) + 1) = 2 ^ low * (2 * q + 1) + 2 ^ low * 2 * b * x := by
    rw [show 2 * (q + b * x) + 1 = (2 * q + 1) + 2 * b * x by rw [Nat.mul_add, Nat.mul_assoc]; omega, Nat.mul_add]
    congr 1
    simp only [Nat.mul_assoc]
   omega
/-- What the form of a number is, by its lowest and highest bit. -/
theorem form_law {s : Bool} {P low high k : Nat} (h : LoHi P low high) (h0 : high ≠ 0) :
  min low k < high ∧ P / 2 ^ min low k < 2 ^ (high - min low k) ∧ 2 ^ (high - min low k - 1) ≤ P / 2 ^ min low k ∧
  formed s P k = if high - min low k ≤ 1280 ∧ k - min low k ≤ 1024 then (⟨s, P / 2 ^ min low k, k - min low k⟩, 0) else (Dn.zero, 10) := by
 rcases h with ⟨_, _, h⟩ | ⟨h1, h2, h3, q, h4⟩
 · exact absurd h h0
 · have hp : 0 < 2 ^ min low k := Nat.pow_pos (by decide)
   have hlow : low < high := by
    have h5 : 2 ^ low < 2 ^ high := by
     have : 2 ^ low * 1 ≤ 2 ^ low * (2 * q + 1) := Nat.mul_le_mul_left _ (by omega)
     omega
    exact (Nat.pow_lt_pow_iff_right (by decide)).1 h5
   have hl : min low k < high := by omega
   have eP : P = (2 ^ (low - min low k) * (2 * q + 1)) * 2 ^ min low k := by
    rw [h4, Nat.mul_comm _ (2 ^ min low k), ← Nat.mul_assoc, ← Nat.pow_add, show min low k + (low - min low k) = low by omega]
   have ed : P / 2 ^ min low k = 2 ^ (low - min low k) * (2 * q + 1) := by
    conv => lhs; rw [eP]
    exact Nat.mul_div_cancel _ hp
   have hst := strip_of k (min low k) (2 ^ (low - min low k) * (2 * q + 1)) (by omega) (by
    by_cases hk : min low k = k
    · exact .inl hk
    · right
      rw [show low - min low k = 0 by omega]
      omega)
   rw [← eP] at hst
   have u1 : P / 2 ^ min low k < 2 ^ (high - min low k) := Nat.div_lt_of_lt_mul (by rw [← Nat.pow_add, show min low k + (high - min low k) = high by omega]; exact h3)
   have u2 : 2 ^ (high - min low k - 1) ≤ P / 2 ^ min low k := (Nat.le_div_iff_mul_le hp).2 (by rw [← Nat.pow_add, show high - min low k - 1 + min low k = high - 1 by omega]; exact h2)
   refine ⟨hl, u1, u2, ?_⟩
   have hP0 : P ≠ 0 := by
    have : 0 < 2 ^ (high - 1) := Nat.pow_pos (by decide)
    omega
   unfold formed
   rw [if_neg hP0, hst, ed]
   simp only
   rw [← ed]
   have hc : P / 2 ^ min low k < capD ↔ high - min low k ≤ 1280 := by
    constructor
    · intro h
      rcases Nat.lt_or_ge 1280 (high - min low k) with h6 | h6
      · exfalso
        have h7 : 2 ^ capE ≤ 2 ^ (high - min low k - 1) := Nat.pow_le_pow_right (by decide) (by rw [capE_eq]; omega)
        rw [capD_eq] at h
        omega
      · exact h6
    · intro h
      exact capD_gt u1 h
   simp only [hc]
/-! ### Raw dyads -/
def MayL (xs : List Int) : Prop := xs.length ≤ 40 ∧ Cutd xs
def MayD (s : Bool) (xs : List Int) (e : Int) : Prop := MayL xs ∧ 0 ≤ e ∧ e ≤ 1024 ∧ (xs = [] → e = 0 ∧ s = false) ∧ (xs ≠ [] → 0 < e → xs[0]?.getD 0 % 2 = 1)
theorem num_odd (l : List Int) (hd : Dig 4294967296 l) : ((num 4294967296 l % 2 : Nat) : Int) = l[0]?.getD 0 % 2 := by
 cases l with
 | nil => rfl
 | cons x l =>
  have := hd x (by simp)
  simp only [num, List.getElem?_cons_zero, Option.getD_some]
  omega
theorem capD_of {k : Nat} (h : 32 * k = capE) : 4294967296 ^ k = capD := by rw [pow32, capD_eq, h]
theorem capD_40 : capD = 4294967296 ^ 40 := (capD_of rfl).symm
theorem may_dn {s : Bool} {xs : List Int} {e : Int} (hd : Dig 4294967296 xs) (h : MayD s xs e) : Dn.May ⟨s, num 4294967296 xs, e.toNat⟩ ∧ canon 4294967296 (num 4294967296 xs) = xs := by
 obtain ⟨⟨h1, h2⟩, h3, h4, h5, h6⟩ := h
 have hc := canon_of (by decide) hd h2 rfl
 have hz : num 4294967296 xs = 0 → xs = [] := fun h0 => by rw [h0, canon_zero] at hc; exact hc
 have hne : xs = [] → num 4294967296 xs = 0 := fun h0 => by rw [h0]; rfl
 refine ⟨⟨?_, ?_, fun h0 => ?_, fun h0 => ?_⟩, hc.symm⟩
 · show num 4294967296 xs < capD
   have := num_lt 4294967296 (by decide) xs hd
   rw [capD_40]
   exact Nat.lt_of_lt_of_le this (Nat.pow_le_pow_right (by decide) h1)
 · show e.toNat ≤ 1024
   omega
 · have h7 := h5 (hz h0)
   exact ⟨by show e.toNat = 0; omega, h7.2⟩
 · have h0' : 0 < e := by have : 0 < e.toNat := h0; omega
   have h7 : xs ≠ [] := fun h8 => by have := (h5 h8).1; omega
   have h8 := h6 h7 h0'
   have h9 := num_odd xs hd
   show num 4294967296 xs % 2 = 1
   omega
theorem dn_may {d : Dn} (h : d.May) : MayD d.neg (canon 4294967296 d.m) d.e := by
 obtain ⟨h1, h2, h3, h4⟩ := h
 obtain ⟨c1, c2, c3⟩ := canon_spec 4294967296 d.m (by decide)
 have hl := canon_len (B := 4294967296) (n := d.m) (k := 40) (by decide) (by rw [← capD_40]; exact h1)
 refine ⟨⟨hl, c2⟩, by omega, by omega, fun h0 => ?_, fun _ h0 => ?_⟩
 · have := h3 (canon_nil (by decide) h0)
   exact ⟨by omega, this.2⟩
 · have h5 := num_odd _ c1
   rw [c3] at h5
   have := h4 (by omega)
   omega
end Dp
end Go.Proofs.YtmbppgjhdcmckaaGreatDoor
namespace Go.Proofs.YtmbppgjhdcmckaaGreatDoor
namespace Dp
open Dy
theorem div_bit (X i : Nat) : X / 2 ^ i = 2 * (X / 2 ^ (i + 1)) + X / 2 ^ i % 2 := by
 rw [Nat.pow_succ, ← Nat.div_div_eq_div_mul]
 omega
theorem div_next {H y d : Nat} (hy : 0 < y) (hd : d ≤ 1) :
  (y ≤ 2 * (H % y) + d → (2 * H + d) % y = 2 * (H % y) + d - y ∧ (2 * H + d) / y = 2 * (H / y) + 1) ∧
  (2 * (H % y) + d < y → (2 * H + d) % y = 2 * (H % y) + d ∧ (2 * H + d) / y = 2 * (H / y)) := by
 have h1 := Nat.div_add_mod H y
 have h2 := Nat.mod_lt H hy
 generalize H % y = r at *
 generalize H / y = q at *
 have m : y * (2 * q) = 2 * (y * q) := Nat.mul_left_comm ..
 constructor
 · intro h
   have e : 2 * H + d = (2 * r + d - y) + y * (2 * q + 1) := by
    rw [Nat.mul_add, Nat.mul_one, m]
    omega
   rw [e, Nat.add_mul_mod_self_left, Nat.add_mul_div_left _ _ hy, Nat.mod_eq_of_lt (by omega), Nat.div_eq_of_lt (by omega)]
   exact ⟨rfl, by omega⟩
 · intro h
   have e : 2 * H + d = (2 * r + d) + y * (2 * q) := by
    rw [m]
    omega
   rw [e, Nat.add_mul_mod_self_left, Nat.add_mul_div_left _ _ hy, Nat.mod_eq_of_lt h, Nat.div_eq_of_lt h]
   exact ⟨rfl, by omega⟩
/-- A limb out of a number. -/
theorem limb_at {l : List Int} (hd : Dig 4294967296 l) {j p : Nat} (hp : l[j]?.getD 0 = (p : Int)) : num 4294967296 l / 4294967296 ^ j % 4294967296 = p := by
 have hs := num_split 4294967296 l j
 have hlt := take_lt (B := 4294967296) (by decide) hd j
 have h0 : 0 < 4294967296 ^ j := Nat.pow_pos (by decide)
 rw [hs, Nat.add_mul_div_left _ _ h0, Nat.div_eq_of_lt hlt, Nat.zero_add]
 have hp2 : p < 4294967296 := by
  obtain ⟨d, h1, h2⟩ := dig_get (by decide) hd j
  omega
 cases hdr : l.drop j with
 | nil =>
  have : l[j]?.getD 0 = 0 := by
   rw [List.getElem?_eq_none (by have := congrArg List.length hdr; simp at this; omega)]
   rfl
  have hp0 : p = 0 := by omega
  rw [hp0]
  rfl
 | cons a t =>
  have ha : l[j]? = some a := by
   have := congrArg (fun k => k[0]?) hdr
   simpa using this
  have hap : a.toNat = p := by
   rw [ha] at hp
   simp only [Option.getD_some] at hp
   omega
  simp only [num, hap]
  omega
theorem quo_bit {qs : List Int} {i d p Q : Nat} (hd : Dig 4294967296 qs) (hl : i / 32 < qs.length) (hm : num 4294967296 qs = 2 ^ (i + 1) * Q) (hd1 : d ≤ 1) (hp : qs[i / 32]?.getD 0 = (p : Int)) :
  p % 2 ^ (i % 32 + 1) = 0 ∧ p + d * 2 ^ (i % 32) < 4294967296 ∧ Dig 4294967296 (qs.set (i / 32) ((p + d * 2 ^ (i % 32) : Nat) : Int)) ∧ num 4294967296 (qs.set (i / 32) ((p + d * 2 ^ (i % 32) : Nat) : Int)) = 2 ^ i * (2 * Q + d) := by
 have h1 := limb_at hd hp
 have e0 : 4294967296 ^ (i / 32) = 2 ^ (32 * (i / 32)) := by rw [Nat.pow_mul]
 have hi : i = 32 * (i / 32) + i % 32 := (Nat.div_add_mod i 32).symm
 have hr : i % 32 < 32 := Nat.mod_lt _ (by decide)
 have e1 : 2 ^ (i + 1) = 2 ^ (32 * (i / 32)) * 2 ^ (i % 32 + 1) := by
  rw [← Nat.pow_add]
  congr 1
  omega
 have e2 : 2 ^ i = 2 ^ (32 * (i / 32)) * 2 ^ (i % 32) := by
  rw [← Nat.pow_add]
  congr 1
 have hb : (4294967296 : Nat) = 2 ^ (i % 32 + 1) * 2 ^ (31 - i % 32) := by
  rw [← Nat.pow_add, show i % 32 + 1 + (31 - i % 32) = 32 by omega]
 have hpm : p % 2 ^ (i % 32 + 1) = 0 := by
  rw [← h1, hm, e0, e1, Nat.mul_assoc, Nat.mul_div_cancel_left _ (Nat.pow_pos (by decide))]
  conv => lhs; lhs; rw [hb]
  rw [Nat.mul_mod_mul_left]
  exact Nat.mul_mod_right _ _
 have hp2 : p < 4294967296 := by
  obtain ⟨d', h1, h2⟩ := dig_get (by decide) hd (i / 32)
  omega
 have hpl : p + 2 ^ (i % 32 + 1) ≤ 4294967296 := by
  obtain ⟨c, hc⟩ : ∃ c, p = 2 ^ (i % 32 + 1) * c := ⟨p / 2 ^ (i % 32 + 1), by have := Nat.div_add_mod p (2 ^ (i % 32 + 1)); omega⟩
  have hc2 : c < 2 ^ (31 - i % 32) := by
   refine Nat.lt_of_mul_lt_mul_left (a := 2 ^ (i % 32 + 1)) ?_
   rw [← hc, ← hb]
   exact hp2
  calc p + 2 ^ (i % 32 + 1) = 2 ^ (i % 32 + 1) * (c + 1) := by rw [hc, Nat.mul_succ]
   _ ≤ 2 ^ (i % 32 + 1) * 2 ^ (31 - i % 32) := Nat.mul_le_mul_left _ hc2
   _ = 4294967296 := hb.symm
 have hps : 2 ^ (i % 32 + 1) = 2 * 2 ^ (i % 32) := by rw [Nat.pow_succ]; omega
 have hpos : 0 < 2 ^ (i % 32) := Nat.pow_pos (by decide)
 have hlt : p + d * 2 ^ (i % 32) < 4294967296 := by
  have : d * 2 ^ (i % 32) ≤ 1 * 2 ^ (i % 32) := Nat.mul_le_mul_right _ hd1
  omega
 refine ⟨hpm, hlt, dig_set hd _ _ hlt, ?_⟩
 have hs := set_num 4294967296 qs (i / 32) ((p + d * 2 ^ (i % 32) : Nat) : Int) hl
 rw [hp, Int.toNat_natCast, Int.toNat_natCast, hm, Nat.mul_add] at hs
 have e3 : 2 ^ i * (2 * Q + d) = 2 ^ (i + 1) * Q + 4294967296 ^ (i / 32) * (d * 2 ^ (i % 32)) := by
  rw [Nat.mul_add, ← Nat.mul_assoc, ← Nat.pow_succ, e0, e2, Nat.mul_assoc, Nat.mul_comm d]
 rw [e3]
 omega
/-- A number doubled, and one more bit. -/
theorem shl_step {xs ys : List Int} {i c d x : Nat} (hx : xs[i]?.getD 0 = (x : Int)) (hx2 : x < 4294967296) (hc : c ≤ 1) (h : num 4294967296 (ys.take i) + 4294967296 ^ i * c = 2 * num 4294967296 (xs.take i) + d) (hl : i < ys.length) :
  2 * x % 4294967296 + c < 4294967296 ∧ x / 2147483648 ≤ 1 ∧ num 4294967296 ((ys.set i ((2 * x % 4294967296 + c : Nat) : Int)).take (i + 1)) + 4294967296 ^ (i + 1) * (x / 2147483648) = 2 * num 4294967296 (xs.take (i + 1)) + d := by
 refine ⟨by omega, by omega, ?_⟩
 obtain ⟨v, hv⟩ : ∃ v, 2 * x % 4294967296 + c = v := ⟨_, rfl⟩
 obtain ⟨t, ht⟩ : ∃ t, x / 2147483648 = t := ⟨_, rfl⟩
 rw [hv, ht, set_take _ _ _ _ hl, Int.toNat_natCast, take_num, hx, Int.toNat_natCast, Nat.pow_succ]
 generalize 4294967296 ^ i = b at *
 have e : b * v + b * 4294967296 * t = b * c + 2 * (b * x) := by
  rw [Nat.mul_assoc, ← Nat.mul_add, Nat.mul_left_comm 2 b x, ← Nat.mul_add]
  congr 1
  omega
 rw [Nat.mul_add 2]
 omega
/-- How many bits a number has. -/
def IsLen (N n : Nat) : Prop := (N = 0 ∧ n = 0) ∨ (0 < n ∧ 2 ^ (n - 1) ≤ N ∧ N < 2 ^ n)
theorem IsLen.uniq {N a b : Nat} (h : IsLen N a) (k : IsLen N b) : a = b := by
 rcases h with ⟨h1, h2⟩ | ⟨h1, h2, h3⟩ <;> rcases k with ⟨k1, k2⟩ | ⟨k1, k2, k3⟩
 · omega
 · have := Nat.pow_pos (n := b - 1) (show 0 < 2 by decide)
   omega
 · have := Nat.pow_pos (n := a - 1) (show 0 < 2 by decide)
   omega
 · rcases Nat.lt_trichotomy a b with h | h | h
   · have := Nat.pow_le_pow_right (show 0 < 2 by decide) (show a ≤ b - 1 by omega)
     omega
   · exact h
   · have := Nat.pow_le_pow_right (show 0 < 2 by decide) (show b ≤ a - 1 by omega)
     omega
theorem drop_one (B : Nat) {l : List Int} {k : Nat} (hk : k < l.length) : num B (l.drop k) = (l[k]?.getD 0).toNat + B * num B (l.drop (k + 1)) := by
 rw [List.drop_eq_getElem_cons hk]
 simp [num, List.getElem?_eq_getElem hk]
theorem len_top {l : List Int} {k x n : Nat} (hd : Dig 4294967296 l) (hk : k < l.length) (h0 : num 4294967296 (l.drop (k + 1)) = 0) (hx : l[k]?.getD 0 = (x : Int)) (h1 : 0 < n) (h2 : 2 ^ (n - 1) ≤ x) (h3 : x < 2 ^ n) : IsLen (num 4294967296 l) (32 * k + n) := by
 have hs := num_split 4294967296 l k
 have hl := take_lt (B := 4294967296) (by decide) hd k
 rw [drop_one _ hk, h0, hx, Int.toNat_natCast, Nat.mul_zero, Nat.add_zero] at hs
 have e : (4294967296 : Nat) ^ k = 2 ^ (32 * k) := by rw [Nat.pow_mul]
 rw [e] at hs hl
 refine .inr ⟨by omega, ?_, ?_⟩
 · have e2 : 2 ^ (32 * k + n - 1) = 2 ^ (32 * k) * 2 ^ (n - 1) := by
     rw [← Nat.pow_add]
     congr 1
     omega
   have := Nat.mul_le_mul_left (2 ^ (32 * k)) h2
   omega
 · have e2 : 2 ^ (32 * k + n) = 2 ^ (32 * k) * 2 ^ n := Nat.pow_add ..
   have := Nat.mul_le_mul_left (2 ^ (32 * k)) (show x + 1 ≤ 2 ^ n from h3)
   rw [Nat.mul_succ] at this
   omega
theorem len_none {l : List Int} {k x : Nat} (hk : k < l.length) (h0 : num 4294967296 (l.drop (k + 1)) = 0) (hx : l[k]?.getD 0 = (x : Int)) (hx0 : x = 0) : num 4294967296 (l.drop k) = 0 := by
 rw [drop_one _ hk, h0, hx, hx0]
 rfl
/-- One more. -/
theorem one_step {ws : List Int} {i x : Nat} (hl : i < ws.length) (hx : ws[i]?.getD 0 = (x : Int)) (v : Nat) (hv : num 4294967296 ws + 4294967296 ^ i = v) :
  (x + 1 < 4294967296 → num 4294967296 (ws.set i ((x + 1 : Nat) : Int)) = v) ∧ (x + 1 = 4294967296 → num 4294967296 (ws.set i (0 : Int)) + 4294967296 ^ (i + 1) = v) := by
 constructor
 · intro h
   have hs := set_num 4294967296 ws i ((x + 1 : Nat) : Int) hl
   rw [hx, Int.toNat_natCast, Int.toNat_natCast, Nat.mul_succ] at hs
   omega
 · intro h
   have hs := set_num 4294967296 ws i (0 : Int) hl
   rw [hx, Int.toNat_natCast] at hs
   have e : 4294967296 ^ (i + 1) = 4294967296 ^ i * x + 4294967296 ^ i := by rw [Nat.pow_succ, ← h, Nat.mul_succ]
   simp only [Int.toNat_zero, Nat.mul_zero, Nat.add_zero] at hs
   omega
/-- The quotient of two numbers in parts of 2^-k, rounded to 0, and what is left. -/
def quoN (a b : Dn) (k : Nat) : Nat × Nat := (a.m * 2 ^ (b.e + k) / (b.m * 2 ^ a.e), a.m * 2 ^ (b.e + k) % (b.m * 2 ^ a.e))
/-- The quotient, rounded away from 0, or to it. -/
def toD (a b : Dn) (k : Nat) (away : Bool) : Dn × Int := formed a.neg ((quoN a b k).1 + if (quoN a b k).2 ≠ 0 ∧ away = true then 1 else 0) k
def nearD (a b : Dn) : Dn × Int :=
 formed a.neg ((quoN a b 1).1 / 2 + if (quoN a b 1).1 % 2 = 1 ∧ (a.neg = false ∨ (quoN a b 1).2 ≠ 0) then 1 else 0) 0
/-- Both shifted alike. -/
theorem quo_shift (X y t : Nat) : X * 2 ^ t / (y * 2 ^ t) = X / y ∧ (X * 2 ^ t % (y * 2 ^ t) = 0 ↔ X % y = 0) := by
 refine ⟨Nat.mul_div_mul_right _ _ (Nat.pow_pos (by decide)), ?_⟩
 rw [Nat.mul_mod_mul_right]
 have : 0 < 2 ^ t := Nat.pow_pos (by decide)
 constructor
 · intro h
   exact (Nat.mul_eq_zero.1 h).resolve_right (by omega)
 · intro h
   rw [h, Nat.zero_mul]
end Dp
end Go.Proofs.YtmbppgjhdcmckaaGreatDoor
namespace Go.Proofs.YtmbppgjhdcmckaaGreatDoor
open Go.RowKit
namespace Dy
theorem ret_two {k l : IntKind} {a b c d : Int} (h : a = c) (h' : b = d) : Ending.returned (.tuple #[.int k a, .int l b]) = .returned (.tuple #[.int k c, .int l d]) := by rw [h, h']
theorem top_and (a b : Nat) : (a &&& b) / 2147483648 = (a / 2147483648) &&& (b / 2147483648) := by
 have := Nat.shiftRight_and_distrib (a := a) (b := b) (i := 31)
 simpa [Nat.shiftRight_eq_div_pow] using this
theorem top_or (a b : Nat) : (a ||| b) / 2147483648 = (a / 2147483648) ||| (b / 2147483648) := by
 have := Nat.shiftRight_or_distrib (a := a) (b := b) (i := 31)
 simpa [Nat.shiftRight_eq_div_pow] using this
theorem top_xor (a b : Nat) : (a ^^^ b) / 2147483648 = (a / 2147483648) ^^^ (b / 2147483648) := by
 have := Nat.shiftRight_xor_distrib (a := a) (b := b) (i := 31)
 simpa [Nat.shiftRight_eq_div_pow] using this
theorem borrow_law (x y d c b : Nat) (hx : x < 4294967296) (hy : y < 4294967296) (hd : d < 4294967296) (hc : c ≤ 1) (hb : b ≤ 1) (h : x + 4294967296 * b = d + y + c) :
  (((4294967295 ^^^ x) &&& y) ||| ((4294967295 ^^^ (x ^^^ y)) &&& d)) / 2147483648 = b := by
 have ex : x / 2147483648 = 0 ∨ x / 2147483648 = 1 := by omega
 have ey : y / 2147483648 = 0 ∨ y / 2147483648 = 1 := by omega
 have ed : d / 2147483648 = 0 ∨ d / 2147483648 = 1 := by omega
 rw [top_or, top_and, top_and, top_xor, top_xor, top_xor]
 rcases ex with ex | ex <;> rcases ey with ey | ey <;> rcases ed with ed | ed <;> rw [ex, ey, ed] <;> simp <;> omega
theorem bits_lt {a b : Nat} (ha : a < 4294967296) (hb : b < 4294967296) : a &&& b < 4294967296 ∧ a ||| b < 4294967296 ∧ a ^^^ b < 4294967296 :=
 ⟨Nat.and_lt_two_pow (n := 32) _ hb, Nat.or_lt_two_pow (n := 32) ha hb, Nat.xor_lt_two_pow (n := 32) ha hb⟩
theorem u32_max : IntKind.u32.max = ((4294967295 : Nat) : Int) := by decide
theorem borrow_bits (x y d c b : Nat) (hx : x < 4294967296) (hy : y < 4294967296) (hd : d < 4294967296) (hc : c ≤ 1) (hb : b ≤ 1) (h : x + 4294967296 * b = d + y + c) :
  bits .or .u32 (bits .and .u32 (bits .xor .u32 IntKind.u32.max (x : Int)) (y : Int)) (bits .and .u32 (bits .xor .u32 IntKind.u32.max (bits .xor .u32 (x : Int) (y : Int))) (((x : Int) - y - c) % 4294967296)) / 2147483648 = (b : Int) := by
 have e1 : ((x : Int) - y - c) % 4294967296 = (d : Int) := by omega
 have h4 : (4294967295 : Nat) < 4294967296 := by decide
 rw [e1, u32_max, u32_xor_nat _ _ h4 hx, u32_xor_nat _ _ hx hy, u32_xor_nat _ _ h4 (bits_lt hx hy).2.2, u32_and_nat _ _ (bits_lt h4 hx).2.2 hy, u32_and_nat _ _ (bits_lt h4 (bits_lt hx hy).2.2).2.2 hd,
  u32_or_nat _ _ (bits_lt (bits_lt h4 hx).2.2 hy).1 (bits_lt (bits_lt h4 (bits_lt hx hy).2.2).2.2 hd).1]
 have := borrow_law x y d c b hx hy hd hc hb h
 omega
set_option maxRecDepth 100000 in
/-- bits.Sub32. -/
theorem Sub32_any (w : World) (x y c d b : Nat) (hx : x < 4294967296) (hy : y < 4294967296) (hd : d < 4294967296) (hc : c ≤ 1) (hb : b ≤ 1) (h : x + 4294967296 * b = d + y + c) :
  Calls Tryz.prog 209 #[.int .u32 x, .int .u32 y, .int .u32 c] w fun e w' => e = .returned (.tuple #[.int .u32 d, .int .u32 b]) ∧ w' = w := by
 have H := Lib.hid (borrow_bits x y d c b hx hy hd hc hb h)
 have HD := Lib.hid h
 clear h
 go_enter Tryz.func209, Tryz.ntmps209
 go_wp2
 go_ret2
 exact ⟨ret_two (by have := HD.out; omega) H.out, rfl⟩
theorem tab_size : (Lib.len8tab.size : Int) = 256 := by decide +kernel
theorem tab_at : ∀ n : Fin 256, (Lib.len8tab[n.val]'(by have : Lib.len8tab.size = 256 := by decide +kernel
                                                        omega)).toNat = Lib.bitLen n.val := by decide +kernel
theorem tab_int (z : Int) (h0 : 0 ≤ z) (h1 : z < 256) (h : z.toNat < Lib.len8tab.size) : (Lib.len8tab[z.toNat]'h).toNat = Lib.bitLen z.toNat := tab_at ⟨z.toNat, by omega⟩
theorem tab_wrap (z k : Int) (h0 : 0 ≤ z) (h1 : z < 256) (k0 : 0 ≤ k) (k1 : k ≤ 24) (h : z.toNat < Lib.len8tab.size) : wrap64 (k + wrap64 ((Lib.len8tab[z.toNat]'h).toNat : Int)) = k + (Lib.bitLen z.toNat : Int) := by
 rw [tab_int z h0 h1 h]
 have := Lib.bitLen_le8' z h0 (by omega)
 unfold wrap64
 omega
set_option maxHeartbeats 4000000 in
set_option maxRecDepth 100000 in
/-- bits.Len32. -/
theorem Len32_any (w : World) (x : Int) (h0 : 0 ≤ x) (h1 : x ≤ 4294967295) :
  Calls Tryz.prog 179 #[.int .u32 x] w fun e w' => e = .returned (.int .i64 (Lib.bitLen x.toNat)) ∧ w' = w := by
 have hs := tab_size
 by_cases c1 : 65536 ≤ x
 · by_cases c2 : 16777216 ≤ x
   · have d1 : 256 ≤ x / 65536 := by omega
     have d2 : x / 65536 / 256 ≤ 255 := by omega
     have d3 : x / 65536 / 256 < (Lib.len8tab.size : Int) := by omega
     have hb : Hid ((Lib.bitLen x.toNat : Int) = 24 + (Lib.bitLen (x / 65536 / 256).toNat : Int)) := by
      have s := Lib.bitLen_shift24 x.toNat (by omega) (by omega)
      have e : (x / 65536 / 256).toNat = x.toNat / 16777216 := by omega
      rw [Hid, e]
      omega
     clear hs
     go_enter Tryz.func179, Tryz.ntmps179
     go_wp2
     go_ret
     exact ⟨ret_int (by rw [hb.out]; exact tab_wrap _ 24 (by omega) (by omega) (by omega) (by omega) _), rfl⟩
   · have d1 : x / 65536 < 256 := by omega
     have d2 : 0 ≤ x / 65536 := by omega
     have d3 : x / 65536 < (Lib.len8tab.size : Int) := by omega
     have hb : Hid ((Lib.bitLen x.toNat : Int) = 16 + (Lib.bitLen (x / 65536).toNat : Int)) := by
      have s := Lib.bitLen_shift16 x.toNat (by omega) (by omega)
      have e : (x / 65536).toNat = x.toNat / 65536 := by omega
      rw [Hid, e]
      omega
     clear hs
     go_enter Tryz.func179, Tryz.ntmps179
     go_wp2
     go_ret
     exact ⟨ret_int (by rw [hb.out]; exact tab_wrap _ 16 (by omega) (by omega) (by omega) (by omega) _), rfl⟩
 · by_cases c2 : 256 ≤ x
   · have d1 : x / 256 < 256 := by omega
     have d2 : 0 ≤ x / 256 := by omega
     have d3 : x / 256 < (Lib.len8tab.size : Int) := by omega
     have hb : Hid ((Lib.bitLen x.toNat : Int) = 8 + (Lib.bitLen (x / 256).toNat : Int)) := by
      have s := Lib.bitLen_shift8 x.toNat (by omega) (by omega)
      have e : (x / 256).toNat = x.toNat / 256 := by omega
      rw [Hid, e]
      omega
     clear hs
     go_enter Tryz.func179, Tryz.ntmps179
     go_wp2
     go_ret
     exact ⟨ret_int (by rw [hb.out]; exact tab_wrap _ 8 (by omega) (by omega) (by omega) (by omega) _), rfl⟩
   · have d1 : x < 256 := by omega
     have d3 : x < (Lib.len8tab.size : Int) := by omega
     clear hs
     go_enter Tryz.func179, Tryz.ntmps179
     go_wp2
     go_ret
     exact ⟨ret_int (by
      have := tab_wrap x 0 h0 d1 (by omega) (by omega) (by have := tab_size; omega)
      rw [Int.zero_add, Int.zero_add] at this
      rw [this]), rfl⟩
theorem len_aux : ∀ (f x : Nat), x ≠ 0 → x < 2 ^ f → 0 < Lib.bitLenAux f x ∧ 2 ^ (Lib.bitLenAux f x - 1) ≤ x ∧ x < 2 ^ Lib.bitLenAux f x ∧ Lib.bitLenAux f x ≤ f
 | 0, x, h0, h => by
  have : x < 1 := h
  omega
 | f + 1, x, h0, h => by
  have e : Lib.bitLenAux (f + 1) x = 1 + Lib.bitLenAux f (x / 2) := by simp [Lib.bitLenAux, h0]
  rw [e]
  by_cases h1 : x / 2 = 0
  · have e1 : Lib.bitLenAux f (x / 2) = 0 := by rw [h1]; cases f <;> simp [Lib.bitLenAux]
    rw [e1]
    exact ⟨by omega, by simpa using (show 1 ≤ x by omega), by simpa using (show x < 2 by omega), by omega⟩
  · obtain ⟨i1, i2, i3, i4⟩ := len_aux f (x / 2) h1 (by rw [Nat.pow_succ] at h; omega)
    generalize Lib.bitLenAux f (x / 2) = n at *
    refine ⟨by omega, ?_, ?_, by omega⟩
    · have e2 : 2 ^ (1 + n - 1) = 2 ^ (n - 1) * 2 := by rw [← Nat.pow_succ, show 1 + n - 1 = n - 1 + 1 by omega]
      omega
    · rw [Nat.add_comm, Nat.pow_succ]
      omega
theorem len_bounds (x : Nat) (h0 : x ≠ 0) (h : x < 4294967296) : 0 < Lib.bitLen x ∧ 2 ^ (Lib.bitLen x - 1) ≤ x ∧ x < 2 ^ Lib.bitLen x ∧ Lib.bitLen x ≤ 32 := by
 have e : Lib.bitLen x = Lib.bitLenAux 32 x := Lib.bitLenAux_fuel 32 x h 64 (by decide)
 rw [e]
 exact len_aux 32 x h0 h
theorem tz_bounds (x : Nat) (h0 : x ≠ 0) (h : x < 4294967296) : (∃ q, x = 2 ^ Lib.ctz 32 x * (2 * q + 1)) ∧ Lib.ctz 32 x < 32 := by
 have e : Lib.ctz 32 x = Lib.ctzFrom 32 x := by simp [Lib.ctz, h0]
 rw [e]
 obtain ⟨m, h1, h2⟩ := Lib.ctzFrom_spec 32 x (by omega) h
 exact ⟨⟨m, h1⟩, h2⟩
set_option maxRecDepth 100000 in
theorem Tz32_core (w : World) (x k idx : Nat) (hx0 : ((x : Int) == 0) = false) (key : bits BinOp.and IntKind.u32 (x : Int) (-(x : Int) % 4294967296) * 125613361 % 4294967296 / 134217728 = (idx : Int))
  (hi : idx < 32) (hk : k < 32) (hcell : w.cell? ⟨0, idx, none⟩ = some (.int .u8 k)) :
  Calls Tryz.prog 178 #[.int .u32 x] w fun e w' => e = .returned (.int .i64 k) ∧ w' = w := by
 go_enter Tryz.func178, Tryz.ntmps178
 go_wp2_with (simp only [key])
 go_ret
 exact ⟨rfl, rfl⟩
/-- bits.TrailingZeros32. -/
theorem Tz32_any (w : World) (x : Nat) (hx : x < 4294967296) (hx0 : x ≠ 0) (hT : TabAt 0 Lib.deBruijn32tab w) :
  Calls Tryz.prog 178 #[.int .u32 x] w fun e w' => e = .returned (.int .i64 (Lib.ctz 32 x)) ∧ w' = w := by
 obtain ⟨hlow, hk⟩ := Lib.lowest_bit 32 x hx0 hx
 obtain ⟨hi, htab⟩ := Lib.deBruijn32_at _ hk
 have hcell := hT _ hi
 rw [htab] at hcell
 exact Tz32_core w x _ _ (by simp; omega) (tz32_key x _ hx hx0 hlow) hi hk hcell
end Dy
end Go.Proofs.YtmbppgjhdcmckaaGreatDoor
namespace Go.Proofs.YtmbppgjhdcmckaaGreatDoor
open Go.RowKit
namespace Dy
open Dp
theorem cutd_last {l : List Int} {n : Nat} (hl : l.length = n) (hn : 0 < n) : Cutd l ↔ l[n - 1]?.getD 0 ≠ 0 := by
 have hne : l ≠ [] := fun e => by rw [e] at hl; simp at hl; omega
 have e : l[n - 1]?.getD 0 = l.getLast hne := by
  rw [List.getLast_eq_getElem, List.getElem?_eq_getElem (by omega)]
  simp only [Option.getD_some]
  congr 1
  omega
 rw [e]
 exact ⟨fun h => h hne, fun h _ => h⟩
set_option maxRecDepth 100000 in
/-- limb.Check: limbs that may be. -/
theorem limbCheck_ok (w : World) (lo hi : Nat) (A : Option Addr) (n c : Nat) (xs : List Int) (hX : Ints w lo hi .u32 A n xs) (h : MayL xs) :
  Calls Tryz.prog 176 #[.slice A n c] w fun e w' => e = .returned (.int .i64 0) ∧ w' = w := by
 have hL := Lib.hid hX.len
 have h40 : n ≤ 40 := by have := h.1; have := hL.out; omega
 by_cases h0 : 0 < n
 · have hlast := (cutd_last hX.len h0).1 h.2
   obtain ⟨b, off, rfl, hcell⟩ := get hX h0
   have g1 : w.cell? ⟨b, off + (n - 1), none⟩ = some (.int .u32 (xs[n - 1]?.getD 0)) := hcell (n - 1) (by omega)
   have hb : (xs[n - 1]?.getD 0 == 0) = false := by simpa using hlast
   have e1 : ((n : Int) - 1).toNat = n - 1 := by omega
   clear hcell hlast h
   generalize xs[n - 1]?.getD 0 = v at g1 hb
   go_enter Tryz.func176, Tryz.ntmps176
   go_wp2
   go_ret
   exact ⟨rfl, rfl⟩
 · obtain rfl : n = 0 := by omega
   clear h
   go_enter Tryz.func176, Tryz.ntmps176
   go_wp2
   go_ret
   exact ⟨rfl, rfl⟩
set_option maxRecDepth 100000 in
/-- limb.Check: limbs that may not be. -/
theorem limbCheck_bad (w : World) (lo hi : Nat) (A : Option Addr) (n c : Nat) (xs : List Int) (hX : Ints w lo hi .u32 A n xs) (h : ¬ MayL xs) :
  Calls Tryz.prog 176 #[.slice A n c] w fun e w' => e = .returned (.int .i64 8) ∧ w' = w := by
 have hL := Lib.hid hX.len
 have hbig := hX.big
 by_cases h40 : n ≤ 40
 · have h0 : 0 < n := by
     rcases Nat.eq_zero_or_pos n with h0 | h0
     · exact absurd ⟨by have := hL.out; omega, fun hne => absurd (hX.zero h0) hne⟩ h
     · exact h0
   have hlast : xs[n - 1]?.getD 0 = 0 := by
    by_cases hl : xs[n - 1]?.getD 0 = 0
    · exact hl
    · exact absurd ⟨by have := hL.out; omega, (cutd_last hX.len h0).2 hl⟩ h
   obtain ⟨b, off, rfl, hcell⟩ := get hX h0
   have g1 : w.cell? ⟨b, off + (n - 1), none⟩ = some (.int .u32 (xs[n - 1]?.getD 0)) := hcell (n - 1) (by omega)
   rw [hlast] at g1
   have e1 : ((n : Int) - 1).toNat = n - 1 := by omega
   clear hcell hlast h
   go_enter Tryz.func176, Tryz.ntmps176
   go_wp2
   go_ret
   exact ⟨rfl, rfl⟩
 · clear h
   go_enter Tryz.func176, Tryz.ntmps176
   go_wp2
   go_ret
   exact ⟨rfl, rfl⟩
set_option maxHeartbeats 800000 in
set_option maxRecDepth 100000 in
/-- dyad.Check: dyads that may be. -/
theorem Check_ok (w : World) (lo hi : Nat) (s : Bool) (A : Option Addr) (n c : Nat) (xs : List Int) (ex : Int) (hX : Ints w lo hi .u32 A n xs) (hhi : hi ≤ w.heap.size) (h : MayD s xs ex) :
  Calls Tryz.prog 137 #[.agg #[.bool s, .slice A n c, .int .i64 ex]] w fun e w' => e = .returned (.int .i64 0) ∧ Below w.heap.size w w' := by
 have hL := Lib.hid hX.len
 have hX2 := hX.alloc hhi (.cells #[.bool s, .slice A n c, .int .i64 ex] 24)
 have hB := (Below.refl w.heap.size w).alloc (Nat.le_refl _) (.cells #[.bool s, .slice A n c, .int .i64 ex] 24)
 obtain ⟨hmay, he0, he1, hz, ho⟩ := h
 by_cases h0 : 0 < n
 · have hne : xs ≠ [] := fun e => by have := hL.out; rw [e] at this; simp at this; omega
   obtain ⟨b, off, rfl, hcell⟩ := get hX2 h0
   have g1 := hcell 0 h0
   rw [Nat.add_zero] at g1
   have ho' := ho hne
   have hn0 : ((n : Int) == 0) = false := by simp; omega
   obtain ⟨v0, v1⟩ := hX.u32 0
   clear hcell hz ho
   generalize xs[0]?.getD 0 = v at g1 ho' v0 v1
   by_cases hpos : 0 < ex
   · have hv := ho' hpos
     have hv2 : v % 2 = 1 := hv
     clear ho' hv hne
     go_enter Tryz.func137, Tryz.ntmps137
     go_wp2_with fail
     refine (limbCheck_ok _ _ _ _ _ _ _ hX2 hmay).mono ?_
     rintro e w1 ⟨rfl, rfl⟩
     clear hmay
     go_wp2
     go_ret
     exact ⟨rfl, hB⟩
   · obtain rfl : ex = 0 := by omega
     clear ho' hne he0 he1
     go_enter Tryz.func137, Tryz.ntmps137
     go_wp2_with fail
     refine (limbCheck_ok _ _ _ _ _ _ _ hX2 hmay).mono ?_
     rintro e w1 ⟨rfl, rfl⟩
     clear hmay
     go_wp2
     go_ret
     exact ⟨rfl, hB⟩
 · obtain rfl : n = 0 := by omega
   obtain ⟨rfl, rfl⟩ := hz (hX.zero rfl)
   clear ho he0 he1
   go_enter Tryz.func137, Tryz.ntmps137
   go_wp2_with fail
   refine (limbCheck_ok _ _ _ _ _ _ _ hX2 hmay).mono ?_
   rintro e w1 ⟨rfl, rfl⟩
   clear hmay
   go_wp2
   go_ret
   exact ⟨rfl, hB⟩
theorem not_may {s : Bool} {xs : List Int} {e : Int} (h : ¬ MayD s xs e) : ¬ MayL xs ∨ (MayL xs ∧ (e < 0 ∨ 1024 < e)) ∨ (MayL xs ∧ 0 ≤ e ∧ e ≤ 1024 ∧ xs = [] ∧ (e ≠ 0 ∨ s = true)) ∨ (MayL xs ∧ 0 < e ∧ e ≤ 1024 ∧ xs ≠ [] ∧ xs[0]?.getD 0 % 2 ≠ 1) := by
 by_cases h1 : MayL xs
 · by_cases h2 : e < 0 ∨ 1024 < e
   · exact .inr (.inl ⟨h1, h2⟩)
   · by_cases h3 : xs = []
     · refine .inr (.inr (.inl ⟨h1, by omega, by omega, h3, ?_⟩))
       by_cases h4 : e = 0
       · right
         cases s
         · exact absurd ⟨h1, by omega, by omega, fun _ => ⟨h4, rfl⟩, fun hne => absurd h3 hne⟩ h
         · rfl
       · exact .inl h4
     · by_cases h4 : 0 < e ∧ xs[0]?.getD 0 % 2 ≠ 1
       · exact .inr (.inr (.inr ⟨h1, h4.1, by omega, h3, h4.2⟩))
       · exact absurd ⟨h1, by omega, by omega, fun h5 => absurd h5 h3, fun _ h5 => by omega⟩ h
 · exact .inl h1
set_option maxHeartbeats 1600000 in
set_option maxRecDepth 100000 in
/-- dyad.Check: dyads that may not be. -/
theorem Check_bad (w : World) (lo hi : Nat) (s : Bool) (A : Option Addr) (n c : Nat) (xs : List Int) (ex : Int) (hX : Ints w lo hi .u32 A n xs) (hhi : hi ≤ w.heap.size) (h : ¬ MayD s xs ex) :
  Calls Tryz.prog 137 #[.agg #[.bool s, .slice A n c, .int .i64 ex]] w fun e w' => e = .returned (.int .i64 8) ∧ Below w.heap.size w w' := by
 have hL := Lib.hid hX.len
 have hX2 := hX.alloc hhi (.cells #[.bool s, .slice A n c, .int .i64 ex] 24)
 have hB := (Below.refl w.heap.size w).alloc (Nat.le_refl _) (.cells #[.bool s, .slice A n c, .int .i64 ex] 24)
 have hbig := hX.big
 rcases not_may h with hm | ⟨hm, hx⟩ | ⟨hm, h0, h1, hz, hx⟩ | ⟨hm, h0, h1, hz, hx⟩
 · clear h
   go_enter Tryz.func137, Tryz.ntmps137
   go_wp2_with fail
   refine (limbCheck_bad _ _ _ _ _ _ _ hX2 hm).mono ?_
   rintro e w1 ⟨rfl, rfl⟩
   clear hm
   by_cases hn0 : n = 0
   · subst hn0
     go_wp2
     go_ret
     exact ⟨rfl, hB⟩
   · have hn1 : ((n : Int) == 0) = false := by simp; omega
     go_wp2
     go_ret
     exact ⟨rfl, hB⟩
 · clear h
   have hn1 : n ≠ 0 → ((n : Int) == 0) = false := fun h => by simp; omega
   rcases hx with hx | hx
   all_goals
    by_cases hn0 : n = 0
    · subst hn0
      clear hn1
      go_enter Tryz.func137, Tryz.ntmps137
      go_wp2_with fail
      refine (limbCheck_ok _ _ _ _ _ _ _ hX2 hm).mono ?_
      rintro e w1 ⟨rfl, rfl⟩
      clear hm
      go_wp2
      go_ret
      exact ⟨rfl, hB⟩
    · have hn2 := hn1 hn0
      clear hn1
      go_enter Tryz.func137, Tryz.ntmps137
      go_wp2_with fail
      refine (limbCheck_ok _ _ _ _ _ _ _ hX2 hm).mono ?_
      rintro e w1 ⟨rfl, rfl⟩
      clear hm
      go_wp2
      go_ret
      exact ⟨rfl, hB⟩
 · clear h
   subst hz
   obtain rfl : n = 0 := by have := hL.out; simp at this; omega
   by_cases hx0 : ex = 0
   · subst hx0
     obtain rfl : s = true := hx.resolve_left (fun h => h rfl)
     clear hx
     go_enter Tryz.func137, Tryz.ntmps137
     go_wp2_with fail
     refine (limbCheck_ok _ _ _ _ _ _ _ hX2 hm).mono ?_
     rintro e w1 ⟨rfl, rfl⟩
     clear hm
     go_wp2
     go_ret
     exact ⟨rfl, hB⟩
   · have hx1 : (ex != 0) = true := by simpa using hx0
     clear hx
     go_enter Tryz.func137, Tryz.ntmps137
     go_wp2_with fail
     refine (limbCheck_ok _ _ _ _ _ _ _ hX2 hm).mono ?_
     rintro e w1 ⟨rfl, rfl⟩
     clear hm
     go_wp2
     go_ret
     exact ⟨rfl, hB⟩
 · clear h
   have hn0 : 0 < n := by
    rcases Nat.eq_zero_or_pos n with h0 | h0
    · exact absurd (hX.zero h0) hz
    · exact h0
   obtain ⟨b, off, rfl, hcell⟩ := get hX2 hn0
   have g1 := hcell 0 hn0
   rw [Nat.add_zero] at g1
   have hn1 : ((n : Int) == 0) = false := by simp; omega
   obtain ⟨v0, v1⟩ := hX.u32 0
   clear hcell hz
   generalize xs[0]?.getD 0 = v at g1 hx v0 v1
   have hv : v % 2 = 0 := by omega
   clear hx
   go_enter Tryz.func137, Tryz.ntmps137
   go_wp2_with fail
   refine (limbCheck_ok _ _ _ _ _ _ _ hX2 hm).mono ?_
   rintro e w1 ⟨rfl, rfl⟩
   clear hm
   go_wp2
   go_ret
   exact ⟨rfl, hB⟩
end Dy
end Go.Proofs.YtmbppgjhdcmckaaGreatDoor