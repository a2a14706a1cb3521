/- Limbs: digits, shifts, sums in place, the lowest and the highest bit: no program in sight. -/
import Derived.Test.YtlbkepiflhchdaaDoorDyPure
namespace Go.Proofs.YtlbkepiflhchdaaDoor
namespace Dp

/-! ### Digits -/
theorem split_ (B : Nat) (l : List Int) (k : Nat) : num B l = num B (l.take k) + B ^ k * num B (l.drop k) := by
  by_cases h : k ≤ l.length
  · conv => lhs; rw [← List.take_append_drop k l]
    rw [num_append, List.length_take, Nat.min_eq_left h]
  · rw [List.take_of_length_le (by omega), List.drop_eq_nil_of_le (by omega)]
    simp [num]
theorem take_next (B : Nat) (l : List Int) (k : Nat) : num B (l.take (k + 1)) = num B (l.take k) + B ^ k * (l[k]?.getD 0).toNat := by
  by_cases h : k < l.length
  · rw [List.take_succ_eq_append_getElem h, num_append, List.getElem?_eq_getElem h]
    simp [num, Nat.min_eq_left (Nat.le_of_lt h)]
  · rw [List.take_of_length_le (by omega), List.take_of_length_le (by omega), List.getElem?_eq_none (by omega)]
    simp
theorem dig_take {B : Nat} {l : List Int} (h : Dig B l) (k : Nat) : Dig B (l.take k) := fun x hx => h x (List.mem_of_mem_take hx)
theorem dig_drop {B : Nat} {l : List Int} (h : Dig B l) (k : Nat) : Dig B (l.drop k) := fun x hx => h x (List.mem_of_mem_drop hx)
theorem dig_get {B : Nat} (hB : 0 < B) {l : List Int} (h : Dig B l) (k : Nat) : ∃ d : Nat, l[k]?.getD 0 = (d : Int) ∧ d < B := by
  by_cases hk : k < l.length
  · rw [List.getElem?_eq_getElem hk]
    have := h _ (List.getElem_mem hk)
    exact ⟨l[k].toNat, by simp only [Option.getD_some]; omega, by omega⟩
  · rw [List.getElem?_eq_none (by omega)]
    exact ⟨0, rfl, hB⟩
theorem dig_set {B : Nat} {l : List Int} (h : Dig B l) (k d : Nat) (hd : d < B) : Dig B (l.set k (d : Int)) := fun x hx => by
  rcases List.mem_or_eq_of_mem_set hx with h' | h'
  · exact h x h'
  · subst h'; omega
theorem take_lt {B : Nat} (hB : 0 < B) {l : List Int} (h : Dig B l) (k : Nat) : num B (l.take k) < B ^ k := by
  have h1 := num_lt B hB (l.take k) (dig_take h k)
  exact Nat.lt_of_lt_of_le h1 (Nat.pow_le_pow_right hB (by simp; omega))
/-- A digit of a list's number. -/
theorem digit {B : Nat} (hB : 0 < B) {l : List Int} (h : Dig B l) (k : Nat) : l[k]?.getD 0 = ((num B l / B ^ k % B : Nat) : Int) := by
  obtain ⟨d, hd, hlt⟩ := dig_get hB h k
  have h1 := split_ B l (k + 1)
  rw [take_next, hd, Int.toNat_natCast] at h1
  have h2 := take_lt hB h k
  have hp : 0 < B ^ k := Nat.pow_pos hB
  have e : num B l / B ^ k = d + B * num B (l.drop (k + 1)) := by
    rw [h1, Nat.pow_succ, Nat.mul_assoc, Nat.add_assoc, ← Nat.mul_add, Nat.add_mul_div_left _ _ hp, Nat.div_eq_of_lt h2]
    omega
  rw [hd, e, Nat.add_mul_mod_self_left, Nat.mod_eq_of_lt hlt]
/-- A list whose digits are a number's is that number. -/
theorem num_of {B : Nat} : ∀ (l : List Int) (M : Nat), (∀ j, j < l.length → l[j]?.getD 0 = ((M / B ^ j % B : Nat) : Int)) → M < B ^ l.length → num B l = M
  | [], M, _, h => by simp at h; simp [num, h]
  | x :: l, M, h, hM => by
    have h0 := h 0 (by simp)
    simp at h0
    have ih := num_of l (M / B) (fun j hj => by
      have := h (j + 1) (by simpa using hj)
      simp only [List.getElem?_cons_succ] at this
      rw [this, Nat.pow_succ, Nat.mul_comm, Nat.div_div_eq_div_mul]) (by
      rw [List.length_cons, Nat.pow_succ, Nat.mul_comm] at hM
      exact Nat.div_lt_of_lt_mul hM)
    simp only [num]
    rw [ih, h0]
    have := Nat.mod_add_div M B
    omega
theorem last_ (B : Nat) (l : List Int) (h : l ≠ []) : num B l = num B l.dropLast + B ^ (l.length - 1) * (l.getLast h).toNat := by
  conv => lhs; rw [← List.dropLast_concat_getLast h]
  rw [num_append]
  simp [num]
theorem cutd_ge {B : Nat} (hB : 0 < B) {l : List Int} (hd : Dig B l) (hg : l ≠ [] → B ^ (l.length - 1) ≤ num B l) : Cutd l := fun h h0 => by
  have h1 := hg h
  rw [last_ B l h, h0] at h1
  have h2 := num_lt B hB l.dropLast fun x hx => hd x (List.dropLast_subset _ hx)
  simp at h1 h2
  omega
theorem canon_digits {B : Nat} (hB : 2 ≤ B) {l : List Int} {M : Nat} (h : ∀ j, j < l.length → l[j]?.getD 0 = ((M / B ^ j % B : Nat) : Int)) (hM : M < B ^ l.length) (hg : l ≠ [] → B ^ (l.length - 1) ≤ M) : l = canon B M := by
  have hn := num_of l M h hM
  have hd : Dig B l := fun x hx => by
    obtain ⟨j, hj, rfl⟩ := List.getElem_of_mem hx
    have h1 := h j hj
    rw [List.getElem?_eq_getElem hj, Option.getD_some] at h1
    have h2 := Nat.mod_lt (M / B ^ j) (show 0 < B by omega)
    omega
  exact canon_of hB hd (cutd_ge (by omega) hd fun hne => by rw [hn]; exact hg hne) hn
theorem set_num (B : Nat) : ∀ (l : List Int) (j : Nat) (v : Int), j < l.length → num B (l.set j v) + B ^ j * (l[j]?.getD 0).toNat = num B l + B ^ j * v.toNat
  | [], j, v, h => by simp at h
  | x :: l, 0, v, _ => by simp [num]; omega
  | x :: l, j + 1, v, h => by
    have ih := set_num B l j v (by simpa using h)
    simp only [List.set_cons_succ, num, List.getElem?_cons_succ, Nat.pow_succ]
    have e1 : B ^ j * B * (l[j]?.getD 0).toNat = B * (B ^ j * (l[j]?.getD 0).toNat) := by rw [Nat.mul_comm (B ^ j) B, Nat.mul_assoc]
    have e2 : B ^ j * B * v.toNat = B * (B ^ j * v.toNat) := by rw [Nat.mul_comm (B ^ j) B, Nat.mul_assoc]
    rw [e1, e2]
    have : B * num B (l.set j v) + B * (B ^ j * (l[j]?.getD 0).toNat) = B * num B l + B * (B ^ j * v.toNat) := by rw [← Nat.mul_add, ih, Nat.mul_add]
    omega
theorem set_take (B : Nat) (l : List Int) (k : Nat) (v : Int) (h : k < l.length) : num B ((l.set k v).take (k + 1)) = num B (l.take k) + B ^ k * v.toNat := by
  rw [take_next, List.take_set_of_le (Nat.le_refl _), List.getElem?_set_self h]
  rfl
theorem set_far (l : List Int) {k j : Nat} (v : Int) (h : k ≠ j) : (l.set k v)[j]?.getD 0 = l[j]?.getD 0 := by
  rw [List.getElem?_set_ne h]

/-! ### Limbs of 32 bits -/
theorem pow32 (k : Nat) : 4294967296 ^ k = 2 ^ (32 * k) := by rw [Nat.pow_mul]

/-- One limb of a number that is shifted to the right. -/
theorem at_law (M r : Nat) (hr : r < 32) : (((M / 4294967296 % 4294967296) * 4294967296 + M % 4294967296) / 2 ^ r) % 4294967296 = M / 2 ^ r % 4294967296 := by
  have e1 : (M / 4294967296 % 4294967296) * 4294967296 + M % 4294967296 = M % 2 ^ 64 := by omega
  rw [e1]
  have hp : 0 < 2 ^ r := Nat.pow_pos (by decide)
  have e2 : M = 2 ^ r * (2 ^ (64 - r) * (M / 2 ^ 64)) + M % 2 ^ 64 := by
    rw [← Nat.mul_assoc, ← Nat.pow_add, show r + (64 - r) = 64 by omega]
    omega
  have e3 : M / 2 ^ r = 2 ^ (64 - r) * (M / 2 ^ 64) + M % 2 ^ 64 / 2 ^ r := by
    conv => lhs; rw [e2]
    rw [Nat.mul_add_div hp]
  have e4 : 2 ^ (64 - r) = 4294967296 * 2 ^ (32 - r) := by
    rw [show (4294967296 : Nat) = 2 ^ 32 by rfl, ← Nat.pow_add]
    congr 1
    omega
  rw [e3, e4, Nat.mul_assoc, Nat.mul_add_mod]
theorem at_limb {l : List Int} (hd : Dig 4294967296 l) (i k : Nat) (hi lo : Nat) (h1 : l[i + k / 32 + 1]?.getD 0 = (hi : Int)) (h0 : l[i + k / 32]?.getD 0 = (lo : Int)) :
    ((hi * 4294967296 + lo) / 2 ^ (k % 32)) % 4294967296 = num 4294967296 l / 2 ^ k / 4294967296 ^ i % 4294967296 := by
  rw [digit (by decide) hd] at h1 h0
  have h1' : num 4294967296 l / 4294967296 ^ (i + k / 32 + 1) % 4294967296 = hi := by omega
  have h0' : num 4294967296 l / 4294967296 ^ (i + k / 32) % 4294967296 = lo := by omega
  rw [Nat.pow_succ, ← Nat.div_div_eq_div_mul] at h1'
  have := at_law (num 4294967296 l / 4294967296 ^ (i + k / 32)) (k % 32) (Nat.mod_lt _ (by decide))
  rw [h1', h0'] at this
  rw [this, Nat.div_div_eq_div_mul, Nat.div_div_eq_div_mul, pow32, pow32, ← Nat.pow_add, ← Nat.pow_add]
  congr 3
  omega

theorem wide_bound {ws xs : List Int} {i k : Nat} (hx : Dig 4294967296 xs) (h : num 4294967296 ws = num 4294967296 (xs.take i) * 2 ^ k) :
    num 4294967296 ws < 4294967296 ^ (i + k / 32) * 2 ^ (k % 32) := by
  have h1 := take_lt (by decide) hx i
  have ek : k = 32 * (k / 32) + k % 32 := by omega
  have e2 : (2 : Nat) ^ k = 4294967296 ^ (k / 32) * 2 ^ (k % 32) := by rw [pow32, ← Nat.pow_add, ← ek]
  rw [h, Nat.pow_add, Nat.mul_assoc, ← e2]
  exact Nat.mul_lt_mul_of_pos_right h1 (Nat.pow_pos (by decide))
theorem wide_p {ws : List Int} {j r p : Nat} (hw : Dig 4294967296 ws) (hb : num 4294967296 ws < 4294967296 ^ j * 2 ^ r) (hp : ws[j]?.getD 0 = (p : Int)) : p < 2 ^ r := by
  rw [digit (by decide) hw] at hp
  have h2 : num 4294967296 ws / 4294967296 ^ j % 4294967296 = p := Int.ofNat.inj hp
  have h3 : num 4294967296 ws / 4294967296 ^ j < 2 ^ r := Nat.div_lt_of_lt_mul hb
  rw [← h2]
  exact Nat.lt_of_le_of_lt (Nat.mod_le _ _) h3
theorem wide_z {ws : List Int} {j r : Nat} (hr : r < 32) (hw : Dig 4294967296 ws) (hb : num 4294967296 ws < 4294967296 ^ j * 2 ^ r) : ws[j + 1]?.getD 0 = 0 := by
  have hr2 : 2 ^ r ≤ 2 ^ 32 := Nat.pow_le_pow_right (by decide) (by omega)
  have h2 : num 4294967296 ws < 4294967296 ^ (j + 1) := Nat.lt_of_lt_of_le hb (by rw [Nat.pow_succ]; exact Nat.mul_le_mul_left _ hr2)
  rw [digit (by decide) hw, Nat.div_eq_of_lt h2]
  rfl
theorem wide_sum {x p r : Nat} (hr : r < 32) (hp1 : p < 2 ^ r) : p + x * 2 ^ r % 4294967296 < 4294967296 := by
  have e : (4294967296 : Nat) = 2 ^ r * 2 ^ (32 - r) := by rw [← Nat.pow_add, show r + (32 - r) = 32 by omega]
  have h2 : x * 2 ^ r % 4294967296 = 2 ^ r * (x % 2 ^ (32 - r)) := by
    conv => lhs; rw [e, Nat.mul_comm x]
    rw [Nat.mul_mod_mul_left]
  have h3 : x % 2 ^ (32 - r) < 2 ^ (32 - r) := Nat.mod_lt _ (Nat.pow_pos (by decide))
  have h4 : 2 ^ r * (x % 2 ^ (32 - r)) + 2 ^ r ≤ 4294967296 := by
    conv => rhs; rw [e]
    rw [← Nat.mul_succ]
    exact Nat.mul_le_mul_left _ h3
  rw [h2]
  exact Nat.lt_of_lt_of_le (by rw [Nat.add_comm]; exact Nat.add_lt_add_left hp1 _) h4
theorem wide_hi {x r : Nat} (hr : r < 32) (hx : x < 4294967296) : x * 2 ^ r / 4294967296 < 4294967296 := by
  have hr2 : 2 ^ r ≤ 2 ^ 32 := Nat.pow_le_pow_right (by decide) (by omega)
  have h1 : x * 2 ^ r < 4294967296 * 2 ^ r := Nat.mul_lt_mul_of_pos_right hx (Nat.pow_pos (by decide))
  exact Nat.lt_of_lt_of_le (Nat.div_lt_of_lt_mul h1) hr2
theorem wide_num (B : Nat) {ws : List Int} {j p a b : Nat} (hl : j + 1 < ws.length) (hp : ws[j]?.getD 0 = (p : Int)) (hz : ws[j + 1]?.getD 0 = 0) :
    num B ((ws.set j ((p + a : Nat) : Int)).set (j + 1) ((b : Nat) : Int)) = num B ws + B ^ j * (a + B * b) := by
  have s1 := set_num B ws j ((p + a : Nat) : Int) (by omega)
  have s2 := set_num B (ws.set j ((p + a : Nat) : Int)) (j + 1) ((b : Nat) : Int) (by simp; omega)
  rw [set_far _ _ (by omega), hz] at s2
  rw [hp] at s1
  simp only [Int.toNat_natCast, Int.toNat_zero, Nat.mul_zero, Nat.add_zero] at s1 s2
  rw [s2, Nat.pow_succ, Nat.mul_assoc, Nat.mul_add]
  rw [Nat.mul_add] at s1
  generalize B ^ j * p = P at *
  generalize B ^ j * a = Q at *
  generalize B ^ j * (B * b) = R at *
  omega
theorem wide_next {ws xs : List Int} {i k x : Nat} (h : num 4294967296 ws = num 4294967296 (xs.take i) * 2 ^ k) (hxi : xs[i]?.getD 0 = (x : Int)) :
    num 4294967296 (xs.take (i + 1)) * 2 ^ k = num 4294967296 ws + 4294967296 ^ (i + k / 32) * (x * 2 ^ (k % 32)) := by
  have ek : k = 32 * (k / 32) + k % 32 := by omega
  have e2 : (2 : Nat) ^ k = 4294967296 ^ (k / 32) * 2 ^ (k % 32) := by rw [pow32, ← Nat.pow_add, ← ek]
  rw [take_next, hxi, Int.toNat_natCast, Nat.add_mul, ← h, e2, Nat.pow_add]
  generalize 4294967296 ^ i = a
  generalize 4294967296 ^ (k / 32) = b
  generalize 2 ^ (k % 32) = c
  congr 1
  simp only [Nat.mul_left_comm, Nat.mul_comm]
/-- A number's limb is laid into shifted ones. -/
theorem wide_law {ws xs : List Int} {i k x p : Nat} (hw : Dig 4294967296 ws) (hx : Dig 4294967296 xs) (hl : i + k / 32 + 1 < ws.length) (h : num 4294967296 ws = num 4294967296 (xs.take i) * 2 ^ k)
    (hxi : xs[i]?.getD 0 = (x : Int)) (hp : ws[i + k / 32]?.getD 0 = (p : Int)) :
    p < 2 ^ (k % 32) ∧ ws[i + k / 32 + 1]?.getD 0 = 0 ∧ p + x * 2 ^ (k % 32) % 4294967296 < 4294967296 ∧ x * 2 ^ (k % 32) / 4294967296 < 4294967296 ∧
      Dig 4294967296 ((ws.set (i + k / 32) ((p + x * 2 ^ (k % 32) % 4294967296 : Nat) : Int)).set (i + k / 32 + 1) ((x * 2 ^ (k % 32) / 4294967296 : Nat) : Int)) ∧
      num 4294967296 ((ws.set (i + k / 32) ((p + x * 2 ^ (k % 32) % 4294967296 : Nat) : Int)).set (i + k / 32 + 1) ((x * 2 ^ (k % 32) / 4294967296 : Nat) : Int)) = num 4294967296 (xs.take (i + 1)) * 2 ^ k := by
  have hx2 : x < 4294967296 := by
    obtain ⟨d, hd, hlt⟩ := dig_get (by decide) hx i
    rw [hxi] at hd
    rw [Int.ofNat.inj hd]
    exact hlt
  have hr : k % 32 < 32 := Nat.mod_lt _ (by decide)
  have hb := wide_bound hx h
  have h1 := wide_p hw hb hp
  have h2 := wide_z hr hw hb
  have h3 := wide_sum (x := x) hr h1
  have h4 := wide_hi hr hx2
  refine ⟨h1, h2, h3, h4, dig_set (dig_set hw _ _ h3) _ _ h4, ?_⟩
  rw [wide_num 4294967296 hl hp h2, wide_next h hxi, Nat.mod_add_div]

/-- A limb of a sum, in place. -/
theorem sum_law {B : Nat} {cur us vs : List Int} {i c u v : Nat} (hl : i < cur.length) (h : num B (cur.take i) + B ^ i * c = num B (us.take i) + num B (vs.take i)) (hu : us[i]?.getD 0 = (u : Int)) (hv : vs[i]?.getD 0 = (v : Int)) :
    num B ((cur.set i (((u + v + c) % B : Nat) : Int)).take (i + 1)) + B ^ (i + 1) * ((u + v + c) / B) = num B (us.take (i + 1)) + num B (vs.take (i + 1)) := by
  rw [set_take _ _ _ _ hl, take_next, take_next, hu, hv]
  simp only [Int.toNat_natCast, Nat.pow_succ]
  have e : B ^ i * ((u + v + c) % B) + B ^ i * B * ((u + v + c) / B) = B ^ i * (u + v + c) := by
    rw [Nat.mul_assoc, ← Nat.mul_add, Nat.mod_add_div]
  rw [Nat.add_assoc, e, Nat.mul_add, Nat.mul_add]
  omega
theorem sum_end {B N : Nat} {cur us vs : List Int} {c : Nat} (hc : cur.length = N) (hu : us.length = N) (hv : vs.length = N) (h : num B (cur.take N) + B ^ N * c = num B (us.take N) + num B (vs.take N)) (hb : num B us + num B vs < B ^ N) : num B cur = num B us + num B vs := by
  rw [List.take_of_length_le (by omega), List.take_of_length_le (by omega), List.take_of_length_le (by omega)] at h
  rcases Nat.eq_zero_or_pos c with h0 | h0
  · subst h0; omega
  · have : B ^ N * 1 ≤ B ^ N * c := Nat.mul_le_mul_left _ h0
    omega
/-- A limb of a difference, in place: d is it, c2 what is borrowed. -/
theorem diff_law {B : Nat} {cur us vs : List Int} {i c u v d c2 : Nat} (hl : i < cur.length) (h : num B (us.take i) + B ^ i * c = num B (cur.take i) + num B (vs.take i)) (hu : us[i]?.getD 0 = (u : Int)) (hv : vs[i]?.getD 0 = (v : Int)) (hd : u + B * c2 = d + v + c) :
    num B (us.take (i + 1)) + B ^ (i + 1) * c2 = num B ((cur.set i ((d : Nat) : Int)).take (i + 1)) + num B (vs.take (i + 1)) := by
  rw [set_take _ _ _ _ hl, take_next, take_next, hu, hv]
  simp only [Int.toNat_natCast, Nat.pow_succ]
  have e : B ^ i * u + B ^ i * B * c2 = B ^ i * d + B ^ i * v + B ^ i * c := by
    rw [Nat.mul_assoc, ← Nat.mul_add, hd, Nat.mul_add, Nat.mul_add]
  omega
theorem diff_end {B N : Nat} {cur us vs : List Int} {c : Nat} (hB : 0 < B) (hdc : Dig B cur) (hc : cur.length = N) (hu : us.length = N) (hv : vs.length = N) (h : num B (us.take N) + B ^ N * c = num B (cur.take N) + num B (vs.take N)) (hb : num B vs ≤ num B us) : num B cur = num B us - num B vs := by
  rw [List.take_of_length_le (by omega), List.take_of_length_le (by omega), List.take_of_length_le (by omega)] at h
  rcases Nat.eq_zero_or_pos c with h0 | h0
  · subst h0; omega
  · have h1 : B ^ N * 1 ≤ B ^ N * c := Nat.mul_le_mul_left _ h0
    have h2 := num_lt B hB cur hdc
    rw [hc] at h2
    omega

/-- How two stand is told by the highest limb that differs. -/
theorem less_by {B : Nat} (hB : 0 < B) {xs ys : List Int} {i : Nat} (hdx : Dig B xs) (heq : xs.drop (i + 1) = ys.drop (i + 1)) (hlt : (xs[i]?.getD 0).toNat < (ys[i]?.getD 0).toNat) : num B xs < num B ys := by
  rw [split_ B xs (i + 1), split_ B ys (i + 1), heq, take_next, take_next]
  have h1 := take_lt hB hdx i
  have h2 : B ^ i * (xs[i]?.getD 0).toNat + B ^ i ≤ B ^ i * (ys[i]?.getD 0).toNat := by
    rw [← Nat.mul_succ]
    exact Nat.mul_le_mul_left _ hlt
  omega
theorem drop_eq {xs ys : List Int} {i : Nat} (hx : i < xs.length) (hy : i < ys.length) (h : xs.drop (i + 1) = ys.drop (i + 1)) (he : xs[i]?.getD 0 = ys[i]?.getD 0) : xs.drop i = ys.drop i := by
  rw [List.drop_eq_getElem_cons hx, List.drop_eq_getElem_cons hy, h]
  rw [List.getElem?_eq_getElem hx, List.getElem?_eq_getElem hy] at he
  simp only [Option.getD_some] at he
  rw [he]

/-! ### The lowest and the highest bit -/
/-- low is how many of P's lowest bits are 0, high how many bits P has; both 0, if P is. -/
def LoHi (P low high : Nat) : Prop := (P = 0 ∧ low = 0 ∧ high = 0) ∨ (0 < high ∧ 2 ^ (high - 1) ≤ P ∧ P < 2 ^ high ∧ ∃ q, P = 2 ^ low * (2 * q + 1))
theorem ends_zero : LoHi 0 0 0 := .inl ⟨rfl, rfl, rfl⟩
theorem ends_same {P low high i : Nat} (h : LoHi P low high) : LoHi (P + 4294967296 ^ i * 0) low high := by simpa using h
theorem ends_high {P low high i x n t : Nat} (h : LoHi P low high) (hP : P < 4294967296 ^ i) (hn1 : 2 ^ (n - 1) ≤ x) (hn2 : x < 2 ^ n) (hn : 0 < n) (ht : ∃ q, x = 2 ^ t * (2 * q + 1)) :
    LoHi (P + 4294967296 ^ i * x) (if high = 0 then 32 * i + t else low) (32 * i + n) := by
  rw [pow32] at hP ⊢
  have hb : 2 ^ (32 * i) * x + 2 ^ (32 * i) ≤ 2 ^ (32 * i + n) := by
    rw [Nat.pow_add, ← Nat.mul_succ]
    exact Nat.mul_le_mul_left _ hn2
  have ha : 2 ^ (32 * i + n - 1) ≤ 2 ^ (32 * i) * x := by
    rw [show 32 * i + n - 1 = 32 * i + (n - 1) by omega, Nat.pow_add]
    exact Nat.mul_le_mul_left _ hn1
  refine .inr ⟨by omega, by omega, by omega, ?_⟩
  rcases h with ⟨rfl, rfl, rfl⟩ | ⟨h1, h2, h3, q, h4⟩
  · obtain ⟨q, hq⟩ := ht
    refine ⟨q, ?_⟩
    rw [if_pos rfl, Nat.pow_add, Nat.mul_assoc, ← hq]
    omega
  · rw [if_neg (by omega)]
    have hlow : low < 32 * i := by
      have h5 : 2 ^ low < 2 ^ (32 * i) := by
        have : 2 ^ low * 1 ≤ 2 ^ low * (2 * q + 1) := Nat.mul_le_mul_left _ (by omega)
        omega
      exact (Nat.pow_lt_pow_iff_right (by decide)).1 h5
    refine ⟨q + 2 ^ (32 * i - low - 1) * x, ?_⟩
    rw [show 32 * i = low + 1 + (32 * i - low - 1) by omega, Nat.pow_add, Nat.pow_succ, h4]
    rw [show low + 1 + (32 * i - low - 1) - low - 1 = 32 * i - low - 1 by omega]
    generalize 2 ^ (32 * i - low - 1) = b
    have e : 2 ^ low * (2 * (q + b * x) + 1) = 2 ^ low * (2 * q + 1) + 2 ^ low * 2 * b * x := by
      rw [show 2 * (q + b * x) + 1 = (2 * q + 1) + 2 * b * x by rw [Nat.mul_add, Nat.mul_assoc]; omega, Nat.mul_add]
      congr 1
      simp only [Nat.mul_assoc]
    omega
/-- What the form of a number is, by its lowest and highest bit. -/
theorem form_law {s : Bool} {P low high k : Nat} (h : LoHi P low high) (h0 : high ≠ 0) :
    min low k < high ∧ P / 2 ^ min low k < 2 ^ (high - min low k) ∧ 2 ^ (high - min low k - 1) ≤ P / 2 ^ min low k ∧
    formed s P k = if high - min low k ≤ 1280 ∧ k - min low k ≤ 1024 then (⟨s, P / 2 ^ min low k, k - min low k⟩, 0) else (Dn.zero, 10) := by
  rcases h with ⟨_, _, h⟩ | ⟨h1, h2, h3, q, h4⟩
  · exact absurd h h0
  · have hp : 0 < 2 ^ min low k := Nat.pow_pos (by decide)
    have hlow : low < high := by
      have h5 : 2 ^ low < 2 ^ high := by
        have : 2 ^ low * 1 ≤ 2 ^ low * (2 * q + 1) := Nat.mul_le_mul_left _ (by omega)
        omega
      exact (Nat.pow_lt_pow_iff_right (by decide)).1 h5
    have hl : min low k < high := by omega
    have eP : P = (2 ^ (low - min low k) * (2 * q + 1)) * 2 ^ min low k := by
      rw [h4, Nat.mul_comm _ (2 ^ min low k), ← Nat.mul_assoc, ← Nat.pow_add, show min low k + (low - min low k) = low by omega]
    have ed : P / 2 ^ min low k = 2 ^ (low - min low k) * (2 * q + 1) := by
      conv => lhs; rw [eP]
      exact Nat.mul_div_cancel _ hp
    have hst := strip_of k (min low k) (2 ^ (low - min low k) * (2 * q + 1)) (by omega) (by
      by_cases hk : min low k = k
      · exact .inl hk
      · right
        rw [show low - min low k = 0 by omega]
        omega)
    rw [← eP] at hst
    have u1 : P / 2 ^ min low k < 2 ^ (high - min low k) := Nat.div_lt_of_lt_mul (by rw [← Nat.pow_add, show min low k + (high - min low k) = high by omega]; exact h3)
    have u2 : 2 ^ (high - min low k - 1) ≤ P / 2 ^ min low k := (Nat.le_div_iff_mul_le hp).2 (by rw [← Nat.pow_add, show high - min low k - 1 + min low k = high - 1 by omega]; exact h2)
    refine ⟨hl, u1, u2, ?_⟩
    have hP0 : P ≠ 0 := by
      have : 0 < 2 ^ (high - 1) := Nat.pow_pos (by decide)
      omega
    unfold formed
    rw [if_neg hP0, hst, ed]
    simp only
    rw [← ed]
    have hc : P / 2 ^ min low k < capD ↔ high - min low k ≤ 1280 := by
      constructor
      · intro h
        rcases Nat.lt_or_ge 1280 (high - min low k) with h6 | h6
        · exfalso
          have h7 : 2 ^ capE ≤ 2 ^ (high - min low k - 1) := Nat.pow_le_pow_right (by decide) (by rw [capE_eq]; omega)
          rw [capD_eq] at h
          omega
        · exact h6
      · intro h
        exact capD_gt u1 h
    simp only [hc]

/-! ### Raw dyads -/
def MayL (xs : List Int) : Prop := xs.length ≤ 40 ∧ Cutd xs
def MayD (s : Bool) (xs : List Int) (e : Int) : Prop := MayL xs ∧ 0 ≤ e ∧ e ≤ 1024 ∧ (xs = [] → e = 0 ∧ s = false) ∧ (xs ≠ [] → 0 < e → xs[0]?.getD 0 % 2 = 1)
theorem num_odd (l : List Int) (hd : Dig 4294967296 l) : ((num 4294967296 l % 2 : Nat) : Int) = l[0]?.getD 0 % 2 := by
  cases l with
  | nil => rfl
  | cons x l =>
    have := hd x (by simp)
    simp only [num, List.getElem?_cons_zero, Option.getD_some]
    omega
theorem capD_of {k : Nat} (h : 32 * k = capE) : 4294967296 ^ k = capD := by rw [pow32, capD_eq, h]
theorem capD_40 : capD = 4294967296 ^ 40 := (capD_of rfl).symm
theorem may_dn {s : Bool} {xs : List Int} {e : Int} (hd : Dig 4294967296 xs) (h : MayD s xs e) : Dn.May ⟨s, num 4294967296 xs, e.toNat⟩ ∧ canon 4294967296 (num 4294967296 xs) = xs := by
  obtain ⟨⟨h1, h2⟩, h3, h4, h5, h6⟩ := h
  have hc := canon_of (by decide) hd h2 rfl
  have hz : num 4294967296 xs = 0 → xs = [] := fun h0 => by rw [h0, canon_zero] at hc; exact hc
  have hne : xs = [] → num 4294967296 xs = 0 := fun h0 => by rw [h0]; rfl
  refine ⟨⟨?_, ?_, fun h0 => ?_, fun h0 => ?_⟩, hc.symm⟩
  · show num 4294967296 xs < capD
    have := num_lt 4294967296 (by decide) xs hd
    rw [capD_40]
    exact Nat.lt_of_lt_of_le this (Nat.pow_le_pow_right (by decide) h1)
  · show e.toNat ≤ 1024
    omega
  · have h7 := h5 (hz h0)
    exact ⟨by show e.toNat = 0; omega, h7.2⟩
  · have h0' : 0 < e := by have : 0 < e.toNat := h0; omega
    have h7 : xs ≠ [] := fun h8 => by have := (h5 h8).1; omega
    have h8 := h6 h7 h0'
    have h9 := num_odd xs hd
    show num 4294967296 xs % 2 = 1
    omega
theorem dn_may {d : Dn} (h : d.May) : MayD d.neg (canon 4294967296 d.m) d.e := by
  obtain ⟨h1, h2, h3, h4⟩ := h
  obtain ⟨c1, c2, c3⟩ := canon_spec 4294967296 d.m (by decide)
  have hl := canon_len (B := 4294967296) (n := d.m) (k := 40) (by decide) (by rw [← capD_40]; exact h1)
  refine ⟨⟨hl, c2⟩, by omega, by omega, fun h0 => ?_, fun _ h0 => ?_⟩
  · have := h3 (canon_nil (by decide) h0)
    exact ⟨by omega, this.2⟩
  · have h5 := num_odd _ c1
    rw [c3] at h5
    have := h4 (by omega)
    omega
end Dp
end Go.Proofs.YtlbkepiflhchdaaDoor
