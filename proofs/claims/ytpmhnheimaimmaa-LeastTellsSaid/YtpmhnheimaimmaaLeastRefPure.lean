/- How the reference stills numbers, bit by bit: no program in sight. -/
import Derived.Test.YtpmhnheimaimmaaLeastStirPure
namespace Go.Proofs.Ytpmhnheimaimmaa
namespace Least

theorem U_or (x y : BitVec 32) : bits BinOp.or IntKind.u32 (U x) (U y) = U (x ||| y) := by
  unfold U
  rw [u32_or_nat _ _ x.isLt y.isLt, BitVec.toNat_or]
theorem U_mod2 (x : BitVec 32) : U x % 2 = U (x &&& 1#32) := by
  unfold U
  rw [BitVec.toNat_and]
  have : (1#32 : BitVec 32).toNat = 1 := rfl
  rw [this, Nat.and_one_is_mod]
  omega

/-- What stands from bit i on. -/
def hiP (y : BitVec 32) (i : Nat) : BitVec 32 := (y >>> i) <<< i
theorem hiP_top (y : BitVec 32) : hiP y 32 = 0#32 := by
  unfold hiP
  refine BitVec.eq_of_getLsbD_eq fun i hi => ?_
  simp <;> omega
theorem hiP_all (y : BitVec 32) : hiP y 0 = y := by
  unfold hiP
  refine BitVec.eq_of_getLsbD_eq fun i hi => ?_
  simp
theorem hiP_bit (y : BitVec 32) (i j : Nat) : (hiP y i).getLsbD j = (decide (j < 32) && decide (i ≤ j) && y.getLsbD j) := by
  unfold hiP
  by_cases h : i ≤ j
  · have e : i + (j - i) = j := by omega
    simp [h, e, Nat.not_lt.2 h]
  · have e : j < i := by omega
    simp [h, e]
theorem one_bit (j : Nat) : (1#32 : BitVec 32).getLsbD j = decide (j = 0) := by
  rcases j with _ | j
  · rfl
  · simp
theorem hi_step (y : BitVec 32) (k i : Nat) (hi : i < 32) (hk : i + k < 32) (hk0 : 0 < k) :
    hiP y (i + 1) ||| ((((xsh y k >>> i) &&& 1#32) ^^^ ((hiP y (i + 1) >>> (i + k)) &&& 1#32)) <<< i) = hiP y i := by
  refine BitVec.eq_of_getLsbD_eq fun j hj => ?_
  simp only [BitVec.getLsbD_or, hiP_bit, BitVec.getLsbD_shiftLeft, BitVec.getLsbD_xor, BitVec.getLsbD_and, BitVec.getLsbD_ushiftRight, one_bit, xsh]
  by_cases h1 : j < i
  · have a1 : ¬ i + 1 ≤ j := by omega
    have a2 : ¬ i ≤ j := by omega
    simp [h1, a1, a2]
  · by_cases h2 : j = i
    · subst h2
      have a4 : j + 1 ≤ j + k := by omega
      simp [hj, hk, a4, Nat.add_comm k j]
      try (cases y.getLsbD j <;> cases y.getLsbD (j + k) <;> rfl)
    · have a1 : i + 1 ≤ j := by omega
      have a2 : i ≤ j := by omega
      have a3 : ¬ j - i = 0 := by omega
      simp [hj, a1, a2, a3]
theorem hi_step' (y : BitVec 32) (k i : Nat) (hi : i < 32) (hk : ¬ i + k < 32) :
    hiP y (i + 1) ||| (((xsh y k >>> i) &&& 1#32) <<< i) = hiP y i := by
  refine BitVec.eq_of_getLsbD_eq fun j hj => ?_
  simp only [BitVec.getLsbD_or, hiP_bit, BitVec.getLsbD_shiftLeft, BitVec.getLsbD_xor, BitVec.getLsbD_and, BitVec.getLsbD_ushiftRight, one_bit, xsh]
  by_cases h1 : j < i
  · have a1 : ¬ i + 1 ≤ j := by omega
    have a2 : ¬ i ≤ j := by omega
    simp [h1, a1, a2]
  · by_cases h2 : j = i
    · subst h2
      have a5 : y.getLsbD (k + j) = false := BitVec.getLsbD_of_ge _ _ (by omega)
      simp [hj, a5]
    · have a1 : i + 1 ≤ j := by omega
      have a2 : i ≤ j := by omega
      have a3 : ¬ j - i = 0 := by omega
      simp [hj, a1, a2, a3]
/-- What stands below bit i. -/
def loP (z : BitVec 32) (i : Nat) : BitVec 32 := BitVec.ofNat 32 (z.toNat % 2 ^ i)
theorem loP_nat (z : BitVec 32) (i : Nat) : (loP z i).toNat = z.toNat % 2 ^ i := by
  unfold loP
  rw [BitVec.toNat_ofNat, Nat.mod_eq_of_lt]
  exact Nat.lt_of_le_of_lt (Nat.mod_le _ _) z.isLt
theorem loP_zero (z : BitVec 32) : loP z 0 = 0#32 := by
  apply BitVec.eq_of_toNat_eq
  rw [loP_nat]
  simp [Nat.mod_one]
theorem loP_all (z : BitVec 32) : loP z 32 = z := by
  apply BitVec.eq_of_toNat_eq
  rw [loP_nat, Nat.mod_eq_of_lt z.isLt]
theorem bit_mod (a i : Nat) (hi : i < 32) : a % 2 ^ 32 / 2 ^ i % 2 = a / 2 ^ i % 2 := by
  have h : 2 ^ 32 = 2 ^ i * 2 ^ (32 - i) := by rw [← Nat.pow_add]; congr 1; omega
  rw [h, Nat.mod_mul_right_div_self]
  have h2 : 2 ^ (32 - i) = 2 * 2 ^ (32 - i - 1) := by rw [← Nat.pow_succ']; congr 1; omega
  rw [h2, Nat.mod_mul_right_mod]
theorem part_bit (z F i : Nat) (hF : F % 2 = 1) (hi : i < 32) : (z % 2 ^ i * F % 2 ^ 32 / 2 ^ i % 2 ≠ z * F % 2 ^ 32 / 2 ^ i % 2) ↔ z / 2 ^ i % 2 = 1 := by
  rw [bit_mod _ _ hi, bit_mod _ _ hi]
  have hz : z * F = z % 2 ^ i * F + 2 ^ i * (z / 2 ^ i * F) := by
    rw [← Nat.mul_assoc, ← Nat.add_mul, Nat.mod_add_div]
  have hd : z * F / 2 ^ i = z % 2 ^ i * F / 2 ^ i + z / 2 ^ i * F := by
    rw [hz, Nat.add_mul_div_left _ _ (Nat.two_pow_pos i)]
  rw [hd, Nat.add_mod, Nat.mul_mod (z / 2 ^ i) F, hF]
  have h1 := Nat.mod_lt (z % 2 ^ i * F / 2 ^ i) (show 0 < 2 by decide)
  have h2 := Nat.mod_lt (z / 2 ^ i) (show 0 < 2 by decide)
  generalize z % 2 ^ i * F / 2 ^ i % 2 = p at *
  generalize z / 2 ^ i % 2 = q at *
  have hp : p = 0 ∨ p = 1 := by omega
  have hq : q = 0 ∨ q = 1 := by omega
  rcases hp with rfl | rfl <;> rcases hq with rfl | rfl <;> decide
theorem lo_step (z : BitVec 32) (i : Nat) (hi : i < 32) : loP z (i + 1) = if z.toNat / 2 ^ i % 2 = 1 then loP z i ||| (1#32 <<< i) else loP z i := by
  apply BitVec.eq_of_toNat_eq
  have hm := Nat.mod_pow_succ (b := 2) (k := i) (x := z.toNat)
  have hlt : z.toNat % 2 ^ i < 2 ^ i := Nat.mod_lt _ (Nat.two_pow_pos i)
  split
  · rename_i h
    rw [loP_nat, hm, h, Nat.mul_one, BitVec.toNat_or, loP_nat, BitVec.toNat_shiftLeft]
    have e1 : (1#32 : BitVec 32).toNat <<< i % 2 ^ 32 = 2 ^ i := by
      rw [show (1#32 : BitVec 32).toNat = 1 from rfl, Nat.shiftLeft_eq, Nat.one_mul, Nat.mod_eq_of_lt (Nat.pow_lt_pow_right (by decide) hi)]
    rw [e1]
    have := Nat.two_pow_add_eq_or_of_lt hlt 1
    rw [Nat.mul_one] at this
    rw [Nat.add_comm, this, Nat.or_comm]
  · rename_i h
    have : z.toNat / 2 ^ i % 2 = 0 := by omega
    rw [loP_nat, loP_nat, hm, this, Nat.mul_zero, Nat.add_zero]
end Least
end Go.Proofs.Ytpmhnheimaimmaa
