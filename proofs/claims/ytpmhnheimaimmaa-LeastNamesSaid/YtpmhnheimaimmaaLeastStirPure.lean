/- Numbers of 32 bits, stirred and stilled: no program in sight. -/
import Derived.WalkKit
import Derived.Laws.BitsAllLaws
namespace Go.Proofs.Ytpmhnheimaimmaa
namespace Least

def U (x : BitVec 32) : Int := (x.toNat : Int)
theorem U_lo (x : BitVec 32) : 0 ≤ U x := by unfold U; omega
theorem U_hi (x : BitVec 32) : U x ≤ 4294967295 := by unfold U; have := x.isLt; omega
theorem U_xor (x y : BitVec 32) : bits BinOp.xor IntKind.u32 (U x) (U y) = U (x ^^^ y) := by
  unfold U; rw [u32_xor_nat _ _ x.isLt y.isLt, BitVec.toNat_xor]
theorem U_shr (x : BitVec 32) (k : Nat) : U x / 2 ^ k = U (x >>> k) := by
  unfold U
  rw [BitVec.toNat_ushiftRight, Nat.shiftRight_eq_div_pow, Int.natCast_ediv, Int.natCast_pow]
  rfl
theorem U_mul (x y : BitVec 32) : (U x * U y) % 4294967296 = U (x * y) := by
  unfold U
  rw [BitVec.toNat_mul, Int.natCast_emod, Int.natCast_mul]
  rfl
theorem U_inj {x y : BitVec 32} (h : U x = U y) : x = y := by
  unfold U at h
  exact BitVec.eq_of_toNat_eq (by omega)
theorem U_of (n : Int) (h0 : 0 ≤ n) (h1 : n ≤ 4294967295) : ∃ x, n = U x := by
  refine ⟨BitVec.ofNat 32 n.toNat, ?_⟩
  unfold U
  rw [BitVec.toNat_ofNat, Nat.mod_eq_of_lt (by omega)]
  omega
theorem U_lt (x y : BitVec 32) : U x < U y ↔ x.toNat < y.toNat := by unfold U; omega

def factor : BitVec 32 := 2654435769#32
def counter : BitVec 32 := 340573321#32
theorem U_factor : U factor = 2654435769 := by decide
theorem U_counter : U counter = 340573321 := by decide
theorem factor_counter : factor * counter = 1#32 := by decide
theorem counter_factor : counter * factor = 1#32 := by decide

def xsh (x : BitVec 32) (k : Nat) : BitVec 32 := x ^^^ (x >>> k)
def xsh2 (x : BitVec 32) (k : Nat) : BitVec 32 := x ^^^ (x >>> k) ^^^ (x >>> (2 * k))
def stir1 (x : BitVec 32) (k : Nat) : BitVec 32 := xsh (x * factor) k
def still1 (x : BitVec 32) (k : Nat) : BitVec 32 := xsh2 x k * counter
def stirS (x : BitVec 32) : BitVec 32 := stir1 (stir1 (stir1 x 15) 13) 16
def stillS (x : BitVec 32) : BitVec 32 := still1 (still1 (still1 x 16) 13) 15

theorem xsh2_xsh (x : BitVec 32) (k : Nat) (h : 32 ≤ 3 * k) : xsh2 (xsh x k) k = x := by
  unfold xsh2 xsh
  refine BitVec.eq_of_getLsbD_eq fun i hi => ?_
  simp only [BitVec.getLsbD_xor, BitVec.getLsbD_ushiftRight]
  have : x.getLsbD (k + (2 * k + i)) = false := BitVec.getLsbD_of_ge _ _ (by omega)
  rw [this, show k + (k + i) = 2 * k + i by omega]
  cases x.getLsbD i <;> cases x.getLsbD (k + i) <;> cases x.getLsbD (2 * k + i) <;> rfl
theorem xsh_xsh2 (x : BitVec 32) (k : Nat) (h : 32 ≤ 3 * k) : xsh (xsh2 x k) k = x := by
  unfold xsh2 xsh
  refine BitVec.eq_of_getLsbD_eq fun i hi => ?_
  simp only [BitVec.getLsbD_xor, BitVec.getLsbD_ushiftRight]
  have : x.getLsbD (2 * k + (k + i)) = false := BitVec.getLsbD_of_ge _ _ (by omega)
  rw [this, show k + (k + i) = 2 * k + i by omega]
  cases x.getLsbD i <;> cases x.getLsbD (k + i) <;> cases x.getLsbD (2 * k + i) <;> rfl
theorem still1_stir1 (x : BitVec 32) (k : Nat) (h : 32 ≤ 3 * k) : still1 (stir1 x k) k = x := by
  unfold still1 stir1
  rw [xsh2_xsh _ _ h, BitVec.mul_assoc, factor_counter, BitVec.mul_one]
theorem stir1_still1 (x : BitVec 32) (k : Nat) (h : 32 ≤ 3 * k) : stir1 (still1 x k) k = x := by
  unfold still1 stir1
  rw [BitVec.mul_assoc, counter_factor, BitVec.mul_one, xsh_xsh2 _ _ h]
theorem still_stir (x : BitVec 32) : stillS (stirS x) = x := by
  unfold stillS stirS
  rw [still1_stir1 _ 16 (by decide), still1_stir1 _ 13 (by decide), still1_stir1 _ 15 (by decide)]
theorem stir_still (x : BitVec 32) : stirS (stillS x) = x := by
  unfold stillS stirS
  rw [stir1_still1 _ 15 (by decide), stir1_still1 _ 13 (by decide), stir1_still1 _ 16 (by decide)]
end Least
end Go.Proofs.Ytpmhnheimaimmaa
