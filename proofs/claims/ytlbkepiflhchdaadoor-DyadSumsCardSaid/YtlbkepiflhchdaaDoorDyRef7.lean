/- The limbs of bits, by a walk. -/
import Derived.Test.YtlbkepiflhchdaaDoorDyRef6
namespace Go.Proofs.YtlbkepiflhchdaaDoor
open Go.RowKit
namespace Dy
theorem num_last (B : Nat) (l : List Int) (h : l ≠ []) : num B l = num B l.dropLast + B ^ (l.length - 1) * (l.getLast h).toNat := by
  conv => lhs; rw [← List.dropLast_concat_getLast h]
  rw [num_append]
  simp [num]
theorem num_ge {B : Nat} {l : List Int} (hd : Dig B l) (hc : Cutd l) (h : l ≠ []) : B ^ (l.length - 1) ≤ num B l := by
  rw [num_last B l h]
  have h1 := hc h
  have h2 := hd _ (List.getLast_mem h)
  have : B ^ (l.length - 1) * 1 ≤ B ^ (l.length - 1) * (l.getLast h).toNat := Nat.mul_le_mul_left _ (by omega)
  omega
theorem cutd_of_ge {B : Nat} (hB : 0 < B) {l : List Int} (hd : Dig B l) (hg : l ≠ [] → B ^ (l.length - 1) ≤ num B l) : Cutd l := fun h h0 => by
  have h1 := hg h
  rw [num_last B l h, h0] at h1
  have h2 := num_lt B hB l.dropLast fun x hx => hd x (List.dropLast_subset _ hx)
  simp at h1 h2
  omega
/-- The digits from place i on, below place t. -/
def part (l : List Int) (i t : Nat) : List Int := (l.take t).drop i
theorem part_none (l : List Int) (t : Nat) : part l t t = [] := by
  unfold part
  rw [List.drop_eq_nil_of_le (by simp; omega)]
theorem part_step (B : Nat) (l : List Int) {i t : Nat} (hi : i < t) (ht : t ≤ l.length) : num B (part l i t) = (l[i]?.getD 0).toNat + B * num B (part l (i + 1) t) := by
  unfold part
  rw [List.drop_eq_getElem_cons (by simp; omega)]
  simp only [num, List.getElem_take]
  rw [List.getElem?_eq_getElem (by omega)]
  rfl
theorem part_split (B : Nat) (l : List Int) {i t : Nat} (hi : i ≤ t) (ht : i ≤ l.length) : num B (l.take t) = num B (l.take i) + B ^ i * num B (part l i t) := by
  rw [num_split B (l.take t) i, List.take_take, Nat.min_eq_left hi]
  rfl
theorem part_lt {B : Nat} (hB : 0 < B) {l : List Int} (hd : Dig B l) {i t k : Nat} (h : t ≤ i + k) : num B (part l i t) < B ^ k := by
  have h1 := num_lt B hB (part l i t) fun x hx => hd x (List.mem_of_mem_take (List.mem_of_mem_drop hx))
  have h2 : B ^ (part l i t).length ≤ B ^ k := Nat.pow_le_pow_right hB (by unfold part; simp; omega)
  omega
end Dy
end Go.Proofs.YtlbkepiflhchdaaDoor
