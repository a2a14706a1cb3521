/- Sums and differences of 32 bits with what is carried, the lowest and the highest bit: walks. -/
import Derived.Test.YtlbkepiflhchdaaDoorDyRef1
import Derived.Test.YtlbkepiflhchdaaDoorDyPure2
import Derived.IntWalk
import Derived.Laws.BitsAllLaws
import Derived.Shelf.Spec.TrailingZeros
import Derived.Lib.BitFns
namespace Go.Proofs.YtlbkepiflhchdaaDoor
open Go.RowKit
namespace Dy
theorem ret_two {k l : IntKind} {a b c d : Int} (h : a = c) (h' : b = d) : Ending.returned (.tuple #[.int k a, .int l b]) = .returned (.tuple #[.int k c, .int l d]) := by rw [h, h']
theorem top_and (a b : Nat) : (a &&& b) / 2147483648 = (a / 2147483648) &&& (b / 2147483648) := by
  have := Nat.shiftRight_and_distrib (a := a) (b := b) (i := 31)
  simpa [Nat.shiftRight_eq_div_pow] using this
theorem top_or (a b : Nat) : (a ||| b) / 2147483648 = (a / 2147483648) ||| (b / 2147483648) := by
  have := Nat.shiftRight_or_distrib (a := a) (b := b) (i := 31)
  simpa [Nat.shiftRight_eq_div_pow] using this
theorem top_xor (a b : Nat) : (a ^^^ b) / 2147483648 = (a / 2147483648) ^^^ (b / 2147483648) := by
  have := Nat.shiftRight_xor_distrib (a := a) (b := b) (i := 31)
  simpa [Nat.shiftRight_eq_div_pow] using this
theorem borrow_law (x y d c b : Nat) (hx : x < 4294967296) (hy : y < 4294967296) (hd : d < 4294967296) (hc : c ≤ 1) (hb : b ≤ 1) (h : x + 4294967296 * b = d + y + c) :
    (((4294967295 ^^^ x) &&& y) ||| ((4294967295 ^^^ (x ^^^ y)) &&& d)) / 2147483648 = b := by
  have ex : x / 2147483648 = 0 ∨ x / 2147483648 = 1 := by omega
  have ey : y / 2147483648 = 0 ∨ y / 2147483648 = 1 := by omega
  have ed : d / 2147483648 = 0 ∨ d / 2147483648 = 1 := by omega
  rw [top_or, top_and, top_and, top_xor, top_xor, top_xor]
  rcases ex with ex | ex <;> rcases ey with ey | ey <;> rcases ed with ed | ed <;> rw [ex, ey, ed] <;> simp <;> omega
theorem bits_lt {a b : Nat} (ha : a < 4294967296) (hb : b < 4294967296) : a &&& b < 4294967296 ∧ a ||| b < 4294967296 ∧ a ^^^ b < 4294967296 :=
  ⟨Nat.and_lt_two_pow (n := 32) _ hb, Nat.or_lt_two_pow (n := 32) ha hb, Nat.xor_lt_two_pow (n := 32) ha hb⟩
theorem u32_max : IntKind.u32.max = ((4294967295 : Nat) : Int) := by decide
theorem borrow_bits (x y d c b : Nat) (hx : x < 4294967296) (hy : y < 4294967296) (hd : d < 4294967296) (hc : c ≤ 1) (hb : b ≤ 1) (h : x + 4294967296 * b = d + y + c) :
    bits .or .u32 (bits .and .u32 (bits .xor .u32 IntKind.u32.max (x : Int)) (y : Int)) (bits .and .u32 (bits .xor .u32 IntKind.u32.max (bits .xor .u32 (x : Int) (y : Int))) (((x : Int) - y - c) % 4294967296)) / 2147483648 = (b : Int) := by
  have e1 : ((x : Int) - y - c) % 4294967296 = (d : Int) := by omega
  have h4 : (4294967295 : Nat) < 4294967296 := by decide
  rw [e1, u32_max, u32_xor_nat _ _ h4 hx, u32_xor_nat _ _ hx hy, u32_xor_nat _ _ h4 (bits_lt hx hy).2.2, u32_and_nat _ _ (bits_lt h4 hx).2.2 hy, u32_and_nat _ _ (bits_lt h4 (bits_lt hx hy).2.2).2.2 hd,
    u32_or_nat _ _ (bits_lt (bits_lt h4 hx).2.2 hy).1 (bits_lt (bits_lt h4 (bits_lt hx hy).2.2).2.2 hd).1]
  have := borrow_law x y d c b hx hy hd hc hb h
  omega
set_option maxRecDepth 100000 in
/-- bits.Add32. -/
theorem Add32_any (w : World) (x y c s t : Nat) (hx : x < 4294967296) (hy : y < 4294967296) (hc : c ≤ 1) (hs : (x + y + c) % 4294967296 = s) (ht : (x + y + c) / 4294967296 = t) :
    Calls Tryd.prog 89 #[.int .u32 x, .int .u32 y, .int .u32 c] w fun e w' => e = .returned (.tuple #[.int .u32 s, .int .u32 t]) ∧ w' = w := by
  have HS := Lib.hid hs
  have HT := Lib.hid ht
  clear hs ht
  go_enter Tryd.func89, Tryd.ntmps89
  go_wp2
  go_ret2
  exact ⟨ret_two (by rw [← HS.out]; omega) (by rw [← HT.out]; omega), rfl⟩

set_option maxRecDepth 100000 in
/-- bits.Sub32. -/
theorem Sub32_any (w : World) (x y c d b : Nat) (hx : x < 4294967296) (hy : y < 4294967296) (hd : d < 4294967296) (hc : c ≤ 1) (hb : b ≤ 1) (h : x + 4294967296 * b = d + y + c) :
    Calls Tryd.prog 91 #[.int .u32 x, .int .u32 y, .int .u32 c] w fun e w' => e = .returned (.tuple #[.int .u32 d, .int .u32 b]) ∧ w' = w := by
  have H := Lib.hid (borrow_bits x y d c b hx hy hd hc hb h)
  have HD := Lib.hid h
  clear h
  go_enter Tryd.func91, Tryd.ntmps91
  go_wp2
  go_ret2
  exact ⟨ret_two (by have := HD.out; omega) H.out, rfl⟩

theorem tab_size : (Lib.len8tab.size : Int) = 256 := by decide +kernel
theorem tab_at : ∀ n : Fin 256, (Lib.len8tab[n.val]'(by have : Lib.len8tab.size = 256 := by decide +kernel
                                                        omega)).toNat = Lib.bitLen n.val := by decide +kernel
theorem tab_int (z : Int) (h0 : 0 ≤ z) (h1 : z < 256) (h : z.toNat < Lib.len8tab.size) : (Lib.len8tab[z.toNat]'h).toNat = Lib.bitLen z.toNat := tab_at ⟨z.toNat, by omega⟩
theorem tab_wrap (z k : Int) (h0 : 0 ≤ z) (h1 : z < 256) (k0 : 0 ≤ k) (k1 : k ≤ 24) (h : z.toNat < Lib.len8tab.size) : wrap64 (k + wrap64 ((Lib.len8tab[z.toNat]'h).toNat : Int)) = k + (Lib.bitLen z.toNat : Int) := by
  rw [tab_int z h0 h1 h]
  have := Lib.bitLen_le8' z h0 (by omega)
  unfold wrap64
  omega
set_option maxHeartbeats 4000000 in
set_option maxRecDepth 100000 in
/-- bits.Len32. -/
theorem Len32_any (w : World) (x : Int) (h0 : 0 ≤ x) (h1 : x ≤ 4294967295) :
    Calls Tryd.prog 93 #[.int .u32 x] w fun e w' => e = .returned (.int .i64 (Lib.bitLen x.toNat)) ∧ w' = w := by
  have hs := tab_size
  by_cases c1 : 65536 ≤ x
  · by_cases c2 : 16777216 ≤ x
    · have d1 : 256 ≤ x / 65536 := by omega
      have d2 : x / 65536 / 256 ≤ 255 := by omega
      have d3 : x / 65536 / 256 < (Lib.len8tab.size : Int) := by omega
      have hb : Hid ((Lib.bitLen x.toNat : Int) = 24 + (Lib.bitLen (x / 65536 / 256).toNat : Int)) := by
        have s := Lib.bitLen_shift24 x.toNat (by omega) (by omega)
        have e : (x / 65536 / 256).toNat = x.toNat / 16777216 := by omega
        rw [Hid, e]
        omega
      clear hs
      go_enter Tryd.func93, Tryd.ntmps93
      go_wp2
      go_ret
      exact ⟨ret_int (by rw [hb.out]; exact tab_wrap _ 24 (by omega) (by omega) (by omega) (by omega) _), rfl⟩
    · have d1 : x / 65536 < 256 := by omega
      have d2 : 0 ≤ x / 65536 := by omega
      have d3 : x / 65536 < (Lib.len8tab.size : Int) := by omega
      have hb : Hid ((Lib.bitLen x.toNat : Int) = 16 + (Lib.bitLen (x / 65536).toNat : Int)) := by
        have s := Lib.bitLen_shift16 x.toNat (by omega) (by omega)
        have e : (x / 65536).toNat = x.toNat / 65536 := by omega
        rw [Hid, e]
        omega
      clear hs
      go_enter Tryd.func93, Tryd.ntmps93
      go_wp2
      go_ret
      exact ⟨ret_int (by rw [hb.out]; exact tab_wrap _ 16 (by omega) (by omega) (by omega) (by omega) _), rfl⟩
  · by_cases c2 : 256 ≤ x
    · have d1 : x / 256 < 256 := by omega
      have d2 : 0 ≤ x / 256 := by omega
      have d3 : x / 256 < (Lib.len8tab.size : Int) := by omega
      have hb : Hid ((Lib.bitLen x.toNat : Int) = 8 + (Lib.bitLen (x / 256).toNat : Int)) := by
        have s := Lib.bitLen_shift8 x.toNat (by omega) (by omega)
        have e : (x / 256).toNat = x.toNat / 256 := by omega
        rw [Hid, e]
        omega
      clear hs
      go_enter Tryd.func93, Tryd.ntmps93
      go_wp2
      go_ret
      exact ⟨ret_int (by rw [hb.out]; exact tab_wrap _ 8 (by omega) (by omega) (by omega) (by omega) _), rfl⟩
    · have d1 : x < 256 := by omega
      have d3 : x < (Lib.len8tab.size : Int) := by omega
      clear hs
      go_enter Tryd.func93, Tryd.ntmps93
      go_wp2
      go_ret
      exact ⟨ret_int (by
        have := tab_wrap x 0 h0 d1 (by omega) (by omega) (by have := tab_size; omega)
        rw [Int.zero_add, Int.zero_add] at this
        rw [this]), rfl⟩
theorem len_aux : ∀ (f x : Nat), x ≠ 0 → x < 2 ^ f → 0 < Lib.bitLenAux f x ∧ 2 ^ (Lib.bitLenAux f x - 1) ≤ x ∧ x < 2 ^ Lib.bitLenAux f x ∧ Lib.bitLenAux f x ≤ f
  | 0, x, h0, h => by
    have : x < 1 := h
    omega
  | f + 1, x, h0, h => by
    have e : Lib.bitLenAux (f + 1) x = 1 + Lib.bitLenAux f (x / 2) := by simp [Lib.bitLenAux, h0]
    rw [e]
    by_cases h1 : x / 2 = 0
    · have e1 : Lib.bitLenAux f (x / 2) = 0 := by rw [h1]; cases f <;> simp [Lib.bitLenAux]
      rw [e1]
      exact ⟨by omega, by simpa using (show 1 ≤ x by omega), by simpa using (show x < 2 by omega), by omega⟩
    · obtain ⟨i1, i2, i3, i4⟩ := len_aux f (x / 2) h1 (by rw [Nat.pow_succ] at h; omega)
      generalize Lib.bitLenAux f (x / 2) = n at *
      refine ⟨by omega, ?_, ?_, by omega⟩
      · have e2 : 2 ^ (1 + n - 1) = 2 ^ (n - 1) * 2 := by rw [← Nat.pow_succ, show 1 + n - 1 = n - 1 + 1 by omega]
        omega
      · rw [Nat.add_comm, Nat.pow_succ]
        omega
theorem len_bounds (x : Nat) (h0 : x ≠ 0) (h : x < 4294967296) : 0 < Lib.bitLen x ∧ 2 ^ (Lib.bitLen x - 1) ≤ x ∧ x < 2 ^ Lib.bitLen x ∧ Lib.bitLen x ≤ 32 := by
  have e : Lib.bitLen x = Lib.bitLenAux 32 x := Lib.bitLenAux_fuel 32 x h 64 (by decide)
  rw [e]
  exact len_aux 32 x h0 h
theorem tz_bounds (x : Nat) (h0 : x ≠ 0) (h : x < 4294967296) : (∃ q, x = 2 ^ Lib.ctz 32 x * (2 * q + 1)) ∧ Lib.ctz 32 x < 32 := by
  have e : Lib.ctz 32 x = Lib.ctzFrom 32 x := by simp [Lib.ctz, h0]
  rw [e]
  obtain ⟨m, h1, h2⟩ := Lib.ctzFrom_spec 32 x (by omega) h
  exact ⟨⟨m, h1⟩, h2⟩
set_option maxRecDepth 100000 in
theorem Tz32_core (w : World) (x k idx : Nat) (hx0 : ((x : Int) == 0) = false) (key : bits BinOp.and IntKind.u32 (x : Int) (-(x : Int) % 4294967296) * 125613361 % 4294967296 / 134217728 = (idx : Int))
    (hi : idx < 32) (hk : k < 32) (hcell : w.cell? ⟨0, idx, none⟩ = some (.int .u8 k)) :
    Calls Tryd.prog 92 #[.int .u32 x] w fun e w' => e = .returned (.int .i64 k) ∧ w' = w := by
  go_enter Tryd.func92, Tryd.ntmps92
  go_wp2_with (simp only [key])
  go_ret
  exact ⟨rfl, rfl⟩
/-- bits.TrailingZeros32. -/
theorem Tz32_any (w : World) (x : Nat) (hx : x < 4294967296) (hx0 : x ≠ 0) (hT : TabAt 0 Lib.deBruijn32tab w) :
    Calls Tryd.prog 92 #[.int .u32 x] w fun e w' => e = .returned (.int .i64 (Lib.ctz 32 x)) ∧ w' = w := by
  obtain ⟨hlow, hk⟩ := Lib.lowest_bit 32 x hx0 hx
  obtain ⟨hi, htab⟩ := Lib.deBruijn32_at _ hk
  have hcell := hT _ hi
  rw [htab] at hcell
  exact Tz32_core w x _ _ (by simp; omega) (tz32_key x _ hx hx0 hlow) hi hk hcell
end Dy
end Go.Proofs.YtlbkepiflhchdaaDoor
