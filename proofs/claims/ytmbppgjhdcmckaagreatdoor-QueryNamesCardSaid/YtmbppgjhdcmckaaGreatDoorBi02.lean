/- Sums and differences of 32 bits with what is carried, the lowest and the highest bit: walks. -/
/- Whether limbs, and dyads, may be: walks. -/
/- A dyad's limbs, shifted, in a long array: a walk. -/
/- How two long numbers stand: a walk. -/
/- A number is added to one under way: a walk. -/
/- The ratio package's long numbers: widen, below (printed by a program of mine out of the dyad package's). -/
/- A region that draws its order, some of whose operations turn what others read: they wait for them. No program in sight. -/
/- A number of another sign is added to one under way: a walk. -/
import Derived.IntWalk
import Derived.Laws.BitsAllLaws
import Derived.Shelf.Spec.TrailingZeros
import Derived.Lib.BitFns
import Derived.Test.YtmbppgjhdcmckaaGreatDoorBi01
import Derived.Deep.WholeRow
import Derived.Deep.MidRow
import Derived.Outline
import Derived.Deep.RegionLawGrows
import Derived.Deep.AppendLies
import Derived.Deep.RegionHeld3
import Derived.ScopeJumps
namespace Go.Proofs.YtmbppgjhdcmckaaGreatDoor
open Go.RowKit
namespace Dy
theorem ret_two {k l : IntKind} {a b c d : Int} (h : a = c) (h' : b = d) : Ending.returned (.tuple #[.int k a, .int l b]) = .returned (.tuple #[.int k c, .int l d]) := by rw [h, h']
theorem top_and (a b : Nat) : (a &&& b) / 2147483648 = (a / 2147483648) &&& (b / 2147483648) := by
 have := Nat.shiftRight_and_distrib (a := a) (b := b) (i := 31)
 simpa [Nat.shiftRight_eq_div_pow] using this
theorem top_or (a b : Nat) : (a ||| b) / 2147483648 = (a / 2147483648) ||| (b / 2147483648) := by
 have := Nat.shiftRight_or_distrib (a := a) (b := b) (i := 31)
 simpa [Nat.shiftRight_eq_div_pow] using this
theorem top_xor (a b : Nat) : (a ^^^ b) / 2147483648 = (a / 2147483648) ^^^ (b / 2147483648) := by
 have := Nat.shiftRight_xor_distrib (a := a) (b := b) (i := 31)
 simpa [Nat.shiftRight_eq_div_pow] using this
theorem borrow_law (x y d c b : Nat) (hx : x < 4294967296) (hy : y < 4294967296) (hd : d < 4294967296) (hc : c ≤ 1) (hb : b ≤ 1) (h : x + 4294967296 * b = d + y + c) :
  (((4294967295 ^^^ x) &&& y) ||| ((4294967295 ^^^ (x ^^^ y)) &&& d)) / 2147483648 = b := by
 have ex : x / 2147483648 = 0 ∨ x / 2147483648 = 1 := by omega
 have ey : y / 2147483648 = 0 ∨ y / 2147483648 = 1 := by omega
 have ed : d / 2147483648 = 0 ∨ d / 2147483648 = 1 := by omega
 rw [top_or, top_and, top_and, top_xor, top_xor, top_xor]
 rcases ex with ex | ex <;> rcases ey with ey | ey <;> rcases ed with ed | ed <;> rw [ex, ey, ed] <;> simp <;> omega
theorem bits_lt {a b : Nat} (ha : a < 4294967296) (hb : b < 4294967296) : a &&& b < 4294967296 ∧ a ||| b < 4294967296 ∧ a ^^^ b < 4294967296 :=
 ⟨Nat.and_lt_two_pow (n := 32) _ hb, Nat.or_lt_two_pow (n := 32) ha hb, Nat.xor_lt_two_pow (n := 32) ha hb⟩
theorem u32_max : IntKind.u32.max = ((4294967295 : Nat) : Int) := by decide
theorem borrow_bits (x y d c b : Nat) (hx : x < 4294967296) (hy : y < 4294967296) (hd : d < 4294967296) (hc : c ≤ 1) (hb : b ≤ 1) (h : x + 4294967296 * b = d + y + c) :
  bits .or .u32 (bits .and .u32 (bits .xor .u32 IntKind.u32.max (x : Int)) (y : Int)) (bits .and .u32 (bits .xor .u32 IntKind.u32.max (bits .xor .u32 (x : Int) (y : Int))) (((x : Int) - y - c) % 4294967296)) / 2147483648 = (b : Int) := by
 have e1 : ((x : Int) - y - c) % 4294967296 = (d : Int) := by omega
 have h4 : (4294967295 : Nat) < 4294967296 := by decide
 rw [e1, u32_max, u32_xor_nat _ _ h4 hx, u32_xor_nat _ _ hx hy, u32_xor_nat _ _ h4 (bits_lt hx hy).2.2, u32_and_nat _ _ (bits_lt h4 hx).2.2 hy, u32_and_nat _ _ (bits_lt h4 (bits_lt hx hy).2.2).2.2 hd,
  u32_or_nat _ _ (bits_lt (bits_lt h4 hx).2.2 hy).1 (bits_lt (bits_lt h4 (bits_lt hx hy).2.2).2.2 hd).1]
 have := borrow_law x y d c b hx hy hd hc hb h
 omega
set_option maxRecDepth 100000 in
/-- bits.Sub32. -/
theorem Sub32_any (w : World) (x y c d b : Nat) (hx : x < 4294967296) (hy : y < 4294967296) (hd : d < 4294967296) (hc : c ≤ 1) (hb : b ≤ 1) (h : x + 4294967296 * b = d + y + c) :
  Calls Tryz.prog 209 #[.int .u32 x, .int .u32 y, .int .u32 c] w fun e w' => e = .returned (.tuple #[.int .u32 d, .int .u32 b]) ∧ w' = w := by
 have H := Lib.hid (borrow_bits x y d c b hx hy hd hc hb h)
 have HD := Lib.hid h
 clear h
 go_enter Tryz.func209, Tryz.ntmps209
 go_wp2
 go_ret2
 exact ⟨ret_two (by have := HD.out; omega) H.out, rfl⟩
theorem tab_size : (Lib.len8tab.size : Int) = 256 := by decide +kernel
theorem tab_at : ∀ n : Fin 256, (Lib.len8tab[n.val]'(by have : Lib.len8tab.size = 256 := by decide +kernel
                                                        omega)).toNat = Lib.bitLen n.val := by decide +kernel
theorem tab_int (z : Int) (h0 : 0 ≤ z) (h1 : z < 256) (h : z.toNat < Lib.len8tab.size) : (Lib.len8tab[z.toNat]'h).toNat = Lib.bitLen z.toNat := tab_at ⟨z.toNat, by omega⟩
theorem tab_wrap (z k : Int) (h0 : 0 ≤ z) (h1 : z < 256) (k0 : 0 ≤ k) (k1 : k ≤ 24) (h : z.toNat < Lib.len8tab.size) : wrap64 (k + wrap64 ((Lib.len8tab[z.toNat]'h).toNat : Int)) = k + (Lib.bitLen z.toNat : Int) := by
 rw [tab_int z h0 h1 h]
 have := Lib.bitLen_le8' z h0 (by omega)
 unfold wrap64
 omega
set_option maxHeartbeats 4000000 in
set_option maxRecDepth 100000 in
/-- bits.Len32. -/
theorem Len32_any (w : World) (x : Int) (h0 : 0 ≤ x) (h1 : x ≤ 4294967295) :
  Calls Tryz.prog 179 #[.int .u32 x] w fun e w' => e = .returned (.int .i64 (Lib.bitLen x.toNat)) ∧ w' = w := by
 have hs := tab_size
 by_cases c1 : 65536 ≤ x
 · by_cases c2 : 16777216 ≤ x
   · have d1 : 256 ≤ x / 65536 := by omega
     have d2 : x / 65536 / 256 ≤ 255 := by omega
     have d3 : x / 65536 / 256 < (Lib.len8tab.size : Int) := by omega
     have hb : Hid ((Lib.bitLen x.toNat : Int) = 24 + (Lib.bitLen (x / 65536 / 256).toNat : Int)) := by
      have s := Lib.bitLen_shift24 x.toNat (by omega) (by omega)
      have e : (x / 65536 / 256).toNat = x.toNat / 16777216 := by omega
      rw [Hid, e]
      omega
     clear hs
     go_enter Tryz.func179, Tryz.ntmps179
     go_wp2
     go_ret
     exact ⟨ret_int (by rw [hb.out]; exact tab_wrap _ 24 (by omega) (by omega) (by omega) (by omega) _), rfl⟩
   · have d1 : x / 65536 < 256 := by omega
     have d2 : 0 ≤ x / 65536 := by omega
     have d3 : x / 65536 < (Lib.len8tab.size : Int) := by omega
     have hb : Hid ((Lib.bitLen x.toNat : Int) = 16 + (Lib.bitLen (x / 65536).toNat : Int)) := by
      have s := Lib.bitLen_shift16 x.toNat (by omega) (by omega)
      have e : (x / 65536).toNat = x.toNat / 65536 := by omega
      rw [Hid, e]
      omega
     clear hs
     go_enter Tryz.func179, Tryz.ntmps179
     go_wp2
     go_ret
     exact ⟨ret_int (by rw [hb.out]; exact tab_wrap _ 16 (by omega) (by omega) (by omega) (by omega) _), rfl⟩
 · by_cases c2 : 256 ≤ x
   · have d1 : x / 256 < 256 := by omega
     have d2 : 0 ≤ x / 256 := by omega
     have d3 : x / 256 < (Lib.len8tab.size : Int) := by omega
     have hb : Hid ((Lib.bitLen x.toNat : Int) = 8 + (Lib.bitLen (x / 256).toNat : Int)) := by
      have s := Lib.bitLen_shift8 x.toNat (by omega) (by omega)
      have e : (x / 256).toNat = x.toNat / 256 := by omega
      rw [Hid, e]
      omega
     clear hs
     go_enter Tryz.func179, Tryz.ntmps179
     go_wp2
     go_ret
     exact ⟨ret_int (by rw [hb.out]; exact tab_wrap _ 8 (by omega) (by omega) (by omega) (by omega) _), rfl⟩
   · have d1 : x < 256 := by omega
     have d3 : x < (Lib.len8tab.size : Int) := by omega
     clear hs
     go_enter Tryz.func179, Tryz.ntmps179
     go_wp2
     go_ret
     exact ⟨ret_int (by
      have := tab_wrap x 0 h0 d1 (by omega) (by omega) (by have := tab_size; omega)
      rw [Int.zero_add, Int.zero_add] at this
      rw [this]), rfl⟩
theorem len_aux : ∀ (f x : Nat), x ≠ 0 → x < 2 ^ f → 0 < Lib.bitLenAux f x ∧ 2 ^ (Lib.bitLenAux f x - 1) ≤ x ∧ x < 2 ^ Lib.bitLenAux f x ∧ Lib.bitLenAux f x ≤ f
 | 0, x, h0, h => by
  have : x < 1 := h
  omega
 | f + 1, x, h0, h => by
  have e : Lib.bitLenAux (f + 1) x = 1 + Lib.bitLenAux f (x / 2) := by simp [Lib.bitLenAux, h0]
  rw [e]
  by_cases h1 : x / 2 = 0
  · have e1 : Lib.bitLenAux f (x / 2) = 0 := by rw [h1]; cases f <;> simp [Lib.bitLenAux]
    rw [e1]
    exact ⟨by omega, by simpa using (show 1 ≤ x by omega), by simpa using (show x < 2 by omega), by omega⟩
  · obtain ⟨i1, i2, i3, i4⟩ := len_aux f (x / 2) h1 (by rw [Nat.pow_succ] at h; omega)
    generalize Lib.bitLenAux f (x / 2) = n at *
    refine ⟨by omega, ?_, ?_, by omega⟩
    · have e2 : 2 ^ (1 + n - 1) = 2 ^ (n - 1) * 2 := by rw [← Nat.pow_succ, show 1 + n - 1 = n - 1 + 1 by omega]
      omega
    · rw [Nat.add_comm, Nat.pow_succ]
      omega
theorem len_bounds (x : Nat) (h0 : x ≠ 0) (h : x < 4294967296) : 0 < Lib.bitLen x ∧ 2 ^ (Lib.bitLen x - 1) ≤ x ∧ x < 2 ^ Lib.bitLen x ∧ Lib.bitLen x ≤ 32 := by
 have e : Lib.bitLen x = Lib.bitLenAux 32 x := Lib.bitLenAux_fuel 32 x h 64 (by decide)
 rw [e]
 exact len_aux 32 x h0 h
theorem tz_bounds (x : Nat) (h0 : x ≠ 0) (h : x < 4294967296) : (∃ q, x = 2 ^ Lib.ctz 32 x * (2 * q + 1)) ∧ Lib.ctz 32 x < 32 := by
 have e : Lib.ctz 32 x = Lib.ctzFrom 32 x := by simp [Lib.ctz, h0]
 rw [e]
 obtain ⟨m, h1, h2⟩ := Lib.ctzFrom_spec 32 x (by omega) h
 exact ⟨⟨m, h1⟩, h2⟩
set_option maxRecDepth 100000 in
theorem Tz32_core (w : World) (x k idx : Nat) (hx0 : ((x : Int) == 0) = false) (key : bits BinOp.and IntKind.u32 (x : Int) (-(x : Int) % 4294967296) * 125613361 % 4294967296 / 134217728 = (idx : Int))
  (hi : idx < 32) (hk : k < 32) (hcell : w.cell? ⟨0, idx, none⟩ = some (.int .u8 k)) :
  Calls Tryz.prog 178 #[.int .u32 x] w fun e w' => e = .returned (.int .i64 k) ∧ w' = w := by
 go_enter Tryz.func178, Tryz.ntmps178
 go_wp2_with (simp only [key])
 go_ret
 exact ⟨rfl, rfl⟩
/-- bits.TrailingZeros32. -/
theorem Tz32_any (w : World) (x : Nat) (hx : x < 4294967296) (hx0 : x ≠ 0) (hT : TabAt 0 Lib.deBruijn32tab w) :
  Calls Tryz.prog 178 #[.int .u32 x] w fun e w' => e = .returned (.int .i64 (Lib.ctz 32 x)) ∧ w' = w := by
 obtain ⟨hlow, hk⟩ := Lib.lowest_bit 32 x hx0 hx
 obtain ⟨hi, htab⟩ := Lib.deBruijn32_at _ hk
 have hcell := hT _ hi
 rw [htab] at hcell
 exact Tz32_core w x _ _ (by simp; omega) (tz32_key x _ hx hx0 hlow) hi hk hcell
end Dy
end Go.Proofs.YtmbppgjhdcmckaaGreatDoor
namespace Go.Proofs.YtmbppgjhdcmckaaGreatDoor
open Go.RowKit
namespace Dy
open Dp
theorem cutd_last {l : List Int} {n : Nat} (hl : l.length = n) (hn : 0 < n) : Cutd l ↔ l[n - 1]?.getD 0 ≠ 0 := by
 have hne : l ≠ [] := fun e => by rw [e] at hl; simp at hl; omega
 have e : l[n - 1]?.getD 0 = l.getLast hne := by
  rw [List.getLast_eq_getElem, List.getElem?_eq_getElem (by omega)]
  simp only [Option.getD_some]
  congr 1
  omega
 rw [e]
 exact ⟨fun h => h hne, fun h _ => h⟩
set_option maxRecDepth 100000 in
/-- limb.Check: limbs that may be. -/
theorem limbCheck_ok (w : World) (lo hi : Nat) (A : Option Addr) (n c : Nat) (xs : List Int) (hX : Ints w lo hi .u32 A n xs) (h : MayL xs) :
  Calls Tryz.prog 176 #[.slice A n c] w fun e w' => e = .returned (.int .i64 0) ∧ w' = w := by
 have hL := Lib.hid hX.len
 have h40 : n ≤ 40 := by have := h.1; have := hL.out; omega
 by_cases h0 : 0 < n
 · have hlast := (cutd_last hX.len h0).1 h.2
   obtain ⟨b, off, rfl, hcell⟩ := get hX h0
   have g1 : w.cell? ⟨b, off + (n - 1), none⟩ = some (.int .u32 (xs[n - 1]?.getD 0)) := hcell (n - 1) (by omega)
   have hb : (xs[n - 1]?.getD 0 == 0) = false := by simpa using hlast
   have e1 : ((n : Int) - 1).toNat = n - 1 := by omega
   clear hcell hlast h
   generalize xs[n - 1]?.getD 0 = v at g1 hb
   go_enter Tryz.func176, Tryz.ntmps176
   go_wp2
   go_ret
   exact ⟨rfl, rfl⟩
 · obtain rfl : n = 0 := by omega
   clear h
   go_enter Tryz.func176, Tryz.ntmps176
   go_wp2
   go_ret
   exact ⟨rfl, rfl⟩
set_option maxRecDepth 100000 in
/-- limb.Check: limbs that may not be. -/
theorem limbCheck_bad (w : World) (lo hi : Nat) (A : Option Addr) (n c : Nat) (xs : List Int) (hX : Ints w lo hi .u32 A n xs) (h : ¬ MayL xs) :
  Calls Tryz.prog 176 #[.slice A n c] w fun e w' => e = .returned (.int .i64 8) ∧ w' = w := by
 have hL := Lib.hid hX.len
 have hbig := hX.big
 by_cases h40 : n ≤ 40
 · have h0 : 0 < n := by
     rcases Nat.eq_zero_or_pos n with h0 | h0
     · exact absurd ⟨by have := hL.out; omega, fun hne => absurd (hX.zero h0) hne⟩ h
     · exact h0
   have hlast : xs[n - 1]?.getD 0 = 0 := by
    by_cases hl : xs[n - 1]?.getD 0 = 0
    · exact hl
    · exact absurd ⟨by have := hL.out; omega, (cutd_last hX.len h0).2 hl⟩ h
   obtain ⟨b, off, rfl, hcell⟩ := get hX h0
   have g1 : w.cell? ⟨b, off + (n - 1), none⟩ = some (.int .u32 (xs[n - 1]?.getD 0)) := hcell (n - 1) (by omega)
   rw [hlast] at g1
   have e1 : ((n : Int) - 1).toNat = n - 1 := by omega
   clear hcell hlast h
   go_enter Tryz.func176, Tryz.ntmps176
   go_wp2
   go_ret
   exact ⟨rfl, rfl⟩
 · clear h
   go_enter Tryz.func176, Tryz.ntmps176
   go_wp2
   go_ret
   exact ⟨rfl, rfl⟩
set_option maxHeartbeats 800000 in
set_option maxRecDepth 100000 in
/-- dyad.Check: dyads that may be. -/
theorem Check_ok (w : World) (lo hi : Nat) (s : Bool) (A : Option Addr) (n c : Nat) (xs : List Int) (ex : Int) (hX : Ints w lo hi .u32 A n xs) (hhi : hi ≤ w.heap.size) (h : MayD s xs ex) :
  Calls Tryz.prog 137 #[.agg #[.bool s, .slice A n c, .int .i64 ex]] w fun e w' => e = .returned (.int .i64 0) ∧ Below w.heap.size w w' := by
 have hL := Lib.hid hX.len
 have hX2 := hX.alloc hhi (.cells #[.bool s, .slice A n c, .int .i64 ex] 24)
 have hB := (Below.refl w.heap.size w).alloc (Nat.le_refl _) (.cells #[.bool s, .slice A n c, .int .i64 ex] 24)
 obtain ⟨hmay, he0, he1, hz, ho⟩ := h
 by_cases h0 : 0 < n
 · have hne : xs ≠ [] := fun e => by have := hL.out; rw [e] at this; simp at this; omega
   obtain ⟨b, off, rfl, hcell⟩ := get hX2 h0
   have g1 := hcell 0 h0
   rw [Nat.add_zero] at g1
   have ho' := ho hne
   have hn0 : ((n : Int) == 0) = false := by simp; omega
   obtain ⟨v0, v1⟩ := hX.u32 0
   clear hcell hz ho
   generalize xs[0]?.getD 0 = v at g1 ho' v0 v1
   by_cases hpos : 0 < ex
   · have hv := ho' hpos
     have hv2 : v % 2 = 1 := hv
     clear ho' hv hne
     go_enter Tryz.func137, Tryz.ntmps137
     go_wp2_with fail
     refine (limbCheck_ok _ _ _ _ _ _ _ hX2 hmay).mono ?_
     rintro e w1 ⟨rfl, rfl⟩
     clear hmay
     go_wp2
     go_ret
     exact ⟨rfl, hB⟩
   · obtain rfl : ex = 0 := by omega
     clear ho' hne he0 he1
     go_enter Tryz.func137, Tryz.ntmps137
     go_wp2_with fail
     refine (limbCheck_ok _ _ _ _ _ _ _ hX2 hmay).mono ?_
     rintro e w1 ⟨rfl, rfl⟩
     clear hmay
     go_wp2
     go_ret
     exact ⟨rfl, hB⟩
 · obtain rfl : n = 0 := by omega
   obtain ⟨rfl, rfl⟩ := hz (hX.zero rfl)
   clear ho he0 he1
   go_enter Tryz.func137, Tryz.ntmps137
   go_wp2_with fail
   refine (limbCheck_ok _ _ _ _ _ _ _ hX2 hmay).mono ?_
   rintro e w1 ⟨rfl, rfl⟩
   clear hmay
   go_wp2
   go_ret
   exact ⟨rfl, hB⟩
theorem not_may {s : Bool} {xs : List Int} {e : Int} (h : ¬ MayD s xs e) : ¬ MayL xs ∨ (MayL xs ∧ (e < 0 ∨ 1024 < e)) ∨ (MayL xs ∧ 0 ≤ e ∧ e ≤ 1024 ∧ xs = [] ∧ (e ≠ 0 ∨ s = true)) ∨ (MayL xs ∧ 0 < e ∧ e ≤ 1024 ∧ xs ≠ [] ∧ xs[0]?.getD 0 % 2 ≠ 1) := by
 by_cases h1 : MayL xs
 · by_cases h2 : e < 0 ∨ 1024 < e
   · exact .inr (.inl ⟨h1, h2⟩)
   · by_cases h3 : xs = []
     · refine .inr (.inr (.inl ⟨h1, by omega, by omega, h3, ?_⟩))
       by_cases h4 : e = 0
       · right
         cases s
         · exact absurd ⟨h1, by omega, by omega, fun _ => ⟨h4, rfl⟩, fun hne => absurd h3 hne⟩ h
         · rfl
       · exact .inl h4
     · by_cases h4 : 0 < e ∧ xs[0]?.getD 0 % 2 ≠ 1
       · exact .inr (.inr (.inr ⟨h1, h4.1, by omega, h3, h4.2⟩))
       · exact absurd ⟨h1, by omega, by omega, fun h5 => absurd h5 h3, fun _ h5 => by omega⟩ h
 · exact .inl h1
set_option maxHeartbeats 1600000 in
set_option maxRecDepth 100000 in
/-- dyad.Check: dyads that may not be. -/
theorem Check_bad (w : World) (lo hi : Nat) (s : Bool) (A : Option Addr) (n c : Nat) (xs : List Int) (ex : Int) (hX : Ints w lo hi .u32 A n xs) (hhi : hi ≤ w.heap.size) (h : ¬ MayD s xs ex) :
  Calls Tryz.prog 137 #[.agg #[.bool s, .slice A n c, .int .i64 ex]] w fun e w' => e = .returned (.int .i64 8) ∧ Below w.heap.size w w' := by
 have hL := Lib.hid hX.len
 have hX2 := hX.alloc hhi (.cells #[.bool s, .slice A n c, .int .i64 ex] 24)
 have hB := (Below.refl w.heap.size w).alloc (Nat.le_refl _) (.cells #[.bool s, .slice A n c, .int .i64 ex] 24)
 have hbig := hX.big
 rcases not_may h with hm | ⟨hm, hx⟩ | ⟨hm, h0, h1, hz, hx⟩ | ⟨hm, h0, h1, hz, hx⟩
 · clear h
   go_enter Tryz.func137, Tryz.ntmps137
   go_wp2_with fail
   refine (limbCheck_bad _ _ _ _ _ _ _ hX2 hm).mono ?_
   rintro e w1 ⟨rfl, rfl⟩
   clear hm
   by_cases hn0 : n = 0
   · subst hn0
     go_wp2
     go_ret
     exact ⟨rfl, hB⟩
   · have hn1 : ((n : Int) == 0) = false := by simp; omega
     go_wp2
     go_ret
     exact ⟨rfl, hB⟩
 · clear h
   have hn1 : n ≠ 0 → ((n : Int) == 0) = false := fun h => by simp; omega
   rcases hx with hx | hx
   all_goals
    by_cases hn0 : n = 0
    · subst hn0
      clear hn1
      go_enter Tryz.func137, Tryz.ntmps137
      go_wp2_with fail
      refine (limbCheck_ok _ _ _ _ _ _ _ hX2 hm).mono ?_
      rintro e w1 ⟨rfl, rfl⟩
      clear hm
      go_wp2
      go_ret
      exact ⟨rfl, hB⟩
    · have hn2 := hn1 hn0
      clear hn1
      go_enter Tryz.func137, Tryz.ntmps137
      go_wp2_with fail
      refine (limbCheck_ok _ _ _ _ _ _ _ hX2 hm).mono ?_
      rintro e w1 ⟨rfl, rfl⟩
      clear hm
      go_wp2
      go_ret
      exact ⟨rfl, hB⟩
 · clear h
   subst hz
   obtain rfl : n = 0 := by have := hL.out; simp at this; omega
   by_cases hx0 : ex = 0
   · subst hx0
     obtain rfl : s = true := hx.resolve_left (fun h => h rfl)
     clear hx
     go_enter Tryz.func137, Tryz.ntmps137
     go_wp2_with fail
     refine (limbCheck_ok _ _ _ _ _ _ _ hX2 hm).mono ?_
     rintro e w1 ⟨rfl, rfl⟩
     clear hm
     go_wp2
     go_ret
     exact ⟨rfl, hB⟩
   · have hx1 : (ex != 0) = true := by simpa using hx0
     clear hx
     go_enter Tryz.func137, Tryz.ntmps137
     go_wp2_with fail
     refine (limbCheck_ok _ _ _ _ _ _ _ hX2 hm).mono ?_
     rintro e w1 ⟨rfl, rfl⟩
     clear hm
     go_wp2
     go_ret
     exact ⟨rfl, hB⟩
 · clear h
   have hn0 : 0 < n := by
    rcases Nat.eq_zero_or_pos n with h0 | h0
    · exact absurd (hX.zero h0) hz
    · exact h0
   obtain ⟨b, off, rfl, hcell⟩ := get hX2 hn0
   have g1 := hcell 0 hn0
   rw [Nat.add_zero] at g1
   have hn1 : ((n : Int) == 0) = false := by simp; omega
   obtain ⟨v0, v1⟩ := hX.u32 0
   clear hcell hz
   generalize xs[0]?.getD 0 = v at g1 hx v0 v1
   have hv : v % 2 = 0 := by omega
   clear hx
   go_enter Tryz.func137, Tryz.ntmps137
   go_wp2_with fail
   refine (limbCheck_ok _ _ _ _ _ _ _ hX2 hm).mono ?_
   rintro e w1 ⟨rfl, rfl⟩
   clear hm
   go_wp2
   go_ret
   exact ⟨rfl, hB⟩
end Dy
end Go.Proofs.YtmbppgjhdcmckaaGreatDoor
namespace Go.Proofs.YtmbppgjhdcmckaaGreatDoor
open Go.RowKit
namespace Dy
open Dp
/-- The cells of a row of limbs. -/
def rowU (ws : List Int) : Array Value := (ws.map (Value.int .u32)).toArray
theorem rowU_size (ws : List Int) : (rowU ws).size = ws.length := by simp [rowU]
theorem rowU_get (ws : List Int) {j : Nat} (h : j < ws.length) : (rowU ws)[j]? = some (.int .u32 (ws[j]?.getD 0)) := by
 simp [rowU, List.getElem?_eq_getElem h]
theorem rowU_set (ws : List Int) (j : Nat) (v : Int) : (rowU ws).setIfInBounds j (.int .u32 v) = rowU (ws.set j v) := by
 simp [rowU, List.map_set]
theorem rowU_one (ws : List Int) : (rowU ws).all (·.oneCell') = true := by
 simp [rowU, Value.oneCell']
/-- A row of 74 limbs in a block of its own. -/
structure Wide (w : World) (g : Nat) (ws : List Int) : Prop where
 blk : w.heap[g]? = some (.cells (rowU ws) 166 (0, 0))
 len : ws.length = 74
 dig : Dig 4294967296 ws
theorem Wide.cell {w : World} {g : Nat} {ws : List Int} (h : Wide w g ws) {j : Nat} (hj : j < 74) : w.cell? ⟨g, j, none⟩ = some (.int .u32 (ws[j]?.getD 0)) := by
 rw [cell_of_row w g j _ _ _ h.blk]
 exact rowU_get ws (by rw [h.len]; exact hj)
theorem Wide.free {w : World} {g : Nat} {ws : List Int} (h : Wide w g ws) (j : Nat) : w.frozen? ⟨g, j, none⟩ = false := frozen_of_row w g j _ _ h.blk
theorem Wide.set {w : World} {g : Nat} {ws : List Int} (h : Wide w g ws) (j d : Nat) (hd : d < 4294967296) : Wide (w.setCell ⟨g, j, none⟩ (.int .u32 d)) g (ws.set j d) :=
 ⟨by rw [heap_setCell_same w g j _ _ _ h.blk, rowU_set], by rw [List.length_set, h.len], dig_set h.dig j d hd⟩
theorem below_setRow {B : Nat} {a w : World} (h : Below B a w) {g : Nat} (hg : B ≤ g) (cs : Array Value) : Below B a (w.setRow g cs) :=
 ⟨h.os, h.tape, h.output, by rw [size_setRow]; exact h.size, fun k hk => (setRow_other w g k cs (by omega)).trans (h.block k hk)⟩
def zero74 : List Int := List.replicate 74 0
theorem Tryz.info166 : (Tryz.prog.info? 166).map (fun i => (i.zero, i.size)) = some (some (.agg (rowU zero74)), 74) := by kernel_rfl
theorem shl_wrap (x r : Nat) (hx : x < 4294967296) (hr : r < 32) : IntKind.u64.wrap ((x : Int) * 2 ^ r) = ((x * 2 ^ r : Nat) : Int) := by
 have h1 : x * 2 ^ r < 4294967296 * 2 ^ 32 := Nat.lt_of_lt_of_le (Nat.mul_lt_mul_of_pos_right hx (Nat.pow_pos (by decide))) (Nat.mul_le_mul_left _ (Nat.pow_le_pow_right (by decide) (by omega)))
 have e : ((x : Int) * 2 ^ r) = ((x * 2 ^ r : Nat) : Int) := by push_cast; rfl
 rw [e, IntKind.wrap_u64]
 omega
theorem or_lo (p x r : Nat) (hx : x < 4294967296) (hr : r < 32) (hp : p < 2 ^ r) (hs : p + x * 2 ^ r % 4294967296 < 4294967296) :
  bits .or .u32 (p : Int) (IntKind.u64.wrap ((x : Int) * 2 ^ r) % 4294967296) = ((p + x * 2 ^ r % 4294967296 : Nat) : Int) := by
 have e1 : ((x * 2 ^ r : Nat) : Int) % 4294967296 = ((x * 2 ^ r % 4294967296 : Nat) : Int) := by omega
 have h3 : x * 2 ^ r % 4294967296 % 2 ^ r = 0 := by
  have e : (4294967296 : Nat) = 2 ^ r * 2 ^ (32 - r) := by rw [← Nat.pow_add, show r + (32 - r) = 32 by omega]
  conv => lhs; rw [e, Nat.mul_comm x]
  rw [Nat.mul_mod_mul_left]
  exact Nat.mul_mod_right _ _
 rw [shl_wrap x r hx hr, e1, u32_or_nat _ _ (by omega) (by omega), Nat.or_comm, nat_join r _ _ h3 hp, Nat.add_comm]
theorem or_hi (x r : Nat) (hx : x < 4294967296) (hr : r < 32) (hs : x * 2 ^ r / 4294967296 < 4294967296) :
  bits .or .u32 0 (IntKind.u64.wrap ((x : Int) * 2 ^ r) / 4294967296 % 4294967296) = ((x * 2 ^ r / 4294967296 : Nat) : Int) := by
 have e1 : ((x * 2 ^ r : Nat) : Int) / 4294967296 % 4294967296 = ((x * 2 ^ r / 4294967296 : Nat) : Int) := by omega
 rw [shl_wrap x r hx hr, e1]
 have := u32_or_nat 0 (x * 2 ^ r / 4294967296) (by decide) hs
 simpa using this
set_option maxHeartbeats 1600000 in
set_option maxRecDepth 100000 in
/-- dyad.widen. -/
theorem widen_any (w : World) (lo hi : Nat) (s : Bool) (A : Option Addr) (n c : Nat) (xs : List Int) (ex k : Nat) (hX : Ints w lo hi .u32 A n xs) (hhi : hi ≤ w.heap.size) (hd : Dig 4294967296 xs) (hn : n ≤ 40) (_he : ex ≤ 2000) (hk : k ≤ 1024) (kk : Int) (hkk : kk = (ex : Int) + k) :
  Calls Tryz.prog 177 #[.agg #[.bool s, .slice A n c, .int .i64 ex], .int .i64 kk] w fun e w' => ∃ ws, e = .returned (.agg (rowU ws)) ∧ Below w.heap.size w w' ∧ ws.length = 74 ∧ Dig 4294967296 ws ∧ num 4294967296 ws = num 4294967296 xs * 2 ^ k := by
 subst hkk
 have hL := Lib.hid hX.len
 obtain ⟨hz, hi81⟩ := zero_of_info Tryz.info166
 have hI := Lib.hid hi81
 clear hi81
 have hek : (ex : Int) + k - ex = k := by omega
 have hzz : (num 4294967296 zero74 = 0) ∧ zero74.length = 74 ∧ Dig 4294967296 zero74 := ⟨num_zeros _ _, by simp [zero74], fun x hx => by have := List.eq_of_mem_replicate hx; omega⟩
 have HZ := Lib.hid hzz
 clear hzz
 go_enter Tryz.func177, Tryz.ntmps177
 go_wp2
 go_loopw [6, 7, 8, 16] (fun _ _ _ iv wr => ∃ i : Nat, ∃ ws : List Int, iv = .int .i64 i ∧ i ≤ n ∧ Below w.heap.size w wr ∧ Wide wr (w.heap.size + 1) ws ∧ Hid (num 4294967296 ws = num 4294967296 (xs.take i) * 2 ^ k)) (fun _ _ _ iv _ => n - (intOf iv).toNat)
 case atStart =>
  exact ⟨0, zero74, rfl, Nat.zero_le _, ((Below.refl _ _).alloc (Nat.le_refl _) _).alloc (by simp) _, ⟨heap_alloc2_new _ _ _, HZ.out.2.1, HZ.out.2.2⟩, by rw [Hid, HZ.out.1]; simp [num]⟩
 case round =>
  obtain ⟨i, ws, rfl, hin, hb, hW, hnum⟩ := hrel
  by_cases hlt : i < n
  · obtain ⟨b, off, rfl, hcell⟩ := get (hX.below hb hhi) (by omega)
    have g1 := hcell i hlt
    obtain ⟨x, hx, hx2⟩ := dig_get (by decide) hd i
    rw [hx] at g1
    obtain ⟨p, hp, hp2⟩ := dig_get (by decide) hW.dig (i + k / 32)
    obtain ⟨l1, l2, l3, l4, l5, l6⟩ := wide_law hW.dig hd (by rw [hW.len]; omega) hnum.out hx hp
    have c1 := hW.cell (j := i + k / 32) (by omega)
    have c2 := hW.cell (j := i + k / 32 + 1) (by omega)
    have f1 := hW.free (i + k / 32)
    have f2 := hW.free (i + k / 32 + 1)
    rw [hp] at c1
    rw [l2] at c2
    have HX := Lib.hid hx
    have HP := Lib.hid hp
    have L2 := Lib.hid l2
    clear hcell hx hp l2
    go_wp2
    go_roundw
    case rel =>
     have E1 := or_lo p x (k % 32) hx2 (Nat.mod_lt _ (by decide)) l1 l3
     have E2 := or_hi x (k % 32) hx2 (Nat.mod_lt _ (by decide)) l4
     rw [E1, E2]
     exact ⟨i + 1, (ws.set (i + k / 32) ((p + x * 2 ^ (k % 32) % 4294967296 : Nat) : Int)).set (i + k / 32 + 1) ((x * 2 ^ (k % 32) / 4294967296 : Nat) : Int), by go_num, by omega, (hb.setCell (by simp) _).setCell (by simp) _, (hW.set _ _ l3).set _ _ l4, Lib.hid l6⟩
    case measure => simp [intOf]; omega
  · obtain rfl : i = n := by omega
    have hend := hnum.out
    rw [List.take_of_length_le (by rw [hL.out]; exact Nat.le_refl _)] at hend
    have HE := Lib.hid hend
    have hsz : (rowU ws).size = 74 := by rw [rowU_size, hW.len]
    have hsz2 := hI.out
    rw [← hsz] at hsz2
    have hblk := hW.blk
    have hone := rowU_one ws
    have HS := Lib.hid hsz
    have HS2 := Lib.hid hsz2
    have HB := Lib.hid hblk
    have HO := Lib.hid hone
    clear hend hsz hsz2 hblk hone hnum
    go_wp2_with (first
     | (refine wpList_load_row rfl 166 (.tmp 4) rfl (w.heap.size + 1) rfl _ _ _ _ HB.out Tryz.underlying166 rfl HS2.out ?_)
     | (refine wpList_store_row rfl 166 (.tmp 4) (.tmp 49) rfl (w.heap.size + 1) (rowU ws) rfl rfl _ _ HB.out HS2.out rfl HO.out ?_))
    have hblk2 := setRow_heap wr (w.heap.size + 1) (rowU ws) (rowU ws) _ _ HB.out
    refine bodyPost_ret (v := .agg (rowU ws)) (results_cell_row Tryz.results177 _ _ (w.heap.size + 1) _ _ _ _ rfl hblk2 Tryz.underlying166 rfl HS2.out) rfl ⟨ws, rfl, ?_, hW.len, hW.dig, HE.out⟩
    exact below_setRow hb (by omega) _
end Dy
end Go.Proofs.YtmbppgjhdcmckaaGreatDoor
namespace Go.Proofs.YtmbppgjhdcmckaaGreatDoor
open Go.RowKit
namespace Dy
open Dp
theorem drewN_add (w : World) (a b : Nat) : (w.drewN a).drewN b = w.drewN (a + b) := by simp [World.drewN, Nat.add_assoc]
/-- 74 limbs that lie from offset o of block g on. -/
structure Row (w : World) (g o : Nat) (ws : List Int) : Prop where
 cell : ∀ j, j < 74 → w.cell? ⟨g, o + j, none⟩ = some (.int .u32 (ws[j]?.getD 0))
 free : ∀ j, j < 74 → w.frozen? ⟨g, o + j, none⟩ = false
 len : ws.length = 74
 dig : Dig 4294967296 ws
theorem Row.keep {w w' : World} {g o : Nat} {ws : List Int} (h : Row w g o ws) (hk : ∀ j, j < 74 → w'.cell? ⟨g, o + j, none⟩ = w.cell? ⟨g, o + j, none⟩ ∧ w'.frozen? ⟨g, o + j, none⟩ = w.frozen? ⟨g, o + j, none⟩) : Row w' g o ws :=
 ⟨fun j hj => (hk j hj).1.trans (h.cell j hj), fun j hj => (hk j hj).2.trans (h.free j hj), h.len, h.dig⟩
theorem below_same {ws us : List Int} (h : ws.drop 0 = us.drop 0) : decide (num 4294967296 ws < num 4294967296 us) = false := by
 simp only [List.drop_zero] at h
 rw [h]
 simp
end Dy
end Go.Proofs.YtmbppgjhdcmckaaGreatDoor
namespace Go.Proofs.YtmbppgjhdcmckaaGreatDoor
open Go.RowKit
namespace Dy
open Dp
/-- Nothing that was there has changed but block g. -/
structure OnlyAt (g : Nat) (w w' : World) : Prop where
 os : w'.os = w.os
 tape : w'.tape = w.tape
 output : w'.output = w.output
 size : w.heap.size ≤ w'.heap.size
 block : ∀ k, k < w.heap.size → k ≠ g → w'.heap[k]? = w.heap[k]?
theorem OnlyAt.refl (g : Nat) (w : World) : OnlyAt g w w := ⟨rfl, rfl, rfl, Nat.le_refl _, fun _ _ _ => rfl⟩
theorem OnlyAt.trans {g : Nat} {a b c : World} (h : OnlyAt g a b) (k : OnlyAt g b c) : OnlyAt g a c :=
 ⟨k.os.trans h.os, k.tape.trans h.tape, k.output.trans h.output, Nat.le_trans h.size k.size, fun j hj hg => (k.block j (Nat.lt_of_lt_of_le hj h.size) hg).trans (h.block j hj hg)⟩
theorem OnlyAt.setCell {g o : Nat} {a w : World} (h : OnlyAt g a w) (u : Value) : OnlyAt g a (w.setCell ⟨g, o, none⟩ u) :=
 ⟨h.os, h.tape, h.output, by have := h.size; simp [World.setCell]; omega, fun k hk hg => (Below.heap_setCell _ _ _ _ hg).trans (h.block k hk hg)⟩
theorem OnlyAt.drewN {g : Nat} {a w : World} (h : OnlyAt g a w) (m : Nat) : OnlyAt g a (w.drewN m) := ⟨h.os, h.tape, h.output, h.size, h.block⟩
theorem OnlyAt.drew {g : Nat} {a w : World} (h : OnlyAt g a w) : OnlyAt g a w.drew := ⟨h.os, h.tape, h.output, h.size, h.block⟩
theorem OnlyAt.below {g B : Nat} {a w w' : World} (h : OnlyAt g w w') (hB : Below B a w) (hg : B ≤ g) (hs : B ≤ w.heap.size) : Below B a w' :=
 ⟨h.os.trans hB.os, h.tape.trans hB.tape, h.output.trans hB.output, Nat.le_trans hB.size h.size, fun k hk => (h.block k (by omega) (by omega)).trans (hB.block k hk)⟩
/-- A dyad under way in a block of its own. -/
structure Sum (w : World) (g : Nat) (s : Bool) (L : Value) (ex : Int) (ws : List Int) : Prop where
 blk : w.heap[g]? = some (.cells (#[.bool s, L, .int .i64 ex] ++ rowU ws) 168 (0, 0))
 len : ws.length = 74
 dig : Dig 4294967296 ws
theorem sum_at (s : Bool) (L : Value) (ex : Int) (ws : List Int) (j : Nat) : (#[.bool s, L, .int .i64 ex] ++ rowU ws)[3 + j]? = (rowU ws)[j]? := by
 rw [Array.getElem?_append_right (by simp)]
 congr 1
 simp
theorem Sum.row {w : World} {g : Nat} {s : Bool} {L : Value} {ex : Int} {ws : List Int} (h : Sum w g s L ex ws) : Row w g 3 ws :=
 ⟨fun j hj => by rw [cell_of_row w g _ _ _ _ h.blk, sum_at]; exact rowU_get ws (by rw [h.len]; exact hj), fun j _ => frozen_of_row w g _ _ _ h.blk, h.len, h.dig⟩
theorem Sum.head {w : World} {g : Nat} {s : Bool} {L : Value} {ex : Int} {ws : List Int} (h : Sum w g s L ex ws) : w.cell? ⟨g, 0, none⟩ = some (.bool s) ∧ w.cell? ⟨g, 1, none⟩ = some L ∧ w.cell? ⟨g, 2, none⟩ = some (.int .i64 ex) := by
 refine ⟨?_, ?_, ?_⟩ <;> (rw [cell_of_row w g _ _ _ _ h.blk, Array.getElem?_append_left (by simp)]; rfl)
theorem Sum.free {w : World} {g : Nat} {s : Bool} {L : Value} {ex : Int} {ws : List Int} (h : Sum w g s L ex ws) (j : Nat) : w.frozen? ⟨g, j, none⟩ = false := frozen_of_row w g j _ _ h.blk
theorem Sum.of_heap {w w' : World} {g : Nat} {s : Bool} {L : Value} {ex : Int} {ws : List Int} (h : Sum w g s L ex ws) (hh : w'.heap[g]? = w.heap[g]?) : Sum w' g s L ex ws := ⟨hh.trans h.blk, h.len, h.dig⟩
theorem drop_at {l m : List Int} {i : Nat} (h : l.drop i = m.drop i) : l[i]?.getD 0 = m[i]?.getD 0 := by
 have e := congrArg (fun t => t[0]?.getD 0) h
 simpa using e
theorem drop_on {l m : List Int} {i : Nat} {v : Int} (_hl : i < l.length) (h : l.drop i = m.drop i) : Hid ((l.set i v).drop (i + 1) = m.drop (i + 1)) := by
 rw [Hid, List.drop_set_of_lt (by omega)]
 have e := congrArg (List.drop 1) h
 rw [List.drop_drop, List.drop_drop] at e
 exact e
end Dy
end Go.Proofs.YtmbppgjhdcmckaaGreatDoor
namespace Go.Proofs.YtmbppgjhdcmckaaGreatDoor
open Go.RowKit
namespace Dy
open Dp
/-- A row of 76 limbs in a block of its own. -/
structure WideR (w : World) (g : Nat) (ws : List Int) : Prop where
 blk : w.heap[g]? = some (.cells (rowU ws) 157 (0, 0))
 len : ws.length = 76
 dig : Dig 4294967296 ws
theorem WideR.cell {w : World} {g : Nat} {ws : List Int} (h : WideR w g ws) {j : Nat} (hj : j < 76) : w.cell? ⟨g, j, none⟩ = some (.int .u32 (ws[j]?.getD 0)) := by
 rw [cell_of_row w g j _ _ _ h.blk]
 exact rowU_get ws (by rw [h.len]; exact hj)
theorem WideR.free {w : World} {g : Nat} {ws : List Int} (h : WideR w g ws) (j : Nat) : w.frozen? ⟨g, j, none⟩ = false := frozen_of_row w g j _ _ h.blk
theorem WideR.set {w : World} {g : Nat} {ws : List Int} (h : WideR w g ws) (j d : Nat) (hd : d < 4294967296) : WideR (w.setCell ⟨g, j, none⟩ (.int .u32 d)) g (ws.set j d) :=
 ⟨by rw [heap_setCell_same w g j _ _ _ h.blk, rowU_set], by rw [List.length_set, h.len], dig_set h.dig j d hd⟩
def zero76 : List Int := List.replicate 76 0
theorem Tryz.info157 : (Tryz.prog.info? 157).map (fun i => (i.zero, i.size)) = some (some (.agg (rowU zero76)), 76) := by kernel_rfl
set_option maxHeartbeats 1600000 in
set_option maxRecDepth 100000 in
/-- ratio.widen. -/
theorem widenR_any (w : World) (lo hi : Nat) (A : Option Addr) (n c : Nat) (xs : List Int) (k : Nat) (hX : Ints w lo hi .u32 A n xs) (hhi : hi ≤ w.heap.size) (hd : Dig 4294967296 xs) (hn : n ≤ 40) (hk : k ≤ 1090) (kk : Int) (hkk : kk = k) :
  Calls Tryz.prog 173 #[.slice A n c, .int .i64 kk] w fun e w' => ∃ ws, e = .returned (.agg (rowU ws)) ∧ Below w.heap.size w w' ∧ ws.length = 76 ∧ Dig 4294967296 ws ∧ num 4294967296 ws = num 4294967296 xs * 2 ^ k := by
 subst hkk
 have hL := Lib.hid hX.len
 obtain ⟨hz, hi81⟩ := zero_of_info Tryz.info157
 have hI := Lib.hid hi81
 clear hi81
 have hzz : (num 4294967296 zero76 = 0) ∧ zero76.length = 76 ∧ Dig 4294967296 zero76 := ⟨num_zeros _ _, by simp [zero76], fun x hx => by have := List.eq_of_mem_replicate hx; omega⟩
 have HZ := Lib.hid hzz
 clear hzz
 go_enter Tryz.func173, Tryz.ntmps173
 go_wp2
 go_loopw [5, 6, 7, 10] (fun _ _ _ iv wr => ∃ i : Nat, ∃ ws : List Int, iv = .int .i64 i ∧ i ≤ n ∧ Below w.heap.size w wr ∧ WideR wr (w.heap.size) ws ∧ Hid (num 4294967296 ws = num 4294967296 (xs.take i) * 2 ^ k)) (fun _ _ _ iv _ => n - (intOf iv).toNat)
 case atStart =>
  exact ⟨0, zero76, rfl, Nat.zero_le _, (Below.refl _ _).alloc (Nat.le_refl _) _, ⟨heap_alloc_last _ _, HZ.out.2.1, HZ.out.2.2⟩, by rw [Hid, HZ.out.1]; simp [num]⟩
 case round =>
  obtain ⟨i, ws, rfl, hin, hb, hW, hnum⟩ := hrel
  by_cases hlt : i < n
  · obtain ⟨b, off, rfl, hcell⟩ := get (hX.below hb hhi) (by omega)
    have g1 := hcell i hlt
    obtain ⟨x, hx, hx2⟩ := dig_get (by decide) hd i
    rw [hx] at g1
    obtain ⟨p, hp, hp2⟩ := dig_get (by decide) hW.dig (i + k / 32)
    obtain ⟨l1, l2, l3, l4, l5, l6⟩ := wide_law hW.dig hd (by rw [hW.len]; omega) hnum.out hx hp
    have c1 := hW.cell (j := i + k / 32) (by omega)
    have c2 := hW.cell (j := i + k / 32 + 1) (by omega)
    have f1 := hW.free (i + k / 32)
    have f2 := hW.free (i + k / 32 + 1)
    rw [hp] at c1
    rw [l2] at c2
    have HX := Lib.hid hx
    have HP := Lib.hid hp
    have L2 := Lib.hid l2
    clear hcell hx hp l2
    go_wp2
    go_roundw
    case rel =>
     have E1 := or_lo p x (k % 32) hx2 (Nat.mod_lt _ (by decide)) l1 l3
     have E2 := or_hi x (k % 32) hx2 (Nat.mod_lt _ (by decide)) l4
     rw [E1, E2]
     exact ⟨i + 1, (ws.set (i + k / 32) ((p + x * 2 ^ (k % 32) % 4294967296 : Nat) : Int)).set (i + k / 32 + 1) ((x * 2 ^ (k % 32) / 4294967296 : Nat) : Int), by go_num, by omega, (hb.setCell (by simp) _).setCell (by simp) _, (hW.set _ _ l3).set _ _ l4, Lib.hid l6⟩
    case measure => simp [intOf]; omega
  · obtain rfl : i = n := by omega
    have hend := hnum.out
    rw [List.take_of_length_le (by rw [hL.out]; exact Nat.le_refl _)] at hend
    have HE := Lib.hid hend
    have hsz : (rowU ws).size = 76 := by rw [rowU_size, hW.len]
    have hsz2 := hI.out
    rw [← hsz] at hsz2
    have hblk := hW.blk
    have hone := rowU_one ws
    have HS := Lib.hid hsz
    have HS2 := Lib.hid hsz2
    have HB := Lib.hid hblk
    have HO := Lib.hid hone
    clear hend hsz hsz2 hblk hone hnum
    go_wp2_with (first
     | (refine wpList_load_row rfl 157 (.tmp 4) rfl (w.heap.size) rfl _ _ _ _ HB.out Tryz.underlying157 rfl HS2.out ?_)
     | (refine wpList_store_row rfl 157 (.tmp 4) (.tmp 43) rfl (w.heap.size) (rowU ws) rfl rfl _ _ HB.out HS2.out rfl HO.out ?_))
    have hblk2 := setRow_heap wr (w.heap.size) (rowU ws) (rowU ws) _ _ HB.out
    refine bodyPost_ret (v := .agg (rowU ws)) (results_cell_row Tryz.results173 _ _ (w.heap.size) _ _ _ _ rfl hblk2 Tryz.underlying157 rfl HS2.out) rfl ⟨ws, rfl, ?_, hW.len, hW.dig, HE.out⟩
    exact below_setRow hb (by omega) _
/-- 76 limbs that lie from offset o of block g on. -/
structure RowR (w : World) (g o : Nat) (ws : List Int) : Prop where
 cell : ∀ j, j < 76 → w.cell? ⟨g, o + j, none⟩ = some (.int .u32 (ws[j]?.getD 0))
 free : ∀ j, j < 76 → w.frozen? ⟨g, o + j, none⟩ = false
 len : ws.length = 76
 dig : Dig 4294967296 ws
theorem WideR.row {w : World} {g : Nat} {ws : List Int} (h : WideR w g ws) : RowR w g 0 ws :=
 ⟨fun j hj => by rw [Nat.zero_add]; exact h.cell hj, fun j _ => by rw [Nat.zero_add]; exact h.free j, h.len, h.dig⟩
theorem belowR_at {ws us : List Int} {k x y : Nat} (hw : ws.length = 76) (hu : us.length = 76) (hdw : Dig 4294967296 ws) (hdu : Dig 4294967296 us) (hk : k < 76) (h : ws.drop (k + 1) = us.drop (k + 1)) (hx : ws[k]?.getD 0 = (x : Int)) (hy : us[k]?.getD 0 = (y : Int)) :
  (x = y → ws.drop k = us.drop k) ∧ (x ≠ y → decide (num 4294967296 ws < num 4294967296 us) = decide (x < y)) := by
 refine ⟨fun e => drop_eq (by omega) (by omega) h (by rw [hx, hy, e]), fun e => ?_⟩
 rcases Nat.lt_or_ge x y with hlt | hge
 · have := less_by (by decide) hdw h (by rw [hx, hy]; simpa using hlt)
   simp [hlt, this]
 · have := less_by (by decide) hdu h.symm (by rw [hx, hy]; simp; omega)
   have h1 : ¬ num 4294967296 ws < num 4294967296 us := by omega
   have h2 : ¬ x < y := by omega
   simp [h1, h2]
set_option maxHeartbeats 1600000 in
set_option maxRecDepth 100000 in
/-- (*ratio.wide).below. -/
theorem belowR_any (w : World) (g o g' o' : Nat) (ws us : List Int) (hW : RowR w g o ws) (hU : RowR w g' o' us) (r : Bool) (hr : decide (num 4294967296 ws < num 4294967296 us) = r) :
  Calls Tryz.prog 208 #[.pointer (some ⟨g, o, none⟩), .pointer (some ⟨g', o', none⟩)] w fun e w' => e = .returned (.bool r) ∧ ∃ m, w' = w.drewN m := by
 have HR := Lib.hid hr
 clear hr
 go_enter Tryz.func208, Tryz.ntmps208
 go_wp2
 go_loopw [5] (fun iv wr => ∃ k : Nat, iv = .int .i64 ((k : Int) - 1) ∧ k ≤ 76 ∧ Hid (ws.drop k = us.drop k) ∧ ∃ m, wr = w.drewN m) (fun iv _ => (intOf iv + 1).toNat)
 case atStart => exact ⟨76, rfl, Nat.le_refl _, by rw [Hid, List.drop_eq_nil_of_le (by rw [hW.len]; exact Nat.le_refl _), List.drop_eq_nil_of_le (by rw [hU.len]; exact Nat.le_refl _)], 0, rfl⟩
 case round =>
  obtain ⟨k, rfl, hk, heq, m, rfl⟩ := hrel
  rcases k with _ | k
  · have e2 : r = false := by rw [← HR.out]; exact below_same heq.out
    subst e2
    go_wp2
    go_ret
    exact ⟨rfl, m, rfl⟩
  · have ej : ((k + 1 : Nat) : Int) - 1 = (k : Int) := by omega
    obtain ⟨x, hx, hx2⟩ := dig_get (by decide) hW.dig k
    obtain ⟨y, hy, hy2⟩ := dig_get (by decide) hU.dig k
    have g1 := hW.cell k (by omega)
    have g2 := hU.cell k (by omega)
    obtain ⟨hsame, hdiff⟩ := belowR_at hW.len hU.len hW.dig hU.dig (by omega) heq.out hx hy
    rw [hx] at g1
    rw [hy] at g2
    rw [ej]
    have hk0 : (0 : Int) ≤ k := by omega
    have hk1 : (k : Int) < 76 := by omega
    clear hx hy ej
    by_cases hxy : x = y
    · subst hxy
      have HS := Lib.hid (hsame rfl)
      have hne : ((x : Int) != x) = false := by simp
      clear hsame hdiff
      go_wp2
      go_quiet (fail)
      go_wp2
      go_roundw
      case rel => exact ⟨k, rfl, by omega, HS, _, rfl⟩
      case measure => first | (simp [intOf]; done) | (simp [intOf]; omega)
    · have HD := Lib.hid (hdiff hxy)
      have hne : ((x : Int) != y) = true := by simpa using (show ¬ (x : Int) = y by omega)
      clear hsame hdiff
      go_wp2
      go_quiet (fail)
      go_wp2
      go_quiet (fail)
      go_wp2
      go_ret
      exact ⟨ret_bool (by rw [← HR.out, HD.out]), m + (_ + _), by rw [drewN_add, drewN_add]⟩
end Dy
end Go.Proofs.YtmbppgjhdcmckaaGreatDoor
namespace Go.Proofs.YtmbppgjhdcmckaaGreatDoor
open Go.RowKit
section
variable {P : Program} {ops : Array Oper} {os : List Oper} {Q : Exit → Act → World → Prop} {md : Region.Mode} {S : World → Prop} {E : List Nat}
/-- Whatever order is picked, S holds behind each operation but those of E. -/
def wpAnyE (P : Program) (md : Region.Mode) (ops : Array Oper) (Q : Exit → Act → World → Prop) (S : World → Prop) (E : List Nat) : Nat → Array Bool → Act → World → Prop
 | 0, L, a, w => Region.ready md ops L = [] ∧ Q .normal a w
 | n + 1, L, a, w => (Region.ready md ops L = [] → Q .normal a w) ∧ ∀ i ∈ Region.ready md ops L, wpOp P ops Q i (fun a' w' => (E.contains i = false → S w → S w') ∧ wpAnyE P md ops Q S E n (L.setIfInBounds i true) a' w') a w
theorem any_of_E : ∀ (n : Nat) (L : Array Bool) (a : Act) (w : World), wpAnyE P md ops Q S E n L a w → wpAny P md ops Q n L a w
 | 0, _, _, _, h => h
 | n + 1, _, _, _, h => ⟨h.1, fun i hi => wpOp_mono (fun a' w' h' => any_of_E n _ a' w' h'.2) (h.2 i hi)⟩
/-- Number k waits for number i. -/
def waitsE (md : Region.Mode) (ops : Array Oper) (k i : Nat) : Bool := match ops[k]? with
 | none => true
 | some o => o.after.any fun e => Region.binds md e && e.on == i
theorem not_readyE {L : Array Bool} {i k : Nat} (hw : waitsE md ops k i = true) (hi : i ∈ Region.ready md ops L) : k ∉ Region.ready md ops L := fun hk => by
 obtain ⟨_, o, ho, hall⟩ := mem_ready.1 hk
 have h0 := (mem_ready.1 hi).1
 unfold waitsE at hw
 rw [ho] at hw
 simp only [Array.any_eq_true, Bool.and_eq_true, beq_iff_eq] at hw
 obtain ⟨j, hj, hb, he⟩ := hw
 have h1 := hall _ (Array.getElem_mem hj) hb
 rw [he] at h1
 rcases Nat.lt_or_ge i L.size with h' | h'
 · simp [h'] at h0 h1
   rw [h0] at h1
   cases h1
 · simp [Array.getElem?_eq_none h'] at h1
theorem not_afterE {L : Array Bool} {i j : Nat} {oj : Oper} (hoj : ops[j]? = some oj) (hr : i ∈ Region.ready md ops L) (hj : j ∈ Region.ready md ops L) : ∀ e ∈ oj.after, Region.binds md e = true → e.on ≠ i := fun e he hb heq => by
 refine not_readyE (k := j) (md := md) (ops := ops) ?_ hr hj
 unfold waitsE
 rw [hoj]
 obtain ⟨m, hm, hme⟩ := Array.getElem_of_mem he
 simp only [Array.any_eq_true, Bool.and_eq_true, beq_iff_eq]
 exact ⟨m, hm, by rw [hme]; exact hb, by rw [hme]; exact heq⟩
theorem firstE {i : Nat} {oi : Oper} {v : Value} (hi : ops[i]? = some oi) (hsel : ∀ (j : Nat) (o : Oper) cs b, ops[j]? = some o → o.op ≠ .select cs b)
  (hw : ∀ k, E.contains k = true → waitsE md ops k i = true)
  (hQ : ∀ c a w, Q (.panic c) (a.put oi.dst v) w → Q (.panic c) a w) :
  ∀ (n : Nat) (L : Array Bool) (a : Act) (w : World),
   (∀ j oj, ops[j]? = some oj → j ≠ i → L.getD j true = false → (∀ e ∈ oj.after, Region.binds md e = true → e.on ≠ i) → oi.apart ops oj = true) →
   i ∈ Region.ready md ops L → YieldsIf P ops S oi v a → S w → wpAnyE P md ops Q S E n (L.setIfInBounds i true) (a.put oi.dst v) w → wpAnyE P md ops Q S E (n + 1) L a w := by
 intro n
 induction n with
 | zero =>
  intro L a w _ hr hy hS H
  refine ⟨fun h => (by rw [h] at hr; cases hr), fun j hj => ?_⟩
  by_cases hji : j = i
  · subst hji
    exact hy.wpOp hi hS ⟨fun _ h => h, H⟩
  · have := ready_mono hj hji
    rw [H.1] at this
    cases this
 | succ n ih =>
  intro L a w hfree hr hy hS H
  refine ⟨fun h => (by rw [h] at hr; cases hr), fun j hj => ?_⟩
  by_cases hji : j = i
  · subst hji
    exact hy.wpOp hi hS ⟨fun _ h => h, H⟩
  · have h1 := H.2 j (ready_mono hj hji)
    obtain ⟨hjun, oj, hoj, hall⟩ := mem_ready.1 hj
    have hnot := not_afterE hoj hr hj
    have h2 := wpOp_putIf hoj (hfree j oj hoj hji hjun hnot) (fun cs b => hsel i oi cs b hi) (fun cs b => hsel j oj cs b hoj) hQ hy h1
    have hjk : E.contains j = false := by
     cases hc : E.contains j
     · rfl
     · exact absurd hj (not_readyE (hw j hc) hr)
    refine wpOp_mono (fun a' w' h3 => ⟨h3.2.1, ih (L.setIfInBounds j true) a' w' (fun m om hm hmi hun hno => ?_) (ready_mono hr (Ne.symm hji)) h3.1 (h3.2.1 hjk hS) ?_⟩) h2
    · refine hfree m om hm hmi ?_ hno
      by_cases hjm : j = m
      · subst hjm
        exact hjun
      · rw [getD_set_ne true hjm] at hun
        exact hun
    · rw [Array.setIfInBounds_comm _ _ hji]
      exact h3.2.2
theorem firstT {i : Nat} {oi : Oper} {v : Value} (hi : ops[i]? = some oi) (hsel : ∀ (j : Nat) (o : Oper) cs b, ops[j]? = some o → o.op ≠ .select cs b)
  (hQ : ∀ c a w, Q (.panic c) (a.put oi.dst v) w → Q (.panic c) a w) :
  ∀ (n : Nat) (L : Array Bool) (a : Act) (w : World),
   (∀ j oj, ops[j]? = some oj → j ≠ i → L.getD j true = false → (∀ e ∈ oj.after, Region.binds md e = true → e.on ≠ i) → oi.apart ops oj = true) →
   i ∈ Region.ready md ops L → YieldsIf P ops (fun _ => True) oi v a → wpAnyE P md ops Q S E n (L.setIfInBounds i true) (a.put oi.dst v) w → wpAnyE P md ops Q S E (n + 1) L a w := by
 intro n
 induction n with
 | zero =>
  intro L a w _ hr hy H
  refine ⟨fun h => (by rw [h] at hr; cases hr), fun j hj => ?_⟩
  by_cases hji : j = i
  · subst hji
    exact hy.wpOp hi trivial ⟨fun _ h => h, H⟩
  · have := ready_mono hj hji
    rw [H.1] at this
    cases this
 | succ n ih =>
  intro L a w hfree hr hy H
  refine ⟨fun h => (by rw [h] at hr; cases hr), fun j hj => ?_⟩
  by_cases hji : j = i
  · subst hji
    exact hy.wpOp hi trivial ⟨fun _ h => h, H⟩
  · have h1 := H.2 j (ready_mono hj hji)
    obtain ⟨hjun, oj, hoj, hall⟩ := mem_ready.1 hj
    have hnot := not_afterE hoj hr hj
    have h2 := wpOp_putIf hoj (hfree j oj hoj hji hjun hnot) (fun cs b => hsel i oi cs b hi) (fun cs b => hsel j oj cs b hoj) hQ hy h1
    refine wpOp_mono (fun a' w' h3 => ⟨h3.2.1, ih (L.setIfInBounds j true) a' w' (fun m om hm hmi hun hno => ?_) (ready_mono hr (Ne.symm hji)) h3.1 ?_⟩) h2
    · refine hfree m om hm hmi ?_ hno
      by_cases hjm : j = m
      · subst hjm
        exact hjun
      · rw [getD_set_ne true hjm] at hun
        exact hun
    · rw [Array.setIfInBounds_comm _ _ hji]
      exact h3.2.2
/-- A read: it may be taken first. -/
theorem readE {i n : Nat} {oi : Oper} {v : Value} {listed L : Array Bool} {a : Act} {w : World} (hi : os[i]? = some oi) (hL : listed.setIfInBounds i true = L)
  (hs : Region.noSelect os.toArray = true) (hf : (Region.free md os.toArray listed i && E.all fun k => waitsE md os.toArray k i) = true) (hr : (Region.ready md os.toArray listed).contains i = true)
  (hQ : ∀ c a w, Q (.panic c) (a.put oi.dst v) w → Q (.panic c) a w) (hS : S w) (hw : Region.wanted oi (yielded os.toArray a.tmps) = true) (hy : ∀ w, S w → (execOp a.eval oi).run P w = .ok (.value v) w)
  (h : wpAnyE P md os.toArray Q S E n L (a.put oi.dst v) w) : wpAnyE P md os.toArray Q S E (n + 1) listed a w := by
 rw [Bool.and_eq_true] at hf
 have hi' : os.toArray[i]? = some oi := by simpa using hi
 exact firstE hi' (Region.noSelect_spec hs) (fun k hk => List.all_eq_true.1 hf.2 k (by simpa using hk)) hQ n listed a w (Region.free_spec hi' hf.1) (by simpa using hr) (Or.inl ⟨hw, hy⟩) hS (hL ▸ h)
/-- What yields one value in whatever world: it may be taken first. -/
theorem pureE {i n : Nat} {oi : Oper} {v : Value} {listed L : Array Bool} {a : Act} {w : World} (hi : os[i]? = some oi) (hL : listed.setIfInBounds i true = L)
  (hs : Region.noSelect os.toArray = true) (hf : Region.free md os.toArray listed i = true) (hr : (Region.ready md os.toArray listed).contains i = true)
  (hQ : ∀ c a w, Q (.panic c) (a.put oi.dst v) w → Q (.panic c) a w) (hw : Region.wanted oi (yielded os.toArray a.tmps) = true) (hy : ∀ w, (execOp a.eval oi).run P w = .ok (.value v) w)
  (h : wpAnyE P md os.toArray Q S E n L (a.put oi.dst v) w) : wpAnyE P md os.toArray Q S E (n + 1) listed a w := by
 have hi' : os.toArray[i]? = some oi := by simpa using hi
 exact firstT hi' (Region.noSelect_spec hs) hQ n listed a w (Region.free_spec hi' hf) (by simpa using hr) (Or.inl ⟨hw, fun w _ => hy w⟩) (hL ▸ h)
/-- pureE with what goes by itself. -/
theorem zE (i : Nat) (L : Array Bool) (v : Value) {n : Nat} {oi : Oper} {listed : Array Bool} {a : Act} {w : World} (hi : os[i]? = some oi) (hy : ∀ w, (execOp a.eval oi).run P w = .ok (.value v) w)
  (h : wpAnyE P md os.toArray Q S E n L (a.put oi.dst v) w) (hL : listed.setIfInBounds i true = L := by rfl)
  (hs : Region.noSelect os.toArray = true := by kernel_rfl) (hf : Region.free md os.toArray listed i = true := by kernel_rfl) (hr : (Region.ready md os.toArray listed).contains i = true := by kernel_rfl)
  (hQ : ∀ c a w, Q (.panic c) (a.put oi.dst v) w → Q (.panic c) a w := by exact fun _ _ _ h => h) (hw : Region.wanted oi (yielded os.toArray a.tmps) = true := by rfl) : wpAnyE P md os.toArray Q S E (n + 1) listed a w := pureE hi hL hs hf hr hQ hw hy h
/-- One alone may come up: it is carried out. -/
theorem stepE {i n : Nat} {oi : Oper} {listed L : Array Bool} {a : Act} {w : World} (hi : os[i]? = some oi) (hL : listed.setIfInBounds i true = L)
  (hr : Region.ready md os.toArray listed = [i]) (hw : Region.wanted oi (yielded os.toArray a.tmps) = true)
  (h : Oper.wp P oi a w (fun a' w' => (E.contains i = false → S w → S w') ∧ wpAnyE P md os.toArray Q S E n L a' w') Q) :
  wpAnyE P md os.toArray Q S E (n + 1) listed a w := by
 subst hL
 refine ⟨fun h0 => (by rw [hr] at h0; cases h0), fun j hj => ?_⟩
 rw [hr] at hj
 obtain rfl := List.mem_singleton.1 hj
 refine wpOp_step (by simpa using hi) (fun K' hK => ?_)
 rw [if_pos hw]
 exact Oper.wp_mono (fun a' w' h' => hK a' w' h') h
/-- The same, what follows under a name. -/
theorem stepK {i n : Nat} {oi : Oper} {listed L : Array Bool} {a : Act} {w : World} (hi : os[i]? = some oi) (hL : listed.setIfInBounds i true = L)
  (hr : Region.ready md os.toArray listed = [i]) (hw : Region.wanted oi (yielded os.toArray a.tmps) = true)
  (h : ∀ K' : Act → World → Prop, Shut (∀ a w', ((E.contains i = false → S w → S w') ∧ wpAnyE P md os.toArray Q S E n L a w') → K' a w') → Oper.wp P oi a w K' Q) :
  wpAnyE P md os.toArray Q S E (n + 1) listed a w := by
 subst hL
 refine ⟨fun h0 => (by rw [hr] at h0; cases h0), fun j hj => ?_⟩
 rw [hr] at hj
 obtain rfl := List.mem_singleton.1 hj
 refine wpOp_step (by simpa using hi) (fun K' hK => ?_)
 rw [if_pos hw]
 exact h K' hK
/-- Two may come up: whichever. -/
theorem stepK2 {i j n : Nat} {oi oj : Oper} {listed Li Lj : Array Bool} {a : Act} {w : World} (hi : os[i]? = some oi) (hj : os[j]? = some oj) (hLi : listed.setIfInBounds i true = Li) (hLj : listed.setIfInBounds j true = Lj)
  (hr : Region.ready md os.toArray listed = [i, j]) (hwi : Region.wanted oi (yielded os.toArray a.tmps) = true) (hwj : Region.wanted oj (yielded os.toArray a.tmps) = true)
  (h : ∀ K' : Act → World → Prop, Shut (∀ a w', ((E.contains i = false → S w → S w') ∧ wpAnyE P md os.toArray Q S E n Li a w') → K' a w') → Oper.wp P oi a w K' Q)
  (h' : ∀ K' : Act → World → Prop, Shut (∀ a w', ((E.contains j = false → S w → S w') ∧ wpAnyE P md os.toArray Q S E n Lj a w') → K' a w') → Oper.wp P oj a w K' Q) :
  wpAnyE P md os.toArray Q S E (n + 1) listed a w := by
 subst hLi
 subst hLj
 refine ⟨fun h0 => (by rw [hr] at h0; cases h0), fun m hm => ?_⟩
 rw [hr] at hm
 simp only [List.mem_cons, List.not_mem_nil, or_false] at hm
 rcases hm with rfl | rfl
 · refine wpOp_step (by simpa using hi) (fun K' hK => ?_)
   rw [if_pos hwi]
   exact h K' hK
 · refine wpOp_step (by simpa using hj) (fun K' hK => ?_)
   rw [if_pos hwj]
   exact h' K' hK
/-- An operation whose run is known. -/
theorem wp_of_run {o : Oper} {a : Act} {w w' : World} {v : Value} {K : Act → World → Prop} (h : (execOp a.eval o).run P w = .ok (.value v) w') (hK : K (a.put o.dst v) w') : o.wp P a w K Q := by
 unfold Oper.wp
 rw [h]
 exact hK
theorem doneE {L : Array Bool} {a : Act} {w : World} (hr : Region.ready md ops L = []) (h : Q .normal a w) : ∀ n, wpAnyE P md ops Q S E n L a w
 | 0 => ⟨hr, h⟩
 | _ + 1 => ⟨fun _ => h, by rw [hr]; simp⟩
theorem region_E (S : World → Prop) (E : List Nat) {id m : Nat} {L : Array Bool} {a : Act} {w : World} (hm : P.follows .mixedOrders = true) (hsz : os.length = m) (hL : Array.replicate m false = L)
  (h : wpAnyE P .any os.toArray Q S E m L a w.drew) : (Code.region id os.toArray true).wp P Q a w := by
 subst hsz
 subst hL
 exact wp_region_any hm (any_of_E _ _ _ _ h)
end
/-- A load of a whole row. -/
theorem exec_load_mid {P : Program} {op : Oper} {ev : Operand → Value} {w : World} (ty : TypeId) (x : Operand) (ho : op.op = .load ty x)
  (b o : Nat) (hx : ev x = .pointer (some ⟨b, o, none⟩)) (cs : List Value) (d : TypeDesc) (hc : w.rangeAt b o cs)
  (hu : P.underlying ty = some d) (hd : d.isRow = true) (hi : (P.info? ty).map (·.size) = some cs.length) : (execOp ev op).run P w = .ok (.value (.agg cs.toArray)) w := by
 unfold execOp
 simp only [ho, hx, Instr.loadAt, Instr.sureAddr, Sem.run_bind, Sem.run_pure, Result.andThen_ok, run_loadVar_mid w b o ty cs d hc hu hd hi]
end Go.Proofs.YtmbppgjhdcmckaaGreatDoor
namespace Go.Proofs.YtmbppgjhdcmckaaGreatDoor
open Go.RowKit
namespace Dy
open Dp
theorem row_range {w : World} {g o : Nat} {ws : List Int} (h : Row w g o ws) : w.rangeAt g o (ws.map (Value.int .u32)) := fun j v hv => by
 have hj : j < 74 := by
  have := h.len
  rcases Nat.lt_or_ge j 74 with h' | h'
  · exact h'
  · rw [List.getElem?_eq_none (by simp; omega)] at hv
    cases hv
 rw [h.cell j hj]
 have hl : j < ws.length := by rw [h.len]; exact hj
 rw [List.getElem?_map, List.getElem?_eq_getElem hl] at hv
 rw [List.getElem?_eq_getElem hl]
 exact hv
theorem borrow_ex (x y c : Nat) (hx : x < 4294967296) (hy : y < 4294967296) (hc : c ≤ 1) : ∃ d b, d < 4294967296 ∧ b ≤ 1 ∧ x + 4294967296 * b = d + y + c := by
 by_cases h : x < y + c
 · exact ⟨x + 4294967296 - y - c, 1, by omega, by omega, by omega⟩
 · exact ⟨x - y - c, 0, by omega, by omega, by omega⟩
end Dy
end Go.Proofs.YtmbppgjhdcmckaaGreatDoor