/- How bits stand to each other, by a walk. -/
import Derived.Test.YtlbkepiflhchdaaDoorDyRef3
namespace Go.Proofs.YtlbkepiflhchdaaDoor
open Go.RowKit
namespace Dy
theorem num_ext (B : Nat) : ∀ (xs ys : List Int), (∀ j : Nat, xs[j]?.getD 0 = ys[j]?.getD 0) → num B xs = num B ys
  | [], [], _ => rfl
  | [], y :: ys, h => by
    have h0 : (0 : Int) = y := by simpa using h 0
    have ih := num_ext B [] ys fun j => by simpa using h (j + 1)
    simp only [num] at ih ⊢
    rw [← ih, ← h0]
    simp
  | x :: xs, [], h => by
    have h0 : x = (0 : Int) := by simpa using h 0
    have ih := num_ext B xs [] fun j => by simpa using h (j + 1)
    simp only [num] at ih ⊢
    rw [ih, h0]
    simp
  | x :: xs, y :: ys, h => by
    have h0 : x = y := by simpa using h 0
    have ih := num_ext B xs ys fun j => by simpa using h (j + 1)
    simp only [num]
    rw [ih, h0]
theorem num_split (B : Nat) (l : List Int) (k : Nat) : num B l = num B (l.take k) + B ^ k * num B (l.drop k) := by
  by_cases h : k ≤ l.length
  · conv => lhs; rw [← List.take_append_drop k l]
    rw [num_append]
    simp [Nat.min_eq_left h]
  · rw [List.take_of_length_le (by omega), List.drop_eq_nil_of_le (by omega)]
    simp [num]
theorem order_lt {B : Nat} (hB : 0 < B) {xs ys : List Int} {i : Nat} (hdx : Dig B xs) (hdy : Dig B ys) (heq : ∀ j, i < j → xs[j]?.getD 0 = ys[j]?.getD 0) (hlt : (xs[i]?.getD 0).toNat < (ys[i]?.getD 0).toNat) : num B xs < num B ys := by
  rw [num_split B xs (i + 1), num_split B ys (i + 1), take_num, take_num]
  have hd : num B (xs.drop (i + 1)) = num B (ys.drop (i + 1)) := num_ext B _ _ fun j => by
    rw [List.getElem?_drop, List.getElem?_drop]
    exact heq (i + 1 + j) (by omega)
  rw [hd]
  have h1 := num_lt B hB (xs.take i) fun x hx => hdx x (List.mem_of_mem_take hx)
  have h2 : B ^ (xs.take i).length ≤ B ^ i := Nat.pow_le_pow_right hB (by simp; omega)
  have h3 : B ^ i * ((xs[i]?.getD 0).toNat + 1) ≤ B ^ i * (ys[i]?.getD 0).toNat := Nat.mul_le_mul_left _ hlt
  rw [Nat.mul_add, Nat.mul_one] at h3
  omega
def cmpN (a b : Nat) : Int := if a < b then -1 else if a = b then 0 else 1

set_option maxHeartbeats 800000 in
set_option maxRecDepth 100000 in
theorem Order_lt (w : World) (lo hi lo' hi' : Nat) (A : Option Addr) (n c : Nat) (xs : List Int) (hX : Ints w lo hi .u8 A n xs) (B : Option Addr) (m d : Nat) (ys : List Int) (hY : Ints w lo' hi' .u8 B m ys) (hdx : Dig 2 xs) (hdy : Dig 2 ys)
    (hn : n ≤ 1000000) (hm : m ≤ 1000000) (hnm : n < m) (r : Int) (hr : cmpN (num 2 xs) (num 2 ys) = r) :
    Calls Tryd.prog 99 #[.slice A n c, .slice B m d] w fun e w' => e = .returned (.int .i64 r) ∧ w' = w := by
  have HR := Lib.hid hr
  have heq0 : ∀ j, m ≤ j → xs[j]?.getD 0 = ys[j]?.getD 0 := fun j hj => by
    have h1 := hX.len
    have h2 := hY.len
    rw [List.getElem?_eq_none (by omega), List.getElem?_eq_none (by omega)]
  have H0 := Lib.hid heq0
  clear hr heq0
  go_enter Tryd.func99, Tryd.ntmps99
  go_wp2
  go_loopw [5] (fun i wr => ∃ j : Nat, i = .int .i64 ((j : Int) - 1) ∧ j ≤ m ∧ Hid (∀ t, j ≤ t → xs[t]?.getD 0 = ys[t]?.getD 0) ∧ wr = w) (fun i _ => (intOf i + 1).toNat)
  case atStart => exact ⟨m, rfl, Nat.le_refl _, H0.out, rfl⟩
  case round =>
    obtain ⟨j, rfl, hj, he, rfl⟩ := hrel
    rcases j with _ | i
    · have hr0 : r = 0 := by
        rw [← HR.out, num_ext 2 xs ys fun t => he.out t (Nat.zero_le _)]
        simp [cmpN]
      go_wp2
      go_ret
      exact ⟨ret_int (by rw [hr0]), by trivial⟩
    · have ei : ((i + 1 : Nat) : Int) - 1 = (i : Int) := by omega
      rw [ei]
      obtain ⟨p, hp, hp1⟩ := bit_nat hdx i
      obtain ⟨q, hq, hq1⟩ := bit_nat hdy i
      have HP := Lib.hid hp
      have HQ := Lib.hid hq
      clear hp hq ei
      by_cases hpq : p = q
      · subst hpq
        go_wp2_with fail
        refine (bit_any _ _ _ _ _ _ _ hX i _ p rfl HP.out (by omega)).mono ?_
        rintro e w1 ⟨rfl, rfl⟩
        go_wp2_with fail
        refine (bit_any _ _ _ _ _ _ _ hY i _ p rfl HQ.out (by omega)).mono ?_
        rintro e w2 ⟨rfl, rfl⟩
        go_wp2_with fail
        go_roundw
        case rel =>
          refine ⟨i, by first | rfl | (congr 1; omega), by omega, fun t ht => ?_, by trivial⟩
          by_cases e : t = i
          · subst e
            rw [HP.out, HQ.out]
          · exact he.out t (by omega)
        case measure => first | (simp [intOf]; done) | (simp [intOf]; omega)
      · by_cases hlt : p < q
        · have hr1 : r = -1 := by
            have := order_lt (by decide) hdx hdy (i := i) (fun t ht => he.out t ht) (by rw [HP.out, HQ.out]; simpa using hlt)
            rw [← HR.out, cmpN, if_pos this]
          obtain rfl : p = 0 := by omega
          obtain rfl : q = 1 := by omega
          have HR1 := Lib.hid hr1
          clear hr1
          go_wp2_with fail
          refine (bit_any _ _ _ _ _ _ _ hX i _ 0 rfl HP.out (by omega)).mono ?_
          rintro e w1 ⟨rfl, rfl⟩
          go_wp2_with fail
          refine (bit_any _ _ _ _ _ _ _ hY i _ 1 rfl HQ.out (by omega)).mono ?_
          rintro e w2 ⟨rfl, rfl⟩
          go_wp2_with fail
          refine (bit_any _ _ _ _ _ _ _ hX i _ 0 rfl HP.out (by omega)).mono ?_
          rintro e w1 ⟨rfl, rfl⟩
          go_wp2_with fail
          refine (bit_any _ _ _ _ _ _ _ hY i _ 1 rfl HQ.out (by omega)).mono ?_
          rintro e w2 ⟨rfl, rfl⟩
          go_wp2_with fail
          go_ret
          exact ⟨ret_int (by rw [HR1.out]), by trivial⟩
        · have hr1 : r = 1 := by
            have := order_lt (by decide) hdy hdx (i := i) (fun t ht => (he.out t ht).symm) (by rw [HP.out, HQ.out]; simp; omega)
            rw [← HR.out, cmpN, if_neg (by omega), if_neg (by omega)]
          obtain rfl : p = 1 := by omega
          obtain rfl : q = 0 := by omega
          have HR1 := Lib.hid hr1
          clear hr1
          go_wp2_with fail
          refine (bit_any _ _ _ _ _ _ _ hX i _ 1 rfl HP.out (by omega)).mono ?_
          rintro e w1 ⟨rfl, rfl⟩
          go_wp2_with fail
          refine (bit_any _ _ _ _ _ _ _ hY i _ 0 rfl HQ.out (by omega)).mono ?_
          rintro e w2 ⟨rfl, rfl⟩
          go_wp2_with fail
          refine (bit_any _ _ _ _ _ _ _ hX i _ 1 rfl HP.out (by omega)).mono ?_
          rintro e w1 ⟨rfl, rfl⟩
          go_wp2_with fail
          refine (bit_any _ _ _ _ _ _ _ hY i _ 0 rfl HQ.out (by omega)).mono ?_
          rintro e w2 ⟨rfl, rfl⟩
          go_wp2_with fail
          go_ret
          exact ⟨ret_int (by rw [HR1.out]), by trivial⟩

set_option maxHeartbeats 800000 in
set_option maxRecDepth 100000 in
theorem Order_ge (w : World) (lo hi lo' hi' : Nat) (A : Option Addr) (n c : Nat) (xs : List Int) (hX : Ints w lo hi .u8 A n xs) (B : Option Addr) (m d : Nat) (ys : List Int) (hY : Ints w lo' hi' .u8 B m ys) (hdx : Dig 2 xs) (hdy : Dig 2 ys)
    (hn : n ≤ 1000000) (hm : m ≤ 1000000) (hnm : ¬ n < m) (r : Int) (hr : cmpN (num 2 xs) (num 2 ys) = r) :
    Calls Tryd.prog 99 #[.slice A n c, .slice B m d] w fun e w' => e = .returned (.int .i64 r) ∧ w' = w := by
  have HR := Lib.hid hr
  have heq0 : ∀ j, n ≤ j → xs[j]?.getD 0 = ys[j]?.getD 0 := fun j hj => by
    have h1 := hX.len
    have h2 := hY.len
    rw [List.getElem?_eq_none (by omega), List.getElem?_eq_none (by omega)]
  have H0 := Lib.hid heq0
  clear hr heq0
  go_enter Tryd.func99, Tryd.ntmps99
  go_wp2
  go_loopw [5] (fun i wr => ∃ j : Nat, i = .int .i64 ((j : Int) - 1) ∧ j ≤ n ∧ Hid (∀ t, j ≤ t → xs[t]?.getD 0 = ys[t]?.getD 0) ∧ wr = w) (fun i _ => (intOf i + 1).toNat)
  case atStart => exact ⟨n, rfl, Nat.le_refl _, H0.out, rfl⟩
  case round =>
    obtain ⟨j, rfl, hj, he, rfl⟩ := hrel
    rcases j with _ | i
    · have hr0 : r = 0 := by
        rw [← HR.out, num_ext 2 xs ys fun t => he.out t (Nat.zero_le _)]
        simp [cmpN]
      go_wp2
      go_ret
      exact ⟨ret_int (by rw [hr0]), by trivial⟩
    · have ei : ((i + 1 : Nat) : Int) - 1 = (i : Int) := by omega
      rw [ei]
      obtain ⟨p, hp, hp1⟩ := bit_nat hdx i
      obtain ⟨q, hq, hq1⟩ := bit_nat hdy i
      have HP := Lib.hid hp
      have HQ := Lib.hid hq
      clear hp hq ei
      by_cases hpq : p = q
      · subst hpq
        go_wp2_with fail
        refine (bit_any _ _ _ _ _ _ _ hX i _ p rfl HP.out (by omega)).mono ?_
        rintro e w1 ⟨rfl, rfl⟩
        go_wp2_with fail
        refine (bit_any _ _ _ _ _ _ _ hY i _ p rfl HQ.out (by omega)).mono ?_
        rintro e w2 ⟨rfl, rfl⟩
        go_wp2_with fail
        go_roundw
        case rel =>
          refine ⟨i, by first | rfl | (congr 1; omega), by omega, fun t ht => ?_, by trivial⟩
          by_cases e : t = i
          · subst e
            rw [HP.out, HQ.out]
          · exact he.out t (by omega)
        case measure => first | (simp [intOf]; done) | (simp [intOf]; omega)
      · by_cases hlt : p < q
        · have hr1 : r = -1 := by
            have := order_lt (by decide) hdx hdy (i := i) (fun t ht => he.out t ht) (by rw [HP.out, HQ.out]; simpa using hlt)
            rw [← HR.out, cmpN, if_pos this]
          obtain rfl : p = 0 := by omega
          obtain rfl : q = 1 := by omega
          have HR1 := Lib.hid hr1
          clear hr1
          go_wp2_with fail
          refine (bit_any _ _ _ _ _ _ _ hX i _ 0 rfl HP.out (by omega)).mono ?_
          rintro e w1 ⟨rfl, rfl⟩
          go_wp2_with fail
          refine (bit_any _ _ _ _ _ _ _ hY i _ 1 rfl HQ.out (by omega)).mono ?_
          rintro e w2 ⟨rfl, rfl⟩
          go_wp2_with fail
          refine (bit_any _ _ _ _ _ _ _ hX i _ 0 rfl HP.out (by omega)).mono ?_
          rintro e w1 ⟨rfl, rfl⟩
          go_wp2_with fail
          refine (bit_any _ _ _ _ _ _ _ hY i _ 1 rfl HQ.out (by omega)).mono ?_
          rintro e w2 ⟨rfl, rfl⟩
          go_wp2_with fail
          go_ret
          exact ⟨ret_int (by rw [HR1.out]), by trivial⟩
        · have hr1 : r = 1 := by
            have := order_lt (by decide) hdy hdx (i := i) (fun t ht => (he.out t ht).symm) (by rw [HP.out, HQ.out]; simp; omega)
            rw [← HR.out, cmpN, if_neg (by omega), if_neg (by omega)]
          obtain rfl : p = 1 := by omega
          obtain rfl : q = 0 := by omega
          have HR1 := Lib.hid hr1
          clear hr1
          go_wp2_with fail
          refine (bit_any _ _ _ _ _ _ _ hX i _ 1 rfl HP.out (by omega)).mono ?_
          rintro e w1 ⟨rfl, rfl⟩
          go_wp2_with fail
          refine (bit_any _ _ _ _ _ _ _ hY i _ 0 rfl HQ.out (by omega)).mono ?_
          rintro e w2 ⟨rfl, rfl⟩
          go_wp2_with fail
          refine (bit_any _ _ _ _ _ _ _ hX i _ 1 rfl HP.out (by omega)).mono ?_
          rintro e w1 ⟨rfl, rfl⟩
          go_wp2_with fail
          refine (bit_any _ _ _ _ _ _ _ hY i _ 0 rfl HQ.out (by omega)).mono ?_
          rintro e w2 ⟨rfl, rfl⟩
          go_wp2_with fail
          go_ret
          exact ⟨ret_int (by rw [HR1.out]), by trivial⟩

/-- headcountref01.Order. -/
theorem Order_any (w : World) (lo hi lo' hi' : Nat) (A : Option Addr) (n c : Nat) (xs : List Int) (hX : Ints w lo hi .u8 A n xs) (B : Option Addr) (m d : Nat) (ys : List Int) (hY : Ints w lo' hi' .u8 B m ys) (hdx : Dig 2 xs) (hdy : Dig 2 ys)
    (hn : n ≤ 1000000) (hm : m ≤ 1000000) (r : Int) (hr : cmpN (num 2 xs) (num 2 ys) = r) :
    Calls Tryd.prog 99 #[.slice A n c, .slice B m d] w fun e w' => e = .returned (.int .i64 r) ∧ w' = w := by
  by_cases h : n < m
  · exact Order_lt w lo hi lo' hi' A n c xs hX B m d ys hY hdx hdy hn hm h r hr
  · exact Order_ge w lo hi lo' hi' A n c xs hX B m d ys hY hdx hdy hn hm h r hr
end Dy
end Go.Proofs.YtlbkepiflhchdaaDoor
