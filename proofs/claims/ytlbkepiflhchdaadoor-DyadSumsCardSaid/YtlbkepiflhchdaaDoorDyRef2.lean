/- Sums of bits, by a walk. -/
import Derived.Test.YtlbkepiflhchdaaDoorDyRef1
namespace Go.Proofs.YtlbkepiflhchdaaDoor
open Go.RowKit
namespace Dy
theorem Tryd.info5 : (Tryd.prog.info? 5).map (fun i => (i.zero, i.size, i.bytes)) = some (some (.int .u8 0), 1, 1) := by kernel_rfl
theorem take_num (B : Nat) (l : List Int) (k : Nat) : num B (l.take (k + 1)) = num B (l.take k) + B ^ k * (l[k]?.getD 0).toNat := by
  by_cases h : k < l.length
  · rw [List.take_succ_eq_append_getElem h, num_append, List.getElem?_eq_getElem h]
    simp [num, Nat.min_eq_left (Nat.le_of_lt h)]
  · rw [List.take_of_length_le (by omega), List.take_of_length_le (by omega), List.getElem?_eq_none (by omega)]
    simp
theorem bit_nat {l : List Int} (hd : Dig 2 l) (k : Nat) : ∃ p : Nat, l[k]?.getD 0 = p ∧ p ≤ 1 := by
  by_cases h : k < l.length
  · rw [List.getElem?_eq_getElem h]
    have := hd _ (List.getElem_mem h)
    exact ⟨l[k].toNat, by simp only [Option.getD_some]; omega, by omega⟩
  · rw [List.getElem?_eq_none (by omega)]
    exact ⟨0, rfl, by omega⟩
theorem dig_snoc {l : List Int} (hd : Dig 2 l) (d : Nat) (h : d ≤ 1) : Dig 2 (l ++ [(d : Int)]) := fun x hx => by
  rcases List.mem_append.1 hx with h' | h'
  · exact hd x h'
  · rw [List.mem_singleton.1 h']
    omega
theorem plus_law {out xs ys : List Int} {k c p q s : Nat} (hl : out.length = k) (h : num 2 out + 2 ^ k * c = num 2 (xs.take k) + num 2 (ys.take k)) (hp : xs[k]?.getD 0 = (p : Int)) (hq : ys[k]?.getD 0 = (q : Int)) (hs : p + q + c = s) :
    num 2 (out ++ [((s % 2 : Nat) : Int)]) + 2 ^ (k + 1) * (s / 2) = num 2 (xs.take (k + 1)) + num 2 (ys.take (k + 1)) := by
  rw [take_num, take_num, hp, hq, num_append, hl]
  simp only [num, Int.toNat_natCast, Nat.mul_zero, Nat.add_zero, Nat.pow_succ]
  have e : 2 ^ k * (s % 2) + 2 ^ k * 2 * (s / 2) = 2 ^ k * s := by
    rw [Nat.mul_assoc, ← Nat.mul_add, Nat.mod_add_div]
  rw [Nat.add_assoc, e, ← hs, Nat.mul_add, Nat.mul_add]
  omega

theorem plus_end {out xs ys : List Int} {N c : Nat} (hx : xs.length + 1 ≤ N) (hy : ys.length + 1 ≤ N) (hdx : Dig 2 xs) (hdy : Dig 2 ys) (hc : c ≤ 1) (_hN : 1 ≤ N) (h : num 2 out + 2 ^ N * c = num 2 (xs.take N) + num 2 (ys.take N)) : num 2 out = num 2 xs + num 2 ys := by
  rw [List.take_of_length_le (by omega), List.take_of_length_le (by omega)] at h
  have h1 := num_lt 2 (by decide) xs hdx
  have h2 := num_lt 2 (by decide) ys hdy
  have e1 : 2 ^ xs.length ≤ 2 ^ (N - 1) := Nat.pow_le_pow_right (by decide) (by omega)
  have e2 : 2 ^ ys.length ≤ 2 ^ (N - 1) := Nat.pow_le_pow_right (by decide) (by omega)
  have e3 : 2 ^ N = 2 * 2 ^ (N - 1) := by rw [← Nat.pow_succ']; congr 1; omega
  rcases Nat.lt_or_ge 0 c with h0 | h0
  · obtain rfl : c = 1 := by omega
    omega
  · obtain rfl : c = 0 := by omega
    omega

set_option maxHeartbeats 1600000 in
/-- headcountref01.Plus, where the second is longer. -/
theorem Plus_lt (w : World) (lo hi lo' hi' : Nat) (A : Option Addr) (n c : Nat) (xs : List Int) (hX : Ints w lo hi .u8 A n xs) (B : Option Addr) (m d : Nat) (ys : List Int) (hY : Ints w lo' hi' .u8 B m ys) (hdx : Dig 2 xs) (hdy : Dig 2 ys)
    (hhi : hi ≤ w.heap.size) (hhi' : hi' ≤ w.heap.size) (hn : n ≤ 1000000) (hm : m ≤ 1000000) (hnm : n < m) :
    Calls Tryd.prog 98 #[.slice A n c, .slice B m d] w fun e w' => ∃ A' n' c', e = .returned (.slice A' n' c') ∧ n' ≤ c' ∧ Below w.heap.size w w' ∧ Ints w' w.heap.size w'.heap.size .u8 A' n' (canon 2 (num 2 xs + num 2 ys)) := by
  have HL := Lib.hid hX.len
  have HL2 := Lib.hid hY.len
  obtain ⟨i0, hi0, hz0, hz1, hz2⟩ := info_parts Tryd.info5
  go_enter Tryd.func98, Tryd.ntmps98
  go_wp2
  go_loopw [5, 6, 7] (fun v cy i wr => ∃ k cc : Nat, ∃ out : List Int, i = .int .i64 k ∧ cy = .int .u8 cc ∧ cc ≤ 1 ∧ k ≤ m + 1 ∧ wr.ownsRow w.heap.size 5 1 v k (out.map (Value.int .u8)) ∧ Dig 2 out ∧ Hid (num 2 out + 2 ^ k * cc = num 2 (xs.take k) + num 2 (ys.take k)) ∧ Below w.heap.size w wr)
    (fun _ _ i _ => m + 1 - (intOf i).toNat)
  case atStart => exact ⟨0, 0, [], rfl, rfl, by omega, by omega, ⟨rfl, .inl ⟨rfl, rfl⟩⟩, fun x hx => (by simp at hx), by simp [Hid, num], Below.refl _ _⟩
  case round =>
    obtain ⟨k, cc, out, rfl, rfl, hcc, hk, hown, hdo, hnum, hnx⟩ := hrel
    by_cases hlt : k ≤ m
    · obtain ⟨p, hp, hp1⟩ := bit_nat hdx k
      obtain ⟨q, hq, hq1⟩ := bit_nat hdy k
      have HP := Lib.hid hp
      have HQ := Lib.hid hq
      clear hp hq
      go_wp2_with fail
      refine (bit_any _ _ _ _ _ _ _ (hX.below hnx hhi) k _ p rfl HP.out (by omega)).mono ?_
      rintro e w1 ⟨rfl, rfl⟩
      go_wp2_with fail
      refine (bit_any _ _ _ _ _ _ _ (hY.below hnx hhi') k _ q rfl HQ.out (by omega)).mono ?_
      rintro e w2 ⟨rfl, rfl⟩
      go_wp2_with (first
        | (at_builtin; refine wpList_append_raw _ rfl (.tmp 27) (.tmp 30) 85 rfl w.heap.size 5 i0 (.int .u8 0) 1 1 Tryd.underlying85 hi0 hz0 hz1 hz2 rfl (by decide) _ _ _ rfl (hown.alloc _) _ _ _ 1 1 [.int .u8 (((p : Int) + q + cc) % 2)] rfl (raw_one _ _ _ _) ?c1 ?c2 ?c3 ?c4 ?_))
      case c1 => first | rfl | (intro u hu; simp at hu; subst hu; rfl)
      case c2 => unfold maxLen; omega
      case c3 => omega
      case c4 => have := hnx.size; simp; omega
      intro A2 c2 w3 hown2 hgrow2 _
      have hnx2 : Below w.heap.size w w3 := (hnx.alloc hnx.size _).grown hgrow2 (by have := hnx.size; simp; omega) (fun q hq => (hown.lt q hq).1)
      have hs : ((p : Int) + q + cc) % 2 = (((p + q + cc) % 2 : Nat) : Int) := by omega
      rw [hs] at hown2
      have hown3 : w3.ownsRow w.heap.size 5 1 (.slice A2 (k + 1) c2) (k + 1) ((out ++ [(((p + q + cc) % 2 : Nat) : Int)]).map (Value.int .u8)) := by simpa using hown2
      have hol : out.length = k := by have := hown.1; simpa using this
      have hnum2 := Lib.hid (plus_law hol hnum.out HP.out HQ.out rfl)
      have hdo2 := dig_snoc hdo ((p + q + cc) % 2) (by omega)
      clear hs hown2 hgrow2 hol hown hnum
      go_wp2
      go_roundw
      case rel => exact ⟨k + 1, (p + q + cc) / 2, _, by go_num, by congr 1, by omega, by omega, hown3, hdo2, hnum2, hnx2⟩
      case measure => simp [intOf]; omega
    · obtain ⟨A2, c2, rfl, hc2, _⟩ := own_shape hown
      have hend := plus_end (N := k) (by rw [HL.out]; omega) (by rw [HL2.out]; omega) hdx hdy hcc (by omega) hnum.out
      have hwf : ∀ x ∈ out, IntKind.u8.min ≤ x ∧ x ≤ IntKind.u8.max := fun x hx => by
        have := hdo x hx
        simp only [IntKind.min, IntKind.max, IntKind.signed, IntKind.bits]
        omega
      have hI := Ints.of_own hown hwf (by omega)
      have HE := Lib.hid hend
      clear hown hnum hend
      go_wp2_with fail
      refine (Cut_any _ _ _ _ _ _ _ hI hdo hc2).mono ?_
      rintro e w4 ⟨⟨m4, rfl, hm4, hI4⟩, rfl⟩
      rw [HE.out] at hI4
      go_wp2_with fail
      go_ret
      exact ⟨A2, m4, c2, rfl, by omega, hnx, hI4⟩

set_option maxHeartbeats 1600000 in
/-- headcountref01.Plus, where it is not. -/
theorem Plus_ge (w : World) (lo hi lo' hi' : Nat) (A : Option Addr) (n c : Nat) (xs : List Int) (hX : Ints w lo hi .u8 A n xs) (B : Option Addr) (m d : Nat) (ys : List Int) (hY : Ints w lo' hi' .u8 B m ys) (hdx : Dig 2 xs) (hdy : Dig 2 ys)
    (hhi : hi ≤ w.heap.size) (hhi' : hi' ≤ w.heap.size) (hn : n ≤ 1000000) (_hm : m ≤ 1000000) (hnm : ¬ n < m) :
    Calls Tryd.prog 98 #[.slice A n c, .slice B m d] w fun e w' => ∃ A' n' c', e = .returned (.slice A' n' c') ∧ n' ≤ c' ∧ Below w.heap.size w w' ∧ Ints w' w.heap.size w'.heap.size .u8 A' n' (canon 2 (num 2 xs + num 2 ys)) := by
  have HL := Lib.hid hX.len
  have HL2 := Lib.hid hY.len
  obtain ⟨i0, hi0, hz0, hz1, hz2⟩ := info_parts Tryd.info5
  go_enter Tryd.func98, Tryd.ntmps98
  go_wp2
  go_loopw [5, 6, 7] (fun v cy i wr => ∃ k cc : Nat, ∃ out : List Int, i = .int .i64 k ∧ cy = .int .u8 cc ∧ cc ≤ 1 ∧ k ≤ n + 1 ∧ wr.ownsRow w.heap.size 5 1 v k (out.map (Value.int .u8)) ∧ Dig 2 out ∧ Hid (num 2 out + 2 ^ k * cc = num 2 (xs.take k) + num 2 (ys.take k)) ∧ Below w.heap.size w wr)
    (fun _ _ i _ => n + 1 - (intOf i).toNat)
  case atStart => exact ⟨0, 0, [], rfl, rfl, by omega, by omega, ⟨rfl, .inl ⟨rfl, rfl⟩⟩, fun x hx => (by simp at hx), by simp [Hid, num], Below.refl _ _⟩
  case round =>
    obtain ⟨k, cc, out, rfl, rfl, hcc, hk, hown, hdo, hnum, hnx⟩ := hrel
    by_cases hlt : k ≤ n
    · obtain ⟨p, hp, hp1⟩ := bit_nat hdx k
      obtain ⟨q, hq, hq1⟩ := bit_nat hdy k
      have HP := Lib.hid hp
      have HQ := Lib.hid hq
      clear hp hq
      go_wp2_with fail
      refine (bit_any _ _ _ _ _ _ _ (hX.below hnx hhi) k _ p rfl HP.out (by omega)).mono ?_
      rintro e w1 ⟨rfl, rfl⟩
      go_wp2_with fail
      refine (bit_any _ _ _ _ _ _ _ (hY.below hnx hhi') k _ q rfl HQ.out (by omega)).mono ?_
      rintro e w2 ⟨rfl, rfl⟩
      go_wp2_with (first
        | (at_builtin; refine wpList_append_raw _ rfl (.tmp 27) (.tmp 30) 85 rfl w.heap.size 5 i0 (.int .u8 0) 1 1 Tryd.underlying85 hi0 hz0 hz1 hz2 rfl (by decide) _ _ _ rfl (hown.alloc _) _ _ _ 1 1 [.int .u8 (((p : Int) + q + cc) % 2)] rfl (raw_one _ _ _ _) ?c1 ?c2 ?c3 ?c4 ?_))
      case c1 => first | rfl | (intro u hu; simp at hu; subst hu; rfl)
      case c2 => unfold maxLen; omega
      case c3 => omega
      case c4 => have := hnx.size; simp; omega
      intro A2 c2 w3 hown2 hgrow2 _
      have hnx2 : Below w.heap.size w w3 := (hnx.alloc hnx.size _).grown hgrow2 (by have := hnx.size; simp; omega) (fun q hq => (hown.lt q hq).1)
      have hs : ((p : Int) + q + cc) % 2 = (((p + q + cc) % 2 : Nat) : Int) := by omega
      rw [hs] at hown2
      have hown3 : w3.ownsRow w.heap.size 5 1 (.slice A2 (k + 1) c2) (k + 1) ((out ++ [(((p + q + cc) % 2 : Nat) : Int)]).map (Value.int .u8)) := by simpa using hown2
      have hol : out.length = k := by have := hown.1; simpa using this
      have hnum2 := Lib.hid (plus_law hol hnum.out HP.out HQ.out rfl)
      have hdo2 := dig_snoc hdo ((p + q + cc) % 2) (by omega)
      clear hs hown2 hgrow2 hol hown hnum
      go_wp2
      go_roundw
      case rel => exact ⟨k + 1, (p + q + cc) / 2, _, by go_num, by congr 1, by omega, by omega, hown3, hdo2, hnum2, hnx2⟩
      case measure => simp [intOf]; omega
    · obtain ⟨A2, c2, rfl, hc2, _⟩ := own_shape hown
      have hend := plus_end (N := k) (by rw [HL.out]; omega) (by rw [HL2.out]; omega) hdx hdy hcc (by omega) hnum.out
      have hwf : ∀ x ∈ out, IntKind.u8.min ≤ x ∧ x ≤ IntKind.u8.max := fun x hx => by
        have := hdo x hx
        simp only [IntKind.min, IntKind.max, IntKind.signed, IntKind.bits]
        omega
      have hI := Ints.of_own hown hwf (by omega)
      have HE := Lib.hid hend
      clear hown hnum hend
      go_wp2_with fail
      refine (Cut_any _ _ _ _ _ _ _ hI hdo hc2).mono ?_
      rintro e w4 ⟨⟨m4, rfl, hm4, hI4⟩, rfl⟩
      rw [HE.out] at hI4
      go_wp2_with fail
      go_ret
      exact ⟨A2, m4, c2, rfl, by omega, hnx, hI4⟩

theorem Plus_any (w : World) (lo hi lo' hi' : Nat) (A : Option Addr) (n c : Nat) (xs : List Int) (hX : Ints w lo hi .u8 A n xs) (B : Option Addr) (m d : Nat) (ys : List Int) (hY : Ints w lo' hi' .u8 B m ys) (hdx : Dig 2 xs) (hdy : Dig 2 ys)
    (hhi : hi ≤ w.heap.size) (hhi' : hi' ≤ w.heap.size) (hn : n ≤ 1000000) (hm : m ≤ 1000000) (s : Nat) (hs : num 2 xs + num 2 ys = s) :
    Calls Tryd.prog 98 #[.slice A n c, .slice B m d] w fun e w' => ∃ A' n' c', e = .returned (.slice A' n' c') ∧ n' ≤ c' ∧ Below w.heap.size w w' ∧ Ints w' w.heap.size w'.heap.size .u8 A' n' (canon 2 s) := by
  subst hs
  by_cases h : n < m
  · exact Plus_lt w lo hi lo' hi' A n c xs hX B m d ys hY hdx hdy hhi hhi' hn hm h
  · exact Plus_ge w lo hi lo' hi' A n c xs hX B m d ys hY hdx hdy hhi hhi' hn hm h
end Dy
end Go.Proofs.YtlbkepiflhchdaaDoor
