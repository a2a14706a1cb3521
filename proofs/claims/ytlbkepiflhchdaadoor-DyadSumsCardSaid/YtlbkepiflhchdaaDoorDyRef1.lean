/- What the reference's functions of bits do, by walks. -/
import Derived.Test.YtlbkepiflhchdaaDoorBase
import Derived.Test.YtlbkepiflhchdaaDoorNum
import Derived.Test.YtlbkepiflhchdaaDoorProg
namespace Go.Proofs.YtlbkepiflhchdaaDoor
open Go.RowKit
namespace Dy

theorem ret_bool {a b : Bool} (h : a = b) : Ending.returned (.bool a) = .returned (.bool b) := by rw [h]
theorem ret_int {k : IntKind} {a b : Int} (h : a = b) : Ending.returned (.int k a) = .returned (.int k b) := by rw [h]
theorem get {k : IntKind} {xs : List Int} {A : Option Addr} {n : Nat} {w : World} {lo hi : Nat} (h : Ints w lo hi k A n xs) (hn : 0 < n) :
    ∃ b off, A = some ⟨b, off, none⟩ ∧ ∀ j, j < n → w.cell? ⟨b, off + j, none⟩ = some (.int k (xs[j]?.getD 0)) := by
  obtain ⟨b, off, e, _, _, hc⟩ := h.row hn
  exact ⟨b, off, e, fun j hj => (hc j hj).1⟩

/-- headcountref01.bit. -/
theorem bit_any (w : World) (lo hi : Nat) (A : Option Addr) (n c : Nat) (xs : List Int) (h : Ints w lo hi .u8 A n xs) (i : Nat) (ii v : Int) (hii : ii = i) (hv : xs[i]?.getD 0 = v) (hi : i ≤ 9223372036854775807) :
    Calls Tryd.prog 112 #[.slice A n c, .int .i64 ii] w fun e w' => e = .returned (.int .u8 v) ∧ w' = w := by
  have hl := h.len
  have hbig := h.big
  have HV := Lib.hid hv
  subst hii
  clear hv
  by_cases hlt : i < n
  · obtain ⟨b, off, rfl, hcell⟩ := get h (by omega)
    have g1 : w.cell? ⟨b, off + i, none⟩ = some (.int .u8 (xs[i]?.getD 0)) := hcell i hlt
    rw [HV.out] at g1
    clear hcell hl
    go_enter Tryd.func112, Tryd.ntmps112
    go_wp2
    go_ret
    exact ⟨rfl, rfl⟩
  · have h0 : v = 0 := by rw [← HV.out, List.getElem?_eq_none (by omega)]; rfl
    subst h0
    clear hl
    go_enter Tryd.func112, Tryd.ntmps112
    go_wp2
    go_ret
    exact ⟨rfl, rfl⟩

theorem cut_stop {B : Nat} {xs : List Int} {k : Nat} (hB : 2 ≤ B) (hd : Dig B xs) (hk : k ≤ xs.length) (hn : num B (xs.take k) = num B xs) (hs : k = 0 ∨ xs[k - 1]?.getD 0 ≠ 0) : xs.take k = canon B (num B xs) := by
  refine canon_of hB (fun x hx => hd x (List.mem_of_mem_take hx)) (fun hne => ?_) hn
  have hk0 : k ≠ 0 := fun e => hne (by rw [e]; rfl)
  have h1 := hs.resolve_left hk0
  rw [List.getLast_eq_getElem]
  simp only [List.length_take, List.getElem_take]
  have e : min k xs.length - 1 = k - 1 := by omega
  simp only [e]
  rwa [List.getElem?_eq_getElem (by omega)] at h1
theorem cut_on {B : Nat} {xs : List Int} {k : Nat} (hk : k + 1 ≤ xs.length) (hn : num B (xs.take (k + 1)) = num B xs) (hz : xs[k]?.getD 0 = 0) : num B (xs.take k) = num B xs := by
  rw [← hn, List.take_succ_eq_append_getElem (by omega), num_append]
  rw [List.getElem?_eq_getElem (by omega)] at hz
  simp only [Option.getD_some] at hz
  simp [num, hz]

set_option maxHeartbeats 400000 in
/-- headcountref01.Cut. -/
theorem Cut_any (w : World) (lo hi : Nat) (A : Option Addr) (n c : Nat) (xs : List Int) (h : Ints w lo hi .u8 A n xs) (hd : Dig 2 xs) (hnc : n ≤ c) :
    Calls Tryd.prog 96 #[.slice A n c] w fun e w' => (∃ m, e = .returned (.slice A m c) ∧ m ≤ n ∧ Ints w lo hi .u8 A m (canon 2 (num 2 xs))) ∧ w' = w := by
  have hl := Lib.hid h.len
  have hbig := h.big
  go_enter Tryd.func96, Tryd.ntmps96
  go_wp2
  go_loopw [3] (fun i wr => ∃ k : Nat, i = .int .i64 k ∧ k ≤ n ∧ Hid (num 2 (xs.take k) = num 2 xs) ∧ wr = w) (fun i _ => (intOf i).toNat)
  case atStart => exact ⟨n, rfl, Nat.le_refl _, by rw [Hid, List.take_of_length_le (by rw [hl.out]; exact Nat.le_refl _)], rfl⟩
  case round =>
    obtain ⟨k, rfl, hk, hn, rfl⟩ := hrel
    rcases k with _ | j
    · have he := cut_stop (by decide) hd (Nat.zero_le _) hn.out (.inl rfl)
      have hI := h.take_ (m := 0) (Nat.zero_le _)
      rw [he] at hI
      clear he
      go_wp2
      go_ret
      exact ⟨⟨0, rfl, Nat.zero_le _, hI⟩, by trivial⟩
    · obtain ⟨b, off, rfl, hcell⟩ := get h (by omega)
      have g1 : wr.cell? ⟨b, off + j, none⟩ = some (.int .u8 (xs[j]?.getD 0)) := hcell j (by omega)
      clear hcell
      have ej : ((j + 1 : Nat) : Int) - 1 = (j : Int) := by omega
      by_cases hz : xs[j]?.getD 0 = 0
      · have hn2 := Lib.hid (cut_on (by rw [hl.out]; omega) hn.out hz)
        rw [hz] at g1
        clear hz
        go_wp2
        go_roundw
        case rel => exact ⟨j, by first | rfl | (congr 1; omega), by omega, hn2, by trivial⟩
        case measure => first | (simp [intOf]; done) | (simp [intOf]; omega)
      · have he := cut_stop (by decide) hd (by rw [hl.out]; omega) hn.out (.inr (by simpa using hz))
        have hI := h.take_ (m := j + 1) hk
        rw [he] at hI
        have hb : (xs[j]?.getD 0 == 0) = false := by simpa using hz
        clear he hz
        go_wp2
        go_ret
        exact ⟨⟨j + 1, rfl, hk, hI⟩, by trivial⟩
end Dy
end Go.Proofs.YtlbkepiflhchdaaDoor
