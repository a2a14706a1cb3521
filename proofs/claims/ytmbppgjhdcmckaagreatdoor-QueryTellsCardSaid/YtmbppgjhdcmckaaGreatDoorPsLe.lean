/- Tags that may be: least.Check and headcountref10.MayLeast, each by a walk. -/
import Derived.Test.YtmbppgjhdcmckaaGreatDoorBg01
import Derived.Test.YtmbppgjhdcmckaaGreatDoorLeastPure
import Derived.Test.YtmbppgjhdcmckaaGreatDoorProg
namespace Go.Proofs.YtmbppgjhdcmckaaGreatDoor
open Go.RowKit
namespace Least
theorem ret_int {k : IntKind} {a b : Int} (h : a = b) : Ending.returned (.int k a) = .returned (.int k b) := by rw [h]
theorem ret_bool {a b : Bool} (h : a = b) : Ending.returned (.bool a) = .returned (.bool b) := by rw [h]
theorem below_get {xs : List Int} {A : Option Addr} {n : Nat} {w : World} {lo hi : Nat} (h : Ints w lo hi .u32 A n xs) (hn : 0 < n) :
    ∃ b off, A = some ⟨b, off, none⟩ ∧ ∀ j, j < n → w.cell? ⟨b, off + j, none⟩ = some (.int .u32 (xs[j]?.getD 0)) := by
  obtain ⟨b, off, e, _, _, hc⟩ := h.row hn
  exact ⟨b, off, e, fun j hj => (hc j hj).1⟩
set_option maxHeartbeats 400000 in
/-- least.Check. -/
theorem Check_any (w : World) (lo hi : Nat) (A : Option Addr) (n c : Nat) (xs : List Int) (h : Ints w lo hi .u32 A n xs) (code : Int) (hcode : checkCode xs = code) :
    Calls Tryz.prog 69 #[.slice A n c] w fun e w' => e = .returned (.int .i64 code) ∧ ∃ m, w' = w.drewN m := by
  have hlen := h.len
  have Hl := Lib.hid h.len
  have hbig := h.big
  have Hc := Lib.hid hcode
  clear hcode
  by_cases h8 : 8 < n
  · have hf : code = 4 := by rw [← Hc.out]; unfold checkCode; rw [if_pos (by omega)]
    have Hf := Lib.hid hf
    clear hf hlen
    go_enter Tryz.func69, Tryz.ntmps69
    go_wp2
    go_ret
    exact ⟨ret_int (by rw [Hf.out]), 0, rfl⟩
  · clear hlen
    go_enter Tryz.func69, Tryz.ntmps69
    go_wp2
    go_loopw [3] (fun i wr => ∃ k : Nat, 1 ≤ k ∧ i = .int .i64 k ∧ (k ≤ n ∨ k = 1) ∧ Hid (risesTo xs k = true) ∧ ∃ m, wr = w.drewN m) (fun i _ => n - (intOf i).toNat)
    case atStart => exact ⟨1, by omega, rfl, by omega, (by simp [Hid, risesTo]), 0, rfl⟩
    case round =>
      obtain ⟨k, hk, rfl, hk1, hr, m, rfl⟩ := hrel
      by_cases hlt : k < n
      · obtain ⟨b, off, rfl, hcell⟩ := below_get h (by omega)
        have g1 : w.cell? ⟨b, off + k, none⟩ = some (.int .u32 (xs[k]?.getD 0)) := hcell _ (by omega)
        have g2 : w.cell? ⟨b, off + (k - 1), none⟩ = some (.int .u32 (xs[k-1]?.getD 0)) := hcell _ (by omega)
        clear hcell
        go_wp2
        go_quiet (fail)
        go_wp2
        · have hle : xs[k]?.getD 0 ≤ xs[k - 1]?.getD 0 := by assumption
          have hf : code = 8 := by
            have hl := Hl.out
            rw [← Hc.out]; unfold checkCode rises
            rw [if_neg (by omega), risesTo_false (k := k + 1) (by simp [risesTo]; omega) (by omega)]
            rfl
          go_ret
          exact ⟨ret_int (by rw [hf]), m + nq, by simp⟩
        · have hgt : xs[k - 1]?.getD 0 < xs[k]?.getD 0 := by assumption
          go_roundw
          case rel => exact ⟨k + 1, by omega, by go_num, by omega, (by have := hr.out; simp [Hid, risesTo, this, hgt]), m + nq, by simp⟩
          case measure => simp [intOf]; omega
      · have hf : code = 0 := by
          have hl := Hl.out
          have hr := hr.out
          rw [← Hc.out]; unfold checkCode rises
          rw [if_neg (by omega)]
          rcases hk1 with hk1 | hk1
          · rw [show xs.length = k by omega, hr]; rfl
          · subst hk1
            have : xs.length = 0 ∨ xs.length = 1 := by omega
            rcases this with e | e <;> simp [e, risesTo]
        have Hf := Lib.hid hf
        clear hf
        go_wp2
        go_ret
        exact ⟨ret_int (by rw [Hf.out]), m, rfl⟩
set_option maxHeartbeats 400000 in
/-- headcountref10.MayLeast. -/
theorem MayLeast_any (w : World) (lo hi : Nat) (A : Option Addr) (n c : Nat) (xs : List Int) (h : Ints w lo hi .u32 A n xs) (r : Bool) (hcode : decide (checkCode xs = 0) = r) :
    Calls Tryz.prog 85 #[.slice A n c] w fun e w' => e = .returned (.bool r) ∧ ∃ m, w' = w.drewN m := by
  have Hl := Lib.hid h.len
  have hbig := h.big
  have Hc := Lib.hid hcode
  clear hcode
  go_enter Tryz.func85, Tryz.ntmps85
  go_wp2
  go_loopw [3] (fun i wr => ∃ k : Nat, 1 ≤ k ∧ i = .int .i64 k ∧ (k ≤ n ∨ k = 1) ∧ Hid (risesTo xs k = true) ∧ ∃ m, wr = w.drewN m) (fun i _ => n - (intOf i).toNat)
  case atStart => exact ⟨1, by omega, rfl, by omega, (by simp [Hid, risesTo]), 0, rfl⟩
  case round =>
    obtain ⟨k, hk, rfl, hk1, hr, m, rfl⟩ := hrel
    by_cases hlt : k < n
    · obtain ⟨b, off, rfl, hcell⟩ := below_get h (by omega)
      have g1 : w.cell? ⟨b, off + k, none⟩ = some (.int .u32 (xs[k]?.getD 0)) := hcell _ (by omega)
      have g2 : w.cell? ⟨b, off + (k - 1), none⟩ = some (.int .u32 (xs[k-1]?.getD 0)) := hcell _ (by omega)
      clear hcell
      go_wp2
      go_quiet (fail)
      go_wp2
      · have hle : xs[k]?.getD 0 ≤ xs[k - 1]?.getD 0 := by assumption
        have hf : r = false := by
          have hl := Hl.out
          rw [← Hc.out]; unfold checkCode rises
          rw [risesTo_false (k := k + 1) (n := xs.length) (by simp [risesTo]; omega) (by omega)]
          split <;> simp
        go_ret
        exact ⟨ret_bool (by rw [hf]), m + nq, by simp⟩
      · have hgt : xs[k - 1]?.getD 0 < xs[k]?.getD 0 := by assumption
        go_roundw
        case rel => exact ⟨k + 1, by omega, by go_num, by omega, (by have := hr.out; simp [Hid, risesTo, this, hgt]), m + nq, by simp⟩
        case measure => simp [intOf]; omega
    · have hf : r = decide (n ≤ 8) := by
        have hl := Hl.out
        have hr := hr.out
        have h2 : rises xs = true := by
          unfold rises
          rcases hk1 with hk1 | hk1
          · rw [show xs.length = k by omega, hr]
          · subst hk1
            have : xs.length = 0 ∨ xs.length = 1 := by omega
            rcases this with e | e <;> simp [e, risesTo]
        rw [← Hc.out]; unfold checkCode
        rw [h2, hl]
        by_cases h9 : 8 < n
        · simp [h9]
        · simp [h9]; omega
      have Hf := Lib.hid hf
      clear hf
      go_wp2
      go_ret
      refine ⟨ret_bool ?_, m, rfl⟩
      rw [Hf.out]
      simp; omega
end Least
end Go.Proofs.YtmbppgjhdcmckaaGreatDoor
