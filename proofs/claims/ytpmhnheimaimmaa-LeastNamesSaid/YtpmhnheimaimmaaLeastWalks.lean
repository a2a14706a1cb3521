/- What the functions of package least, and of its references, do: each by a walk. -/
import Derived.Test.YtpmhnheimaimmaaBase
import Derived.Test.YtpmhnheimaimmaaLeastPure
import Derived.Test.YtpmhnheimaimmaaProg
namespace Go.Proofs.Ytpmhnheimaimmaa
open Go.RowKit
namespace Least

theorem ret_int {k : IntKind} {a b : Int} (h : a = b) : Ending.returned (.int k a) = .returned (.int k b) := by rw [h]
theorem ret_bool {a b : Bool} (h : a = b) : Ending.returned (.bool a) = .returned (.bool b) := by rw [h]

theorem below_get {xs : List Int} {A : Option Addr} {n : Nat} {w : World} {lo hi : Nat} (h : Ints w lo hi .u32 A n xs) (hn : 0 < n) :
    ∃ b off, A = some ⟨b, off, none⟩ ∧ ∀ j, j < n → w.cell? ⟨b, off + j, none⟩ = some (.int .u32 (xs[j]?.getD 0)) := by
  obtain ⟨b, off, e, _, _, hc⟩ := h.row hn
  exact ⟨b, off, e, fun j hj => (hc j hj).1⟩

set_option maxHeartbeats 400000 in
/-- least.Check. -/
theorem Check_any (w : World) (lo hi : Nat) (A : Option Addr) (n c : Nat) (xs : List Int) (h : Ints w lo hi .u32 A n xs) (code : Int) (hcode : checkCode xs = code) :
    Calls Try.prog 14 #[.slice A n c] w fun e w' => e = .returned (.int .i64 code) ∧ ∃ m, w' = w.drewN m := by
  have hlen := h.len
  have Hl := Lib.hid h.len
  have hbig := h.big
  have Hc := Lib.hid hcode
  clear hcode
  by_cases h8 : 8 < n
  · have hf : code = 4 := by rw [← Hc.out]; unfold checkCode; rw [if_pos (by omega)]
    have Hf := Lib.hid hf
    clear hf hlen
    go_enter Try.func14, Try.ntmps14
    go_wp2
    go_ret
    exact ⟨ret_int (by rw [Hf.out]), 0, rfl⟩
  · clear hlen
    go_enter Try.func14, Try.ntmps14
    go_wp2
    go_loopw [3] (fun i wr => ∃ k : Nat, 1 ≤ k ∧ i = .int .i64 k ∧ (k ≤ n ∨ k = 1) ∧ Hid (risesTo xs k = true) ∧ ∃ m, wr = w.drewN m) (fun i _ => n - (intOf i).toNat)
    case atStart => exact ⟨1, by omega, rfl, by omega, (by simp [Hid, risesTo]), 0, rfl⟩
    case round =>
      obtain ⟨k, hk, rfl, hk1, hr, m, rfl⟩ := hrel
      by_cases hlt : k < n
      · obtain ⟨b, off, rfl, hcell⟩ := below_get h (by omega)
        have g1 : w.cell? ⟨b, off + k, none⟩ = some (.int .u32 (xs[k]?.getD 0)) := hcell _ (by omega)
        have g2 : w.cell? ⟨b, off + (k - 1), none⟩ = some (.int .u32 (xs[k-1]?.getD 0)) := hcell _ (by omega)
        clear hcell
        go_wp2
        go_quiet (fail)
        go_wp2
        · have hle : xs[k]?.getD 0 ≤ xs[k - 1]?.getD 0 := by assumption
          have hf : code = 8 := by
            have hl := Hl.out
            rw [← Hc.out]; unfold checkCode rises
            rw [if_neg (by omega), risesTo_false (k := k + 1) (by simp [risesTo]; omega) (by omega)]
            rfl
          go_ret
          exact ⟨ret_int (by rw [hf]), m + nq, by simp⟩
        · have hgt : xs[k - 1]?.getD 0 < xs[k]?.getD 0 := by assumption
          go_roundw
          case rel => exact ⟨k + 1, by omega, by go_num, by omega, (by have := hr.out; simp [Hid, risesTo, this, hgt]), m + nq, by simp⟩
          case measure => simp [intOf]; omega
      · have hf : code = 0 := by
          have hl := Hl.out
          have hr := hr.out
          rw [← Hc.out]; unfold checkCode rises
          rw [if_neg (by omega)]
          rcases hk1 with hk1 | hk1
          · rw [show xs.length = k by omega, hr]; rfl
          · subst hk1
            have : xs.length = 0 ∨ xs.length = 1 := by omega
            rcases this with e | e <;> simp [e, risesTo]
        have Hf := Lib.hid hf
        clear hf
        go_wp2
        go_ret
        exact ⟨ret_int (by rw [Hf.out]), m, rfl⟩

set_option maxHeartbeats 400000 in
/-- headcountref10.MayLeast. -/
theorem MayLeast_any (w : World) (lo hi : Nat) (A : Option Addr) (n c : Nat) (xs : List Int) (h : Ints w lo hi .u32 A n xs) (r : Bool) (hcode : decide (checkCode xs = 0) = r) :
    Calls Try.prog 30 #[.slice A n c] w fun e w' => e = .returned (.bool r) ∧ ∃ m, w' = w.drewN m := by
  have Hl := Lib.hid h.len
  have hbig := h.big
  have Hc := Lib.hid hcode
  clear hcode
  go_enter Try.func30, Try.ntmps30
  go_wp2
  go_loopw [3] (fun i wr => ∃ k : Nat, 1 ≤ k ∧ i = .int .i64 k ∧ (k ≤ n ∨ k = 1) ∧ Hid (risesTo xs k = true) ∧ ∃ m, wr = w.drewN m) (fun i _ => n - (intOf i).toNat)
  case atStart => exact ⟨1, by omega, rfl, by omega, (by simp [Hid, risesTo]), 0, rfl⟩
  case round =>
    obtain ⟨k, hk, rfl, hk1, hr, m, rfl⟩ := hrel
    by_cases hlt : k < n
    · obtain ⟨b, off, rfl, hcell⟩ := below_get h (by omega)
      have g1 : w.cell? ⟨b, off + k, none⟩ = some (.int .u32 (xs[k]?.getD 0)) := hcell _ (by omega)
      have g2 : w.cell? ⟨b, off + (k - 1), none⟩ = some (.int .u32 (xs[k-1]?.getD 0)) := hcell _ (by omega)
      clear hcell
      go_wp2
      go_quiet (fail)
      go_wp2
      · have hle : xs[k]?.getD 0 ≤ xs[k - 1]?.getD 0 := by assumption
        have hf : r = false := by
          have hl := Hl.out
          rw [← Hc.out]; unfold checkCode rises
          rw [risesTo_false (k := k + 1) (n := xs.length) (by simp [risesTo]; omega) (by omega)]
          split <;> simp
        go_ret
        exact ⟨ret_bool (by rw [hf]), m + nq, by simp⟩
      · have hgt : xs[k - 1]?.getD 0 < xs[k]?.getD 0 := by assumption
        go_roundw
        case rel => exact ⟨k + 1, by omega, by go_num, by omega, (by have := hr.out; simp [Hid, risesTo, this, hgt]), m + nq, by simp⟩
        case measure => simp [intOf]; omega
    · have hf : r = decide (n ≤ 8) := by
        have hl := Hl.out
        have hr := hr.out
        have h2 : rises xs = true := by
          unfold rises
          rcases hk1 with hk1 | hk1
          · rw [show xs.length = k by omega, hr]
          · subst hk1
            have : xs.length = 0 ∨ xs.length = 1 := by omega
            rcases this with e | e <;> simp [e, risesTo]
        rw [← Hc.out]; unfold checkCode
        rw [h2, hl]
        by_cases h9 : 8 < n
        · simp [h9]
        · simp [h9]; omega
      have Hf := Lib.hid hf
      clear hf
      go_wp2
      go_ret
      refine ⟨ret_bool ?_, m, rfl⟩
      rw [Hf.out]
      simp; omega

/-- headcountref18.Check. -/
theorem RCheck_any (w : World) (lo hi : Nat) (A : Option Addr) (n c : Nat) (xs : List Int) (h : Ints w lo hi .u32 A n xs) (code : Int) (hcode : checkCode xs = code) :
    Calls Try.prog 15 #[.slice A n c] w fun e w' => e = .returned (.int .i64 code) ∧ ∃ m, w' = w.drewN m := by
  have hlen := h.len
  have hbig := h.big
  by_cases h8 : 8 < n
  · have Hf : Hid (code = 4) := by rw [Hid, ← hcode]; unfold checkCode; rw [if_pos (by omega)]
    clear hlen hcode
    go_enter Try.func15, Try.ntmps15
    go_wp2_with fail
    go_ret
    exact ⟨ret_int (by rw [Hf.out]), 0, rfl⟩
  · by_cases h0 : checkCode xs = 0
    · have Hf : Hid (code = 0) := by rw [Hid, ← hcode]; exact h0
      have H1 : Hid (decide (checkCode xs = 0) = true) := by simp [Hid, h0]
      clear hlen hcode h0
      go_enter Try.func15, Try.ntmps15
      go_wp2_with (go_at_call 30; refine (MayLeast_any _ lo hi _ _ _ xs h true H1.out).mono ?_; rintro e w' ⟨rfl, m, rfl⟩)
      go_ret
      exact ⟨ret_int (by rw [Hf.out]), _, rfl⟩
    · have Hf : Hid (code = 8) := by
        rw [Hid, ← hcode]; unfold checkCode at h0 ⊢
        rw [if_neg (by omega)] at h0 ⊢
        split <;> simp_all
      have H1 : Hid (decide (checkCode xs = 0) = false) := by simp [Hid, h0]
      clear hlen hcode h0
      go_enter Try.func15, Try.ntmps15
      go_wp2_with (go_at_call 30; refine (MayLeast_any _ lo hi _ _ _ xs h false H1.out).mono ?_; rintro e w' ⟨rfl, m, rfl⟩)
      go_ret
      exact ⟨ret_int (by rw [Hf.out]), _, rfl⟩
end Least
end Go.Proofs.Ytpmhnheimaimmaa
