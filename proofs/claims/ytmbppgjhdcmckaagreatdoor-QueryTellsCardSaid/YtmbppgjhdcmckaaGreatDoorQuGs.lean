/- What is guessed: least.Guess and headcountref18.Guessed, each by a walk. -/
import Derived.Test.YtmbppgjhdcmckaaGreatDoorPsLe
namespace Go.Proofs.YtmbppgjhdcmckaaGreatDoor
open Go.RowKit
namespace Least
theorem ret_int2 {a b : Int} {c : Value} (h : a = b) : Ending.returned (.tuple #[.int .i64 a, c]) = .returned (.tuple #[.int .i64 b, c]) := by rw [h]
/-- What is guessed, and the error. -/
def guessR (xs : List Int) : Int := if checkCode xs = 0 then guessS xs else 0
set_option maxHeartbeats 400000 in
/-- least.Guess. -/
theorem Guess_any (w : World) (lo hi : Nat) (A : Option Addr) (n c : Nat) (xs : List Int) (h : Ints w lo hi .u32 A n xs) (code g : Int) (hcode : checkCode xs = code) (hg : guessR xs = g) :
    Calls Tryz.prog 80 #[.slice A n c] w fun e w' => e = .returned (.tuple #[.int .i64 g, .int .i64 code]) ∧ ∃ m, w' = w.drewN m := by
  have hlen := h.len
  have hbig := h.big
  by_cases h0 : checkCode xs = 0
  · obtain rfl : code = 0 := by omega
    have HC := Lib.hid hcode
    by_cases h8 : n < 8
    · have Hf : Hid (g = n) := by rw [Hid, ← hg]; unfold guessR guessS; rw [if_pos h0, if_pos (by omega), hlen]
      clear hlen hcode hg h0
      go_enter Tryz.func80, Tryz.ntmps80
      go_wp2_with fail
      refine (Check_any _ lo hi _ _ _ xs h 0 HC.out).mono ?_; rintro e w' ⟨rfl, m1, rfl⟩
      go_wp2_with fail
      go_ret2
      exact ⟨ret_int2 (by rw [Hf.out]), _, rfl⟩
    · have h7 := seventh h0 (by omega) (fun x hx => by have := (h.wf x hx).1; simpa [IntKind.min, IntKind.signed] using this)
      have hu := h.u32 7
      have Hf : Hid (g = 30064771072 / (xs[(7 : Nat)]?.getD 0)) := by rw [Hid, ← hg]; unfold guessR guessS; rw [if_pos h0, if_neg (by omega)]
      have h9 : n = 8 := by have := (checkCode_ok h0).1; omega
      obtain ⟨b, off, rfl, hcell⟩ := below_get h (by omega)
      have g1 : w.cell? ⟨b, off + 7, none⟩ = some (.int .u32 (xs[(7 : Nat)]?.getD 0)) := hcell 7 (by omega)
      clear hlen hcode hg h0 hcell h8
      subst h9
      obtain ⟨y, hy⟩ : ∃ y, xs[(7 : Nat)]?.getD 0 = y := ⟨_, rfl⟩
      rw [hy] at g1 h7 hu
      have HY := Lib.hid hy
      clear hy
      go_enter Tryz.func80, Tryz.ntmps80
      go_wp2_with fail
      refine (Check_any _ lo hi _ _ _ xs h 0 HC.out).mono ?_; rintro e w' ⟨rfl, m1, rfl⟩
      go_wp2_with fail
      go_ret2
      exact ⟨ret_int2 (by rw [Hf.out, HY.out]), _, rfl⟩
  · have Hf : Hid (g = 0) := by rw [Hid, ← hg]; unfold guessR; rw [if_neg h0]
    have HC := Lib.hid hcode
    have h1 : (code != 0) = true := by simp; omega
    clear hlen hcode hg h0
    go_enter Tryz.func80, Tryz.ntmps80
    go_wp2_with fail
    refine (Check_any _ lo hi _ _ _ xs h code HC.out).mono ?_; rintro e w' ⟨rfl, m1, rfl⟩
    go_wp2_with fail
    go_ret2
    exact ⟨ret_int2 (by rw [Hf.out]), _, rfl⟩
set_option maxHeartbeats 400000 in
/-- headcountref18.Guessed. -/
theorem Guessed_any (w : World) (lo hi : Nat) (A : Option Addr) (n c : Nat) (xs : List Int) (h : Ints w lo hi .u32 A n xs) (h0 : checkCode xs = 0) :
    Calls Tryz.prog 92 #[.slice A n c] w fun e w' => e = .returned (.int .i64 (guessS xs)) ∧ w = w' := by
  have hlen := h.len
  have hbig := h.big
  by_cases h8 : n < 8
  · have Hf : Hid (guessS xs = n) := by rw [Hid]; unfold guessS; rw [if_pos (by omega), hlen]
    clear hlen h0
    go_enter Tryz.func92, Tryz.ntmps92
    go_wp2_with fail
    go_ret
    exact ⟨ret_int (by rw [Hf.out]), rfl⟩
  · have h7 := seventh h0 (by omega) (fun x hx => by have := (h.wf x hx).1; simpa [IntKind.min, IntKind.signed] using this)
    have hu := h.u32 7
    have Hf : Hid (guessS xs = 30064771072 / (xs[(7 : Nat)]?.getD 0)) := by rw [Hid]; unfold guessS; rw [if_neg (by omega)]
    have h9 : n = 8 := by have := (checkCode_ok h0).1; omega
    obtain ⟨b, off, rfl, hcell⟩ := below_get h (by omega)
    have g1 : w.cell? ⟨b, off + 7, none⟩ = some (.int .u32 (xs[(7 : Nat)]?.getD 0)) := hcell 7 (by omega)
    clear hlen h0 hcell h8
    subst h9
    obtain ⟨y, hy⟩ : ∃ y, xs[(7 : Nat)]?.getD 0 = y := ⟨_, rfl⟩
    rw [hy] at g1 h7 hu
    have HY := Lib.hid hy
    clear hy
    go_enter Tryz.func92, Tryz.ntmps92
    go_wp2_with fail
    go_ret
    exact ⟨ret_int (by rw [Hf.out, HY.out]), rfl⟩
end Least
end Go.Proofs.YtmbppgjhdcmckaaGreatDoor
