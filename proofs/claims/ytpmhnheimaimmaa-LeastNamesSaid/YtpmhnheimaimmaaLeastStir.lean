/- How numbers are stirred and stilled, each by a walk. -/
import Derived.Test.YtpmhnheimaimmaaLeastWalks
import Derived.Test.YtpmhnheimaimmaaLeastStirPure
namespace Go.Proofs.Ytpmhnheimaimmaa
open Go.RowKit
namespace Least

theorem counterpart_any (w : World) : Calls Try.prog 35 #[] w fun e w' => e = .returned (.int .u32 340573321) ∧ w = w' := by
  go_enter Try.func35, Try.ntmps35
  go_wp2
  refine wp_loop_rounds 6 ?_
  iterate 6 (rw [rounds_succ]; go_wp2)
  go_ret
  exact ⟨rfl, rfl⟩

theorem shifts_any (w : World) : Calls Try.prog 33 #[] w fun e w' => e = .returned (.slice (some ⟨w.heap.size, 0, none⟩) 3 3) ∧ w' = w.alloc (.cells #[.int .i64 15, .int .i64 13, .int .i64 16] 3) := by
  go_enter Try.func33, Try.ntmps33
  go_wp2
  go_ret
  exact ⟨rfl, rfl⟩

set_option maxHeartbeats 400000 in
/-- least.folded of one shift. -/
theorem folded_one (w : World) (x : BitVec 32) (k : Nat) (b off c : Nat) (hc : w.cell? ⟨b, off, none⟩ = some (.int .i64 k)) (hk : k ≤ 31) :
    Calls Try.prog 34 #[.int .u32 (U x), .slice (some ⟨b, off, none⟩) 1 c] w fun e w' => e = .returned (.int .u32 (U (xsh x k))) ∧ w = w' := by
  have h0 := U_lo x
  have h1 := U_hi x
  have HF : Hid (bits BinOp.xor IntKind.u32 (U x) (U x / 2 ^ k) = U (xsh x k)) := by rw [Hid, U_shr, U_xor]; rfl
  go_enter Try.func34, Try.ntmps34
  go_wp2
  refine wp_loop_rounds 2 ?_
  rw [rounds_succ]
  go_wp2
  rw [rounds_succ]
  go_wp2
  go_ret
  rw [← HF.out]
  exact ⟨rfl, rfl⟩

set_option maxHeartbeats 400000 in
/-- least.folded of two shifts. -/
theorem folded_two (w : World) (x : BitVec 32) (k k2 : Nat) (b off c : Nat) (hc : w.cell? ⟨b, off, none⟩ = some (.int .i64 k)) (hc2 : w.cell? ⟨b, off + 1, none⟩ = some (.int .i64 k2)) (hk : k ≤ 16) (hk2 : k2 = 2 * k) :
    Calls Try.prog 34 #[.int .u32 (U x), .slice (some ⟨b, off, none⟩) 2 c] w fun e w' => e = .returned (.int .u32 (U (xsh2 x k))) ∧ w = w' := by
  have h0 := U_lo x
  have h1 := U_hi x
  have HF : Hid (bits BinOp.xor IntKind.u32 (bits BinOp.xor IntKind.u32 (U x) (U x / 2 ^ k)) (U x / 2 ^ k2) = U (xsh2 x k)) := by rw [Hid, hk2, U_shr, U_xor, U_shr, U_xor]; rfl
  have hk3 : k2 ≤ 32 := by omega
  clear hk2
  go_enter Try.func34, Try.ntmps34
  go_wp2
  refine wp_loop_rounds 3 ?_
  rw [rounds_succ]
  go_wp2
  rw [rounds_succ]
  go_wp2
  rw [rounds_succ]
  go_wp2
  go_ret
  rw [← HF.out]
  exact ⟨rfl, rfl⟩

set_option maxHeartbeats 400000 in
/-- least.Stir. -/
theorem Stir_any (w : World) (x : BitVec 32) : Calls Try.prog 20 #[.int .u32 (U x)] w fun e w' => e = .returned (.int .u32 (U (stirS x))) ∧ Below w.heap.size w w' := by
  have h0 := U_lo x
  have h1 := U_hi x
  have e1 : ∀ y : BitVec 32, (U y * 2654435769) % 4294967296 = U (y * factor) := fun y => by rw [← U_factor, U_mul]
  have g1 := U_lo (stir1 x 15)
  have g2 := U_hi (stir1 x 15)
  have f1 := U_lo (stir1 (stir1 x 15) 13)
  have f2 := U_hi (stir1 (stir1 x 15) 13)
  go_enter Try.func20, Try.ntmps20
  go_wp2_with fail
  refine (shifts_any _).mono ?_; rintro e w1 ⟨rfl, rfl⟩
  go_wp2_with fail
  refine wp_loop_rounds 4 ?_
  rw [rounds_succ]
  go_wp2_with fail
  refine (folded_one _ (x * factor) 15 _ _ _ (by simp [go_sem]) (by decide)).mono ?_; rintro e w1 ⟨rfl, rfl⟩
  rw [show xsh (x * factor) 15 = stir1 x 15 from rfl]
  go_wp2_with fail
  rw [rounds_succ]
  go_wp2_with fail
  refine (folded_one _ (stir1 x 15 * factor) 13 _ _ _ (by simp [go_sem]) (by decide)).mono ?_; rintro e w1 ⟨rfl, rfl⟩
  rw [show xsh (stir1 x 15 * factor) 13 = stir1 (stir1 x 15) 13 from rfl]
  go_wp2_with fail
  rw [rounds_succ]
  go_wp2_with fail
  refine (folded_one _ (stir1 (stir1 x 15) 13 * factor) 16 _ _ _ (by simp [go_sem]) (by decide)).mono ?_; rintro e w1 ⟨rfl, rfl⟩
  go_wp2_with fail
  rw [rounds_succ]
  go_wp2_with fail
  go_ret
  exact ⟨rfl, ((((Below.refl _ w).alloc (Nat.le_refl _) _).alloc (by simp) _).alloc (by simp; omega) _).alloc (by simp; omega) _⟩
end Least
end Go.Proofs.Ytpmhnheimaimmaa
