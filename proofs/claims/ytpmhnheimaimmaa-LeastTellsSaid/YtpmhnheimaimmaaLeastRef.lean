/- What the reference's functions of numbers do, by walks. -/
import Derived.Test.YtpmhnheimaimmaaLeastRefPure
import Derived.Test.YtpmhnheimaimmaaLeastTags
namespace Go.Proofs.Ytpmhnheimaimmaa
open Go.RowKit
namespace Least

theorem U_tmod2 (z : BitVec 32) : (U z).tmod 2 = U (z &&& 1#32) := by rw [Int.tmod_eq_emod_of_nonneg (U_lo z), U_mod2]
theorem U_shl (z : BitVec 32) (i : Nat) : U z * 2 ^ i % 4294967296 = U (z <<< i) := by
  unfold U
  rw [BitVec.toNat_shiftLeft, Nat.shiftLeft_eq, Int.natCast_emod, Int.natCast_mul, Int.natCast_pow]
  rfl

set_option maxHeartbeats 800000 in
theorem RStir_any (w : World) (x : BitVec 32) : Calls Try.prog 21 #[.int .u32 (U x)] w fun e w' => e = .returned (.int .u32 (U (stirS x))) ∧ w' = w := by
  have h0 := U_lo x
  have h1 := U_hi x
  have e1 : ∀ y : BitVec 32, (U y * 2654435769) % 4294967296 = U (y * factor) := fun y => by rw [← U_factor, U_mul]
  have e2 : ∀ y : BitVec 32, bits BinOp.xor IntKind.u32 (U y) (U y / 32768) = U (xsh y 15) := fun y => by
    have := U_shr y 15
    rw [show (2 : Int) ^ 15 = 32768 by decide] at this
    rw [this, U_xor]
    rfl
  have e3 : ∀ y : BitVec 32, bits BinOp.xor IntKind.u32 (U y) (U y / 8192) = U (xsh y 13) := fun y => by
    have := U_shr y 13
    rw [show (2 : Int) ^ 13 = 8192 by decide] at this
    rw [this, U_xor]
    rfl
  have e4 : ∀ y : BitVec 32, bits BinOp.xor IntKind.u32 (U y) (U y / 65536) = U (xsh y 16) := fun y => by
    have := U_shr y 16
    rw [show (2 : Int) ^ 16 = 65536 by decide] at this
    rw [this, U_xor]
    rfl
  have k1 := fun y => U_lo y
  have k2 := fun y => U_hi y
  go_enter Try.func21, Try.ntmps21
  go_wp2
  go_ret
  exact ⟨rfl, rfl⟩

set_option maxHeartbeats 800000 in
theorem back_any' (w : World) (y : BitVec 32) (k : Nat) (hk0 : 0 < k) (hk : k ≤ 16) : Calls Try.prog 38 #[.int .u32 (U (xsh y k)), .int .i64 k] w fun e w' => e = .returned (.int .u32 (U y)) ∧ w' = w := by
  have h0 := U_lo (xsh y k)
  have h1 := U_hi (xsh y k)
  go_enter Try.func38, Try.ntmps38
  go_wp2
  go_loopw [5, 6] (fun o i wr => ∃ j : Nat, j ≤ 32 ∧ i = .int .i64 ((j : Int) - 1) ∧ o = .int .u32 (U (hiP y j)) ∧ wr = w) (fun _ i _ => (intOf i + 1).toNat)
  case atStart => exact ⟨32, by omega, rfl, by rw [hiP_top]; rfl, rfl⟩
  case round =>
    obtain ⟨j, hj, rfl, rfl, rfl⟩ := hrel
    rcases j with _ | i
    · go_wp2
      go_ret
      rw [hiP_all]
      exact ⟨rfl, rfl⟩
    · have ei : ((i + 1 : Nat) : Int) - 1 = (i : Int) := by omega
      rw [ei]
      have g0 := U_lo (hiP y (i + 1))
      have g1 := U_hi (hiP y (i + 1))
      by_cases hlt : i + k < 32
      · have HS := Lib.hid (hi_step y k i (by omega) hlt hk0)
        go_wp2
        refine ⟨⟨i, by omega, rfl, ?_, trivial⟩, by simp [intOf]⟩
        rw [U_shr, U_shr, U_tmod2, U_tmod2, U_xor, U_shl, U_or, HS.out]
      · have HS := Lib.hid (hi_step' y k i (by omega) hlt)
        go_wp2
        refine ⟨⟨i, by omega, rfl, ?_, trivial⟩, by simp [intOf]⟩
        rw [U_shr, U_tmod2, U_shl, U_or, HS.out]

theorem back_any (w : World) (x : BitVec 32) (k : Nat) (hk0 : 32 ≤ 3 * k) (hk : k ≤ 16) (kk : Int) (hkk : kk = k) : Calls Try.prog 38 #[.int .u32 (U x), .int .i64 kk] w fun e w' => e = .returned (.int .u32 (U (xsh2 x k))) ∧ w' = w := by
  have := back_any' w (xsh2 x k) k (by omega) hk
  rw [xsh_xsh2 x k hk0] at this
  rw [hkk]
  exact this

theorem cast_ne {A B : Int} {P Q : Nat} (e2 : A = P) (e3 : B = Q) (h : P ≠ Q) : (A != B) = true := by
  rw [bne_iff_ne]
  omega
theorem cast_eq' {A B : Int} {P Q : Nat} (e2 : A = P) (e3 : B = Q) (h : P = Q) : (A != B) = false := by
  rw [bne_eq_false_iff_eq]
  omega
theorem shr_nat (z : BitVec 32) (i : Nat) : (U z / 2 ^ i).tmod 2 = ((z.toNat / 2 ^ i % 2 : Nat) : Int) := by
  rw [Int.tmod_eq_emod_of_nonneg (by have := U_lo z; exact Int.ediv_nonneg this (Int.pow_nonneg (by decide)))]
  unfold U
  rw [Int.natCast_emod, Int.natCast_ediv, Int.natCast_pow]
  rfl

set_option maxHeartbeats 400000 in
theorem part_gen (w : World) (z : BitVec 32) (B : Int) (hB : U (z * factor) = B) : Calls Try.prog 37 #[.int .u32 B] w fun e w' => e = .returned (.int .u32 (U z)) ∧ w' = w := by
  have h0 : 0 ≤ B := by rw [← hB]; exact U_lo _
  have h1 : B ≤ 4294967295 := by rw [← hB]; exact U_hi _
  have HB0 := Lib.hid hB
  clear hB
  go_enter Try.func37, Try.ntmps37
  go_wp2
  go_loopw [3, 4] (fun o i wr => ∃ j : Nat, j ≤ 32 ∧ i = .int .i64 j ∧ o = .int .u32 (U (loP z j)) ∧ wr = w) (fun _ i _ => 32 - (intOf i).toNat)
  case atStart => exact ⟨0, by omega, rfl, by rw [loP_zero]; rfl, rfl⟩
  case round =>
    obtain ⟨j, hj, rfl, rfl, rfl⟩ := hrel
    obtain ⟨o, ho⟩ : ∃ o, loP z j = o := ⟨_, rfl⟩
    rw [ho]
    have HO := Lib.hid ho
    clear ho
    have g0 := U_lo o
    have g1 := U_hi o
    by_cases hlt : j < 32
    · obtain ⟨A, hA⟩ : ∃ A, U (o * factor) = A := ⟨_, rfl⟩
      have q0 : 0 ≤ A := by rw [← hA]; exact U_lo _
      have q1 : A ≤ 4294967295 := by rw [← hA]; exact U_hi _
      have e1 : (U o * 2654435769) % 4294967296 = A := by rw [← hA, ← U_factor, U_mul]
      have HB := part_bit z.toNat factor.toNat j (by decide) hlt
      have e2 : (A / 2 ^ j).tmod 2 = ((z.toNat % 2 ^ j * factor.toNat % 2 ^ 32 / 2 ^ j % 2 : Nat) : Int) := by rw [← hA, ← HO.out, shr_nat, BitVec.toNat_mul, loP_nat]
      have e3 : (B / 2 ^ j).tmod 2 = ((z.toNat * factor.toNat % 2 ^ 32 / 2 ^ j % 2 : Nat) : Int) := by rw [← HB0.out, shr_nat, BitVec.toNat_mul]
      by_cases hz : z.toNat / 2 ^ j % 2 = 1
      · have hd : ((A / 2 ^ j).tmod 2 != (B / 2 ^ j).tmod 2) = true := cast_ne e2 e3 (HB.2 hz)
        have HZ := Lib.hid hz
        clear e2 e3 hz HB hA
        go_wp2
        refine ⟨⟨j + 1, by omega, by go_num, ?_, trivial⟩, by simp [intOf]; omega⟩
        have h2 := U_shl 1#32 j
        rw [show U 1#32 = 1 from rfl, Int.one_mul] at h2
        rw [lo_step z j hlt, if_pos HZ.out, HO.out, h2, U_or]
      · have hd : ((A / 2 ^ j).tmod 2 != (B / 2 ^ j).tmod 2) = false := cast_eq' e2 e3 (Classical.byContradiction fun e => hz (HB.1 e))
        have HZ := Lib.hid hz
        clear e2 e3 hz HB hA
        go_wp2
        refine ⟨⟨j + 1, by omega, by go_num, ?_, trivial⟩, by simp [intOf]; omega⟩
        rw [lo_step z j hlt, if_neg HZ.out, HO.out]
    · obtain rfl : j = 32 := by omega
      have := HO.out
      rw [loP_all] at this
      subst this
      go_wp2
      go_ret
      exact ⟨rfl, rfl⟩

theorem part_any (w : World) (x : BitVec 32) : Calls Try.prog 37 #[.int .u32 (U x)] w fun e w' => e = .returned (.int .u32 (U (x * counter))) ∧ w' = w :=
  part_gen w (x * counter) (U x) (by rw [BitVec.mul_assoc, counter_factor, BitVec.mul_one])

theorem RStill_any (w : World) (x : BitVec 32) : Calls Try.prog 23 #[.int .u32 (U x)] w fun e w' => e = .returned (.int .u32 (U (stillS x))) ∧ w' = w := by
  obtain ⟨a, ha⟩ : ∃ a, xsh2 x 16 = a := ⟨_, rfl⟩
  obtain ⟨b, hb⟩ : ∃ b, a * counter = b := ⟨_, rfl⟩
  obtain ⟨c, hc⟩ : ∃ c, xsh2 b 13 = c := ⟨_, rfl⟩
  obtain ⟨d, hd⟩ : ∃ d, c * counter = d := ⟨_, rfl⟩
  obtain ⟨f, hf⟩ : ∃ f, xsh2 d 15 = f := ⟨_, rfl⟩
  obtain ⟨r, hr⟩ : ∃ r, f * counter = r := ⟨_, rfl⟩
  have HR : Hid (stillS x = r) := by rw [Hid, ← hr, ← hf, ← hd, ← hc, ← hb, ← ha]; rfl
  have HA := Lib.hid ha
  have HB := Lib.hid hb
  have HC := Lib.hid hc
  have HD := Lib.hid hd
  have HF := Lib.hid hf
  have HR2 := Lib.hid hr
  clear ha hb hc hd hf hr
  go_enter Try.func23, Try.ntmps23
  go_wp2_with fail
  refine (back_any _ x 16 (by decide) (by decide) _ rfl).mono ?_
  rintro e w1 ⟨rfl, rfl⟩
  rw [HA.out]
  go_wp2_with fail
  refine (part_any _ a).mono ?_
  rintro e w2 ⟨rfl, rfl⟩
  rw [HB.out]
  go_wp2_with fail
  refine (back_any _ b 13 (by decide) (by decide) _ rfl).mono ?_
  rintro e w3 ⟨rfl, rfl⟩
  rw [HC.out]
  go_wp2_with fail
  refine (part_any _ c).mono ?_
  rintro e w4 ⟨rfl, rfl⟩
  rw [HD.out]
  go_wp2_with fail
  refine (back_any _ d 15 (by decide) (by decide) _ rfl).mono ?_
  rintro e w5 ⟨rfl, rfl⟩
  rw [HF.out]
  go_wp2_with fail
  refine (part_any _ f).mono ?_
  rintro e w6 ⟨rfl, rfl⟩
  rw [HR2.out]
  go_wp2_with fail
  go_ret
  rw [HR.out]
  exact ⟨rfl, rfl⟩

theorem RWhose_in (w : World) (x : BitVec 32) (v : Int) (hv : U (stillS x) = v) (h : v / 4 / 8 ≤ 65535) :
    Calls Try.prog 25 #[.int .u32 (U x)] w fun r w' => r = .returned (.tuple #[.int .i64 (v / 4 / 8), .int .i64 (v / 4 % 8), .int .i64 (v % 4), .int .i64 0]) ∧ w' = w := by
  have hu := int_u32 (stillS x)
  have h0 := U_lo (stillS x)
  have h1 := U_hi (stillS x)
  rw [hv] at hu h0 h1
  have d1 : v / 32 ≤ 65535 := by omega
  have d2 : v / 4 / 8 = v / 32 := by omega
  have d3 : v / 4 % 8 = v % 32 / 4 := by omega
  rw [d2, d3]
  have HV := Lib.hid hv
  clear hv d2 d3 h
  go_enter Try.func25, Try.ntmps25
  go_wp2_with fail
  refine (RStill_any _ x).mono ?_
  rintro r w1 ⟨rfl, rfl⟩
  rw [HV.out]
  go_wp2_with fail
  refine bodyPost_ret (results_tmp4 rfl _ _ _) rfl ?_
  exact ⟨rfl, rfl⟩
theorem RWhose_out (w : World) (x : BitVec 32) (v : Int) (hv : U (stillS x) = v) (h : 65535 < v / 4 / 8) :
    Calls Try.prog 25 #[.int .u32 (U x)] w fun r w' => r = .returned (.tuple #[.int .i64 0, .int .i64 0, .int .i64 0, .int .i64 6]) ∧ w' = w := by
  have hu := int_u32 (stillS x)
  have h0 := U_lo (stillS x)
  have h1 := U_hi (stillS x)
  rw [hv] at hu h0 h1
  have d1 : 65535 < v / 32 := by omega
  have HV := Lib.hid hv
  clear hv h
  go_enter Try.func25, Try.ntmps25
  go_wp2_with fail
  refine (RStill_any _ x).mono ?_
  rintro r w1 ⟨rfl, rfl⟩
  rw [HV.out]
  go_wp2_with fail
  refine bodyPost_ret (results_tmp4 rfl _ _ _) rfl ?_
  exact ⟨rfl, rfl⟩
end Least
end Go.Proofs.Ytpmhnheimaimmaa
