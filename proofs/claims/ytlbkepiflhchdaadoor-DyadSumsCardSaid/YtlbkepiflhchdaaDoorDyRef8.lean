/- The limbs of bits: the walk. -/
import Derived.Test.YtlbkepiflhchdaaDoorDyRef7
namespace Go.Proofs.YtlbkepiflhchdaaDoor
open Go.RowKit
namespace Dy
theorem Tryd.info52 : (Tryd.prog.info? 52).map (fun i => (i.zero, i.size, i.bytes)) = some (some (.int .u32 0), 1, 4) := by kernel_rfl

set_option maxHeartbeats 3200000 in
set_option maxRecDepth 100000 in
/-- headcountref01.Limbs. -/
theorem Limbs_any (w : World) (lo hi : Nat) (A : Option Addr) (n c : Nat) (xs : List Int) (hX : Ints w lo hi .u8 A n xs) (hdx : Dig 2 xs) (hnc : n ≤ c) (hhi : hi ≤ w.heap.size) (hn : n ≤ 1000000) (v : Nat) (hv : num 2 xs = v) :
    Calls Tryd.prog 97 #[.slice A n c] w fun e w' => ∃ A' n' c', e = .returned (.slice A' n' c') ∧ n' ≤ c' ∧ Below w.heap.size w w' ∧ Ints w' w.heap.size w'.heap.size .u32 A' n' (canon 4294967296 v) := by
  obtain ⟨i0, hi0, hz0, hz1, hz2⟩ := info_parts Tryd.info52
  go_enter Tryd.func97, Tryd.ntmps97
  go_wp2_with fail
  refine (Cut_any _ _ _ _ _ _ _ hX hdx hnc).mono ?_
  rintro e w1 ⟨⟨m, rfl, hmn, hI⟩, rfl⟩
  rw [hv] at hI
  clear hv hdx hX
  obtain ⟨ys, hys⟩ : ∃ ys, canon 2 v = ys := ⟨_, rfl⟩
  have hspec := canon_spec 2 v (by decide)
  rw [hys] at hspec hI
  obtain ⟨hdy, hcy, hvy⟩ := hspec
  have HL := Lib.hid hI.len
  have HV := Lib.hid hvy
  clear hys hvy
  go_wp2
  go_loopw [3, 4] (fun o i wr => ∃ j : Nat, ∃ out : List Int, i = .int .i64 ((32 * j : Nat) : Int) ∧ 32 * j ≤ m + 31 ∧ wr.ownsRow w1.heap.size 52 1 o j (out.map (Value.int .u32)) ∧ Dig 4294967296 out ∧ Hid (num 4294967296 out = num 2 (ys.take (32 * j))) ∧ Below w1.heap.size w1 wr)
    (fun _ i _ => m + 32 - (intOf i).toNat)
  case atStart => exact ⟨0, [], rfl, by omega, ⟨rfl, .inl ⟨rfl, rfl⟩⟩, fun x hx => (by simp at hx), by simp [Hid, num], Below.refl _ _⟩
  case round =>
    obtain ⟨j, out, rfl, hj, hown, hdo, hnum, hnx⟩ := hrel
    obtain ⟨wo, rfl⟩ : ∃ wo : World, wo = wr := ⟨_, rfl⟩
    by_cases hlt : 32 * j < m
    · by_cases htp : m ≤ 32 * j + 32
      · have hI2 := hI.below hnx hhi
        obtain ⟨bb, off, rfl, hcell⟩ := get hI2 (by omega)
        clear hI2
        have htop : m ≤ ys.length := by rw [HL.out]; omega
        go_wp2
        go_loopw [5, 6] (fun nn kv wr' => ∃ k r : Nat, kv = .int .i64 ((k : Int) - 1) ∧ nn = .int .u32 r ∧ 32 * j ≤ k ∧ k ≤ m ∧ Hid (num 2 (part ys k (m)) = r) ∧ wr' = wo) (fun _ kv _ => (intOf kv + 1).toNat)
        case atStart => exact ⟨m, 0, by first | rfl | (congr 1; omega) | (congr 1; push_cast; omega), rfl, by omega, Nat.le_refl _, by rw [Hid, part_none]; rfl, rfl⟩
        case round =>
          obtain ⟨k, r, rfl, rfl, hk1, hk2, hr, rfl⟩ := hrel
          have hr1 := part_lt (B := 2) (by decide) hdy (i := k) (t := m) (k := 32) (by omega)
          rw [hr.out] at hr1
          have hr2 : r ≤ 4294967295 := by omega
          clear hr1
          by_cases hkl : 32 * j < k
          · obtain ⟨k, rfl⟩ : ∃ k', k = k' + 1 := ⟨k - 1, by omega⟩
            have ek : ((k + 1 : Nat) : Int) - 1 = (k : Int) := by omega
            rw [ek]
            obtain ⟨p, hp, hp1⟩ := bit_nat hdy k
            have g1 : wr.cell? ⟨bb, off + k, none⟩ = some (.int .u8 (ys[k]?.getD 0)) := hcell k (by omega)
            rw [hp] at g1
            have hst := part_step 2 ys (i := k) (t := m) (by omega) htop
            rw [hp, hr.out] at hst
            have hr3 := part_lt (B := 2) (by decide) hdy (i := k) (t := m) (k := 32) (by omega)
            rw [hst] at hr3
            have hr4 : 2 * (r : Int) + (p : Int) ≤ 4294967295 := by simp only [Int.toNat_natCast] at hr3; omega
            have HST := Lib.hid hst
            clear hst hr3 hp ek
            go_wp2
            go_roundw
            case rel => exact ⟨k, p + 2 * r, by first | rfl | (congr 1; omega), by congr 1; push_cast; omega, by omega, by omega, by have := HST.out; simpa [Hid] using this, by trivial⟩
            case measure => first | (simp [intOf]; done) | (simp [intOf]; omega)
          · obtain rfl : k = 32 * j := by omega
            have hol : out.length = j := by have := hown.1; simpa using this
            have hnum2 : Hid (num 4294967296 (out ++ [(r : Int)]) = num 2 (ys.take (32 * (j + 1)))) := by
              have e1 : ys.take (32 * (j + 1)) = ys.take (m) := by
                first
                  | rfl
                  | (congr 1; done)
                  | (rw [List.take_of_length_le (by rw [HL.out]; omega), List.take_of_length_le (by rw [HL.out]; omega)])
              rw [Hid, e1, part_split 2 ys (i := 32 * j) (t := m) (by omega) (by rw [HL.out]; omega), num_append, hol, hnum.out, hr.out, Nat.pow_mul]
              simp [num]
            have hdo2 : Dig 4294967296 (out ++ [(r : Int)]) := fun x hx => by
              rcases List.mem_append.1 hx with h' | h'
              · exact hdo x h'
              · rw [List.mem_singleton.1 h']
                omega
            clear hol hnum hr
            go_wp2_with (first
              | (at_builtin; refine wpList_append_raw _ rfl (.tmp 34) (.tmp 36) 22 rfl w1.heap.size 52 i0 (.int .u32 0) 1 4 Tryd.underlying22 hi0 hz0 hz1 hz2 rfl (by decide) _ _ _ rfl (hown.alloc _) _ _ _ 1 1 [.int .u32 r] rfl (raw_one _ _ _ _) ?d1 ?d2 ?d3 ?d4 ?_))
            case d1 => first | rfl | (intro u hu; simp at hu; subst hu; rfl)
            case d2 => unfold maxLen; omega
            case d3 => omega
            case d4 => have := hnx.size; simp; omega
            intro A2 c2 w3 hown2 hgrow2 _
            have hnx2 : Below w1.heap.size w1 w3 := (hnx.alloc hnx.size _).grown hgrow2 (by have := hnx.size; simp; omega) (fun q hq => (hown.lt q hq).1)
            have hown3 : w3.ownsRow w1.heap.size 52 1 (.slice A2 (j + 1) c2) (j + 1) ((out ++ [(r : Int)]).map (Value.int .u32)) := by simpa using hown2
            clear hown2 hgrow2 hown
            go_wp2
            go_roundw
            case rel => exact ⟨j + 1, _, by first | rfl | (congr 1; done) | (congr 1; push_cast; omega), by omega, hown3, hdo2, hnum2, hnx2⟩
            case measure => simp [intOf]; omega
      · have hI2 := hI.below hnx hhi
        obtain ⟨bb, off, rfl, hcell⟩ := get hI2 (by omega)
        clear hI2
        have htop : 32 * j + 32 ≤ ys.length := by rw [HL.out]; omega
        go_wp2
        go_loopw [5, 6] (fun nn kv wr' => ∃ k r : Nat, kv = .int .i64 ((k : Int) - 1) ∧ nn = .int .u32 r ∧ 32 * j ≤ k ∧ k ≤ 32 * j + 32 ∧ Hid (num 2 (part ys k (32 * j + 32)) = r) ∧ wr' = wo) (fun _ kv _ => (intOf kv + 1).toNat)
        case atStart => exact ⟨32 * j + 32, 0, by first | rfl | (congr 1; omega) | (congr 1; push_cast; omega), rfl, by omega, Nat.le_refl _, by rw [Hid, part_none]; rfl, rfl⟩
        case round =>
          obtain ⟨k, r, rfl, rfl, hk1, hk2, hr, rfl⟩ := hrel
          have hr1 := part_lt (B := 2) (by decide) hdy (i := k) (t := 32 * j + 32) (k := 32) (by omega)
          rw [hr.out] at hr1
          have hr2 : r ≤ 4294967295 := by omega
          clear hr1
          by_cases hkl : 32 * j < k
          · obtain ⟨k, rfl⟩ : ∃ k', k = k' + 1 := ⟨k - 1, by omega⟩
            have ek : ((k + 1 : Nat) : Int) - 1 = (k : Int) := by omega
            rw [ek]
            obtain ⟨p, hp, hp1⟩ := bit_nat hdy k
            have g1 : wr.cell? ⟨bb, off + k, none⟩ = some (.int .u8 (ys[k]?.getD 0)) := hcell k (by omega)
            rw [hp] at g1
            have hst := part_step 2 ys (i := k) (t := 32 * j + 32) (by omega) htop
            rw [hp, hr.out] at hst
            have hr3 := part_lt (B := 2) (by decide) hdy (i := k) (t := 32 * j + 32) (k := 32) (by omega)
            rw [hst] at hr3
            have hr4 : 2 * (r : Int) + (p : Int) ≤ 4294967295 := by simp only [Int.toNat_natCast] at hr3; omega
            have HST := Lib.hid hst
            clear hst hr3 hp ek
            go_wp2
            go_roundw
            case rel => exact ⟨k, p + 2 * r, by first | rfl | (congr 1; omega), by congr 1; push_cast; omega, by omega, by omega, by have := HST.out; simpa [Hid] using this, by trivial⟩
            case measure => first | (simp [intOf]; done) | (simp [intOf]; omega)
          · obtain rfl : k = 32 * j := by omega
            have hol : out.length = j := by have := hown.1; simpa using this
            have hnum2 : Hid (num 4294967296 (out ++ [(r : Int)]) = num 2 (ys.take (32 * (j + 1)))) := by
              have e1 : ys.take (32 * (j + 1)) = ys.take (32 * j + 32) := by
                first
                  | rfl
                  | (congr 1; done)
                  | (rw [List.take_of_length_le (by rw [HL.out]; omega), List.take_of_length_le (by rw [HL.out]; omega)])
              rw [Hid, e1, part_split 2 ys (i := 32 * j) (t := 32 * j + 32) (by omega) (by rw [HL.out]; omega), num_append, hol, hnum.out, hr.out, Nat.pow_mul]
              simp [num]
            have hdo2 : Dig 4294967296 (out ++ [(r : Int)]) := fun x hx => by
              rcases List.mem_append.1 hx with h' | h'
              · exact hdo x h'
              · rw [List.mem_singleton.1 h']
                omega
            clear hol hnum hr
            go_wp2_with (first
              | (at_builtin; refine wpList_append_raw _ rfl (.tmp 34) (.tmp 36) 22 rfl w1.heap.size 52 i0 (.int .u32 0) 1 4 Tryd.underlying22 hi0 hz0 hz1 hz2 rfl (by decide) _ _ _ rfl (hown.alloc _) _ _ _ 1 1 [.int .u32 r] rfl (raw_one _ _ _ _) ?f1 ?f2 ?f3 ?f4 ?_))
            case f1 => first | rfl | (intro u hu; simp at hu; subst hu; rfl)
            case f2 => unfold maxLen; omega
            case f3 => omega
            case f4 => have := hnx.size; simp; omega
            intro A2 c2 w3 hown2 hgrow2 _
            have hnx2 : Below w1.heap.size w1 w3 := (hnx.alloc hnx.size _).grown hgrow2 (by have := hnx.size; simp; omega) (fun q hq => (hown.lt q hq).1)
            have hown3 : w3.ownsRow w1.heap.size 52 1 (.slice A2 (j + 1) c2) (j + 1) ((out ++ [(r : Int)]).map (Value.int .u32)) := by simpa using hown2
            clear hown2 hgrow2 hown
            go_wp2
            go_roundw
            case rel => exact ⟨j + 1, _, by first | rfl | (congr 1; done) | (congr 1; push_cast; omega), by omega, hown3, hdo2, hnum2, hnx2⟩
            case measure => simp [intOf]; omega
    · obtain ⟨A2, c2, rfl, hc2, _⟩ := own_shape hown
      have hol : out.length = j := by have := hown.1; simpa using this
      have hend : num 4294967296 out = v := by rw [hnum.out, List.take_of_length_le (by rw [HL.out]; omega), HV.out]
      have hcut : Cutd out := cutd_of_ge (by decide) hdo fun hne => by
        have hj0 : 0 < j := by rw [← hol]; exact List.length_pos_iff.2 hne
        have hyne : ys ≠ [] := fun e => by have := HL.out; rw [e] at this; simp at this; omega
        have h1 := num_ge hdy hcy hyne
        rw [HV.out, HL.out] at h1
        rw [hend, hol]
        have h2 : (4294967296 : Nat) ^ (j - 1) = 2 ^ (32 * (j - 1)) := by rw [Nat.pow_mul]
        have h3 : 2 ^ (32 * (j - 1)) ≤ 2 ^ (m - 1) := Nat.pow_le_pow_right (by decide) (by omega)
        omega
      have hcan := canon_of (by decide) hdo hcut hend
      have hwf : ∀ x ∈ out, IntKind.u32.min ≤ x ∧ x ≤ IntKind.u32.max := fun x hx => by
        have h1 := hdo x hx
        have h2 : 0 ≤ x ∧ x ≤ 4294967295 := by omega
        simpa [IntKind.min, IntKind.max, IntKind.signed, IntKind.bits] using h2
      have hI2 := Ints.of_own hown hwf (by omega)
      rw [hcan] at hI2
      clear hown hnum hol hend hcut hcan hwf
      go_wp2
      go_ret
      exact ⟨A2, j, c2, rfl, hc2, hnx, hI2⟩
end Dy
end Go.Proofs.YtlbkepiflhchdaaDoor
