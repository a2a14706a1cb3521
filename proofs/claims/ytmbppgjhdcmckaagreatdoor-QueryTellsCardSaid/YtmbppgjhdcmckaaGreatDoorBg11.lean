/- The limbs of bits: the walk. -/
/- The reference's In: a dyad in parts of 2^-k; a walk. -/
/- The reference's Plus over signed numbers of bits: a walk (printed by a program of mine). -/
import Derived.Test.YtmbppgjhdcmckaaGreatDoorBg06
import Derived.Test.YtmbppgjhdcmckaaGreatDoorBg10
namespace Go.Proofs.YtmbppgjhdcmckaaGreatDoor
open Go.RowKit
namespace Dy
theorem Tryz.info48 : (Tryz.prog.info? 48).map (fun i => (i.zero, i.size, i.bytes)) = some (some (.int .u32 0), 1, 4) := by kernel_rfl
set_option maxHeartbeats 3200000 in
set_option maxRecDepth 100000 in
/-- headcountref01.Limbs. -/
theorem Limbs_any (w : World) (lo hi : Nat) (A : Option Addr) (n c : Nat) (xs : List Int) (hX : Ints w lo hi .u8 A n xs) (hdx : Dig 2 xs) (hnc : n ≤ c) (hhi : hi ≤ w.heap.size) (hn : n ≤ 1000000) (v : Nat) (hv : num 2 xs = v) :
  Calls Tryz.prog 188 #[.slice A n c] w fun e w' => ∃ A' n' c', e = .returned (.slice A' n' c') ∧ n' ≤ c' ∧ Below w.heap.size w w' ∧ Ints w' w.heap.size w'.heap.size .u32 A' n' (canon 4294967296 v) := by
 obtain ⟨i0, hi0, hz0, hz1, hz2⟩ := info_parts Tryz.info48
 go_enter Tryz.func188, Tryz.ntmps188
 go_wp2_with fail
 refine (Cut_any _ _ _ _ _ _ _ hX hdx hnc).mono ?_
 rintro e w1 ⟨⟨m, rfl, hmn, hI⟩, rfl⟩
 rw [hv] at hI
 clear hv hdx hX
 obtain ⟨ys, hys⟩ : ∃ ys, canon 2 v = ys := ⟨_, rfl⟩
 have hspec := canon_spec 2 v (by decide)
 rw [hys] at hspec hI
 obtain ⟨hdy, hcy, hvy⟩ := hspec
 have HL := Lib.hid hI.len
 have HV := Lib.hid hvy
 clear hys hvy
 go_wp2
 go_loopw [3, 4] (fun o i wr => ∃ j : Nat, ∃ out : List Int, i = .int .i64 ((32 * j : Nat) : Int) ∧ 32 * j ≤ m + 31 ∧ wr.ownsRow w1.heap.size 48 1 o j (out.map (Value.int .u32)) ∧ Dig 4294967296 out ∧ Hid (num 4294967296 out = num 2 (ys.take (32 * j))) ∧ Below w1.heap.size w1 wr)
  (fun _ i _ => m + 32 - (intOf i).toNat)
 case atStart => exact ⟨0, [], rfl, by omega, ⟨rfl, .inl ⟨rfl, rfl⟩⟩, fun x hx => (by simp at hx), by simp [Hid, num], Below.refl _ _⟩
 case round =>
  obtain ⟨j, out, rfl, hj, hown, hdo, hnum, hnx⟩ := hrel
  obtain ⟨wo, rfl⟩ : ∃ wo : World, wo = wr := ⟨_, rfl⟩
  by_cases hlt : 32 * j < m
  · by_cases htp : m ≤ 32 * j + 32
    · have hI2 := hI.below hnx hhi
      obtain ⟨bb, off, rfl, hcell⟩ := get hI2 (by omega)
      clear hI2
      have htop : m ≤ ys.length := by rw [HL.out]; omega
      go_wp2
      go_loopw [5, 6] (fun nn kv wr' => ∃ k r : Nat, kv = .int .i64 ((k : Int) - 1) ∧ nn = .int .u32 r ∧ 32 * j ≤ k ∧ k ≤ m ∧ Hid (num 2 (part ys k (m)) = r) ∧ wr' = wo) (fun _ kv _ => (intOf kv + 1).toNat)
      case atStart => exact ⟨m, 0, by first | rfl | (congr 1; omega) | (congr 1; push_cast; omega), rfl, by omega, Nat.le_refl _, by rw [Hid, part_none]; rfl, rfl⟩
      case round =>
       obtain ⟨k, r, rfl, rfl, hk1, hk2, hr, rfl⟩ := hrel
       have hr1 := part_lt (B := 2) (by decide) hdy (i := k) (t := m) (k := 32) (by omega)
       rw [hr.out] at hr1
       have hr2 : r ≤ 4294967295 := by omega
       clear hr1
       by_cases hkl : 32 * j < k
       · obtain ⟨k, rfl⟩ : ∃ k', k = k' + 1 := ⟨k - 1, by omega⟩
         have ek : ((k + 1 : Nat) : Int) - 1 = (k : Int) := by omega
         rw [ek]
         obtain ⟨p, hp, hp1⟩ := bit_nat hdy k
         have g1 : wr.cell? ⟨bb, off + k, none⟩ = some (.int .u8 (ys[k]?.getD 0)) := hcell k (by omega)
         rw [hp] at g1
         have hst := part_step 2 ys (i := k) (t := m) (by omega) htop
         rw [hp, hr.out] at hst
         have hr3 := part_lt (B := 2) (by decide) hdy (i := k) (t := m) (k := 32) (by omega)
         rw [hst] at hr3
         have hr4 : 2 * (r : Int) + (p : Int) ≤ 4294967295 := by simp only [Int.toNat_natCast] at hr3; omega
         have HST := Lib.hid hst
         clear hst hr3 hp ek
         go_wp2
         go_roundw
         case rel => exact ⟨k, p + 2 * r, by first | rfl | (congr 1; omega), by congr 1; push_cast; omega, by omega, by omega, by have := HST.out; simpa [Hid] using this, by trivial⟩
         case measure => first | (simp [intOf]; done) | (simp [intOf]; omega)
       · obtain rfl : k = 32 * j := by omega
         have hol : out.length = j := by have := hown.1; simpa using this
         have hnum2 : Hid (num 4294967296 (out ++ [(r : Int)]) = num 2 (ys.take (32 * (j + 1)))) := by
          have e1 : ys.take (32 * (j + 1)) = ys.take (m) := by
           first
            | rfl
            | (congr 1; done)
            | (rw [List.take_of_length_le (by rw [HL.out]; omega), List.take_of_length_le (by rw [HL.out]; omega)])
          rw [Hid, e1, part_split 2 ys (i := 32 * j) (t := m) (by omega) (by rw [HL.out]; omega), num_append, hol, hnum.out, hr.out, Nat.pow_mul]
          simp [num]
         have hdo2 : Dig 4294967296 (out ++ [(r : Int)]) := fun x hx => by
          rcases List.mem_append.1 hx with h' | h'
          · exact hdo x h'
          · rw [List.mem_singleton.1 h']
            omega
         clear hol hnum hr
         go_wp2_with (first
          | (at_builtin; refine wpList_append_raw _ rfl (.tmp 34) (.tmp 36) 22 rfl w1.heap.size 48 i0 (.int .u32 0) 1 4 Tryz.underlying22 hi0 hz0 hz1 hz2 rfl (by decide) _ _ _ rfl (hown.alloc _) _ _ _ 1 1 [.int .u32 r] rfl (raw_one _ _ _ _) ?d1 ?d2 ?d3 ?d4 ?_))
         case d1 => first | rfl | (intro u hu; simp at hu; subst hu; rfl)
         case d2 => unfold maxLen; omega
         case d3 => omega
         case d4 => have := hnx.size; simp; omega
         intro A2 c2 w3 hown2 hgrow2 _
         have hnx2 : Below w1.heap.size w1 w3 := (hnx.alloc hnx.size _).grown hgrow2 (by have := hnx.size; simp; omega) (fun q hq => (hown.lt q hq).1)
         have hown3 : w3.ownsRow w1.heap.size 48 1 (.slice A2 (j + 1) c2) (j + 1) ((out ++ [(r : Int)]).map (Value.int .u32)) := by simpa using hown2
         clear hown2 hgrow2 hown
         go_wp2
         go_roundw
         case rel => exact ⟨j + 1, _, by first | rfl | (congr 1; done) | (congr 1; push_cast; omega), by omega, hown3, hdo2, hnum2, hnx2⟩
         case measure => simp [intOf]; omega
    · have hI2 := hI.below hnx hhi
      obtain ⟨bb, off, rfl, hcell⟩ := get hI2 (by omega)
      clear hI2
      have htop : 32 * j + 32 ≤ ys.length := by rw [HL.out]; omega
      go_wp2
      go_loopw [5, 6] (fun nn kv wr' => ∃ k r : Nat, kv = .int .i64 ((k : Int) - 1) ∧ nn = .int .u32 r ∧ 32 * j ≤ k ∧ k ≤ 32 * j + 32 ∧ Hid (num 2 (part ys k (32 * j + 32)) = r) ∧ wr' = wo) (fun _ kv _ => (intOf kv + 1).toNat)
      case atStart => exact ⟨32 * j + 32, 0, by first | rfl | (congr 1; omega) | (congr 1; push_cast; omega), rfl, by omega, Nat.le_refl _, by rw [Hid, part_none]; rfl, rfl⟩
      case round =>
       obtain ⟨k, r, rfl, rfl, hk1, hk2, hr, rfl⟩ := hrel
       have hr1 := part_lt (B := 2) (by decide) hdy (i := k) (t := 32 * j + 32) (k := 32) (by omega)
       rw [hr.out] at hr1
       have hr2 : r ≤ 4294967295 := by omega
       clear hr1
       by_cases hkl : 32 * j < k
       · obtain ⟨k, rfl⟩ : ∃ k', k = k' + 1 := ⟨k - 1, by omega⟩
         have ek : ((k + 1 : Nat) : Int) - 1 = (k : Int) := by omega
         rw [ek]
         obtain ⟨p, hp, hp1⟩ := bit_nat hdy k
         have g1 : wr.cell? ⟨bb, off + k, none⟩ = some (.int .u8 (ys[k]?.getD 0)) := hcell k (by omega)
         rw [hp] at g1
         have hst := part_step 2 ys (i := k) (t := 32 * j + 32) (by omega) htop
         rw [hp, hr.out] at hst
         have hr3 := part_lt (B := 2) (by decide) hdy (i := k) (t := 32 * j + 32) (k := 32) (by omega)
         rw [hst] at hr3
         have hr4 : 2 * (r : Int) + (p : Int) ≤ 4294967295 := by simp only [Int.toNat_natCast] at hr3; omega
         have HST := Lib.hid hst
         clear hst hr3 hp ek
         go_wp2
         go_roundw
         case rel => exact ⟨k, p + 2 * r, by first | rfl | (congr 1; omega), by congr 1; push_cast; omega, by omega, by omega, by have := HST.out; simpa [Hid] using this, by trivial⟩
         case measure => first | (simp [intOf]; done) | (simp [intOf]; omega)
       · obtain rfl : k = 32 * j := by omega
         have hol : out.length = j := by have := hown.1; simpa using this
         have hnum2 : Hid (num 4294967296 (out ++ [(r : Int)]) = num 2 (ys.take (32 * (j + 1)))) := by
          have e1 : ys.take (32 * (j + 1)) = ys.take (32 * j + 32) := by
           first
            | rfl
            | (congr 1; done)
            | (rw [List.take_of_length_le (by rw [HL.out]; omega), List.take_of_length_le (by rw [HL.out]; omega)])
          rw [Hid, e1, part_split 2 ys (i := 32 * j) (t := 32 * j + 32) (by omega) (by rw [HL.out]; omega), num_append, hol, hnum.out, hr.out, Nat.pow_mul]
          simp [num]
         have hdo2 : Dig 4294967296 (out ++ [(r : Int)]) := fun x hx => by
          rcases List.mem_append.1 hx with h' | h'
          · exact hdo x h'
          · rw [List.mem_singleton.1 h']
            omega
         clear hol hnum hr
         go_wp2_with (first
          | (at_builtin; refine wpList_append_raw _ rfl (.tmp 34) (.tmp 36) 22 rfl w1.heap.size 48 i0 (.int .u32 0) 1 4 Tryz.underlying22 hi0 hz0 hz1 hz2 rfl (by decide) _ _ _ rfl (hown.alloc _) _ _ _ 1 1 [.int .u32 r] rfl (raw_one _ _ _ _) ?f1 ?f2 ?f3 ?f4 ?_))
         case f1 => first | rfl | (intro u hu; simp at hu; subst hu; rfl)
         case f2 => unfold maxLen; omega
         case f3 => omega
         case f4 => have := hnx.size; simp; omega
         intro A2 c2 w3 hown2 hgrow2 _
         have hnx2 : Below w1.heap.size w1 w3 := (hnx.alloc hnx.size _).grown hgrow2 (by have := hnx.size; simp; omega) (fun q hq => (hown.lt q hq).1)
         have hown3 : w3.ownsRow w1.heap.size 48 1 (.slice A2 (j + 1) c2) (j + 1) ((out ++ [(r : Int)]).map (Value.int .u32)) := by simpa using hown2
         clear hown2 hgrow2 hown
         go_wp2
         go_roundw
         case rel => exact ⟨j + 1, _, by first | rfl | (congr 1; done) | (congr 1; push_cast; omega), by omega, hown3, hdo2, hnum2, hnx2⟩
         case measure => simp [intOf]; omega
  · obtain ⟨A2, c2, rfl, hc2, _⟩ := own_shape hown
    have hol : out.length = j := by have := hown.1; simpa using this
    have hend : num 4294967296 out = v := by rw [hnum.out, List.take_of_length_le (by rw [HL.out]; omega), HV.out]
    have hcut : Cutd out := cutd_of_ge (by decide) hdo fun hne => by
     have hj0 : 0 < j := by rw [← hol]; exact List.length_pos_iff.2 hne
     have hyne : ys ≠ [] := fun e => by have := HL.out; rw [e] at this; simp at this; omega
     have h1 := num_ge hdy hcy hyne
     rw [HV.out, HL.out] at h1
     rw [hend, hol]
     have h2 : (4294967296 : Nat) ^ (j - 1) = 2 ^ (32 * (j - 1)) := by rw [Nat.pow_mul]
     have h3 : 2 ^ (32 * (j - 1)) ≤ 2 ^ (m - 1) := Nat.pow_le_pow_right (by decide) (by omega)
     omega
    have hcan := canon_of (by decide) hdo hcut hend
    have hwf : ∀ x ∈ out, IntKind.u32.min ≤ x ∧ x ≤ IntKind.u32.max := fun x hx => by
     have h1 := hdo x hx
     have h2 : 0 ≤ x ∧ x ≤ 4294967295 := by omega
     simpa [IntKind.min, IntKind.max, IntKind.signed, IntKind.bits] using h2
    have hI2 := Ints.of_own hown hwf (by omega)
    rw [hcan] at hI2
    clear hown hnum hol hend hcut hcan hwf
    go_wp2
    go_ret
    exact ⟨A2, j, c2, rfl, hc2, hnx, hI2⟩
end Dy
end Go.Proofs.YtmbppgjhdcmckaaGreatDoor
namespace Go.Proofs.YtmbppgjhdcmckaaGreatDoor
open Go.RowKit
namespace Dy
open Dp
theorem boxS {w : World} {g : Nat} {x y : Value} {t : TypeId} (h : w.heap[g]? = some (.cells #[x, y] t (0, 0))) :
  (w.cell? ⟨g, 0, none⟩ = some x ∧ w.cell? ⟨g, 1, none⟩ = some y) ∧ (w.frozen? ⟨g, 0, none⟩ = false ∧ w.frozen? ⟨g, 1, none⟩ = false) :=
 ⟨⟨cell_of_row w g 0 _ t _ h, cell_of_row w g 1 _ t _ h⟩, frozen_of_row w g 0 _ t h, frozen_of_row w g 1 _ t h⟩
theorem ints_set {w : World} {lo hi : Nat} {k : IntKind} {A : Option Addr} {n : Nat} {xs : List Int} (h : Ints w lo hi k A n xs) {g : Nat} (hg : g < lo) (o : Nat) (v : Value) : Ints (w.setCell ⟨g, o, none⟩ v) lo hi k A n xs := ints_far h (.inl hg) v
set_option maxHeartbeats 6400000 in
set_option maxRecDepth 100000 in
/-- headcountref02.In. -/
theorem In_any (w : World) (s : Bool) (m ex : Nat) (A : Option Addr) (n c : Nat) (h : Ints w 0 w.heap.size .u32 A n (canon 4294967296 m)) (hn : n ≤ 40) (k : Nat) (hk : ex ≤ k) (hk2 : k ≤ 2000) (v : Nat) (hv : 2 ^ (k - ex) * m = v) (kk : Int) (hkk : kk = k) :
  Calls Tryz.prog 189 #[.agg #[.bool s, .slice A n c, .int .i64 ex], .int .i64 kk] w fun e w' => ∃ A' n' c', e = .returned (.agg #[.bool s, .slice A' n' c']) ∧ n' ≤ c' ∧ n' ≤ 4000 ∧ Below w.heap.size w w' ∧ Ints w' w.heap.size w'.heap.size .u8 A' n' (canon 2 v) := by
 have hsub : IntKind.i64.wrap (kk - (ex : Int)) = ((k - ex : Nat) : Int) := by rw [hkk, IntKind.wrap_i64]; omega
 have HS := Lib.hid hsub
 have hcs := canon_spec 4294967296 m (by decide)
 have hd := Lib.hid hcs.1
 have hnm := Lib.hid hcs.2.2
 have HV := Lib.hid hv
 have hX2 := h.alloc (Nat.le_refl _) (.cells #[.bool s, .slice A n c, .int .i64 ex] 24)
 clear hkk hsub hcs hv h
 generalize hw1 : w.alloc (.cells #[.bool s, .slice A n c, .int .i64 ex] 24) = w1 at *
 have hbx : w1.heap[w.heap.size]? = some (.cells #[.bool s, .slice A n c, .int .i64 ex] 24 (0, 0)) := by rw [← hw1]; exact heap_alloc_last _ _
 have HS1 : Hid (w1.heap.size = w.heap.size + 1) := by rw [Hid, ← hw1]; simp
 have hB1 : Below w.heap.size w w1 := by rw [← hw1]; exact (Below.refl _ w).alloc (Nat.le_refl _) _
 go_enter Tryz.func189, Tryz.ntmps189
 go_wp2
 clear hw1
 have hX3 := hX2.alloc (by have := HS1.out; omega) (.cells #[.bool false, .slice none 0 0] 173)
 have hB2 := hB1.alloc (by have := HS1.out; omega) (.cells #[.bool false, .slice none 0 0] 173)
 have hbx2 := (Below.heap_alloc w1 (.cells #[.bool false, .slice none 0 0] 173) w.heap.size (by have := HS1.out; omega)).trans hbx
 have hrs := heap_alloc_last w1 (.cells #[.bool false, .slice none 0 0] 173)
 have HS2 : Hid ((w1.alloc (.cells #[.bool false, .slice none 0 0] 173)).heap.size = w1.heap.size + 1) := by rw [Hid]; simp
 generalize hw2 : w1.alloc (.cells #[.bool false, .slice none 0 0] 173) = w2 at *
 clear hw2 hX2 hB1 hbx
 have kD : Keeps w2 w2.drew := fun _ _ => rfl
 have b2 : Below w2.heap.size w2 w2.drew := (Below.refl _ _).drew
 refine region_E (Keeps w2) [11] (m := 12) (L := #[zF,zF,zF,zF,zF,zF,zF,zF,zF,zF,zF,zF]) (by kernel_rfl) (by rfl) (by rfl) ?_
 refine zE 0 #[zT,zF,zF,zF,zF,zF,zF,zF,zF,zF,zF,zF] ?_ rfl ?hy1 ?rest1
 case hy1 => intro w; go_simp; (try with_reducible rfl)
 try simp only [Act.put, zp]
 refine readE (i := 1) (L := #[zT,zT,zF,zF,zF,zF,zF,zF,zF,zF,zF,zF]) (v := .bool s) rfl (by rfl) (by kernel_rfl) (by kernel_rfl) (by kernel_rfl) (fun _ _ _ h => h) (by assumption) (by rfl) ?hyA ?restA
 case hyA =>
  intro w' h1
  obtain ⟨⟨k1, k2, k3⟩, _⟩ := boxD ((h1 _ (by have := HS1.out; have := HS2.out; omega)).trans hbx2)
  go_simp
 try simp only [Act.put, zp]
 refine zE 2 #[zT,zT,zT,zF,zF,zF,zF,zF,zF,zF,zF,zF] ?_ rfl ?hy3 ?rest3
 case hy3 => intro w; go_simp; (try with_reducible rfl)
 try simp only [Act.put, zp]
 refine readE (i := 3) (L := #[zT,zT,zT,zT,zF,zF,zF,zF,zF,zF,zF,zF]) (v := .slice A n c) rfl (by rfl) (by kernel_rfl) (by kernel_rfl) (by kernel_rfl) (fun _ _ _ h => h) (by assumption) (by rfl) ?hyB ?restB
 case hyB =>
  intro w' h1
  obtain ⟨⟨k1, k2, k3⟩, _⟩ := boxD ((h1 _ (by have := HS1.out; have := HS2.out; omega)).trans hbx2)
  go_simp
 try simp only [Act.put, zp]
 refine zE 5 #[zT,zT,zT,zT,zF,zT,zF,zF,zF,zF,zF,zF] ?_ rfl ?hy5 ?rest5
 case hy5 => intro w; go_simp; (try with_reducible rfl)
 try simp only [Act.put, zp]
 refine zE 6 #[zT,zT,zT,zT,zF,zT,zT,zF,zF,zF,zF,zF] ?_ rfl ?hy6 ?rest6
 case hy6 => intro w; go_simp; (try with_reducible rfl)
 try simp only [Act.put, zp]
 refine readE (i := 7) (L := #[zT,zT,zT,zT,zF,zT,zT,zT,zF,zF,zF,zF]) (v := .int .i64 ex) rfl (by rfl) (by kernel_rfl) (by kernel_rfl) (by kernel_rfl) (fun _ _ _ h => h) (by assumption) (by rfl) ?hyC ?restC
 case hyC =>
  intro w' h1
  obtain ⟨⟨k1, k2, k3⟩, _⟩ := boxD ((h1 _ (by have := HS1.out; have := HS2.out; omega)).trans hbx2)
  go_simp
 try simp only [Act.put, zp]
 have hsub := HS.out
 refine zE 8 #[zT,zT,zT,zT,zF,zT,zT,zT,zT,zF,zF,zF] ?_ rfl ?hy8 ?rest8
 case hy8 => intro w; go_simp; (try with_reducible rfl)
 try simp only [Act.put, zp]
 clear hsub
 refine stepK (i := 4) (L := #[zT,zT,zT,zT,zT,zT,zT,zT,zT,zF,zF,zF]) rfl (by rfl) (by kernel_rfl) (by rfl) (fun K hK => ?_)
 go_simp
 go_at_call 183
 refine (Digits_any w2.drew 0 w.heap.size A n c _ (hX3.drewN 1) hd.out (by show w.heap.size ≤ w2.heap.size; have := HS1.out; have := HS2.out; omega) (by omega) m hnm.out).mono ?_
 rintro e w3 ⟨A1, n1, c1, rfl, hc1, hn1, hB, hI3⟩
 have b3 := b2.trans hB
 clear hB
 refine hK _ _ ⟨fun _ _ p hp => b3.block p hp, ?_⟩
 clear hK K
 try simp only [Act.put, zp]
 refine stepK (i := 9) (L := #[zT,zT,zT,zT,zT,zT,zT,zT,zT,zT,zF,zF]) rfl (by rfl) (by kernel_rfl) (by rfl) (fun K hK => ?_)
 go_simp
 go_at_call 182
 refine (Times2_any w3 _ _ A1 n1 c1 m hI3 (Nat.le_refl _) (by omega) (k - ex) _ rfl (by omega)).mono ?_
 rintro e w4 ⟨A2, n2, c2, rfl, hc2, hn2, hB, hI4⟩
 have b4 := b3.trans (hB.mono b3.size)
 have hi4 := Lib.hid hI4
 have hs3 := b3.size
 have hs4 := hB.size
 clear hB hI3 hI4
 refine hK _ _ ⟨fun _ _ p hp => b4.block p hp, ?_⟩
 clear hK K
 try simp only [Act.put, zp]
 refine zE 10 #[zT,zT,zT,zT,zT,zT,zT,zT,zT,zT,zT,zF] ?_ rfl ?hy11 ?rest11
 case hy11 => intro w; go_simp; (try with_reducible rfl)
 try simp only [Act.put, zp]
 obtain ⟨⟨p1, p2⟩, p3, p4⟩ := boxS ((b4.block w1.heap.size (by have := HS2.out; omega)).trans hrs)
 refine stepK (i := 11) (L := #[zT,zT,zT,zT,zT,zT,zT,zT,zT,zT,zT,zT]) rfl (by rfl) (by kernel_rfl) (by rfl) (fun K hK => ?_)
 go_simp
 refine hK _ _ ⟨fun h => absurd h (by decide), ?_⟩
 clear hK K
 try simp only [Act.put, zp]
 refine doneE (by kernel_rfl) ?_ _
 go_wp2
 refine bodyPost_ret (v := .agg #[.bool s, .slice A2 n2 c2]) (by simp [results, Tryz.results189, go_sem, p1, p2]) rfl ⟨A2, n2, c2, rfl, hc2, by omega, ?_, ?_⟩
 · exact ((hB2.trans (b4.mono (by have := HS1.out; have := HS2.out; omega))).setCell (by have := HS1.out; simp; omega) _).setCell (by have := HS1.out; simp; omega) _
 · have h := hi4.out
   rw [HV.out] at h
   exact ((ints_set (ints_set h (by have := HS2.out; omega) 0 _) (by have := HS2.out; omega) 1 _).more (by have := HS1.out; have := HS2.out; omega) (by simp [World.setCell]))
end Dy
end Go.Proofs.YtmbppgjhdcmckaaGreatDoor
namespace Go.Proofs.YtmbppgjhdcmckaaGreatDoor
open Go.RowKit
namespace Dy
open Dp
theorem boxSA {w : World} {g : Nat} {x y : Value} {t : TypeId} (h : w.heap[g]? = some (.cells #[x, y] t (0, 0))) :
  (∀ o, (w.alloc o).cell? ⟨g, 0, none⟩ = some x) ∧ (∀ o, (w.alloc o).cell? ⟨g, 1, none⟩ = some y) ∧ (∀ o, (w.alloc o).frozen? ⟨g, 0, none⟩ = false) ∧ (∀ o, (w.alloc o).frozen? ⟨g, 1, none⟩ = false) :=
 ⟨fun o => (boxS (heapAll o h)).1.1, fun o => (boxS (heapAll o h)).1.2, fun o => (boxS (heapAll o h)).2.1, fun o => (boxS (heapAll o h)).2.2⟩
theorem plus_cases (s1 s2 : Bool) (x y : Nat) (s : Bool) (v : Nat) (h : plusS s1 x s2 y = (s, v)) :
  (s1 = s2 ∧ s = s1 ∧ x + y = v) ∨ ((s1 == s2) = false ∧ cmpN x y = 0 ∧ y ≤ x ∧ s = s1 ∧ x - y = v) ∨ ((s1 == s2) = false ∧ cmpN x y = 1 ∧ y ≤ x ∧ s = s1 ∧ x - y = v) ∨ ((s1 == s2) = false ∧ cmpN x y = -1 ∧ x ≤ y ∧ s = s2 ∧ y - x = v) := by
 unfold plusS at h
 by_cases h1 : s1 = s2
 · rw [if_pos h1] at h
   injection h with h2 h3
   exact .inl ⟨h1, h2.symm, h3⟩
 · rw [if_neg h1] at h
   have h4 : (s1 == s2) = false := by simpa using h1
   right
   by_cases h5 : y ≤ x
   · rw [if_pos h5] at h
     injection h with h2 h3
     by_cases h6 : x = y
     · exact .inl ⟨h4, by unfold cmpN; rw [if_neg (by omega), if_pos h6], h5, h2.symm, h3⟩
     · exact .inr (.inl ⟨h4, by unfold cmpN; rw [if_neg (by omega), if_neg h6], h5, h2.symm, h3⟩)
   · rw [if_neg h5] at h
     injection h with h2 h3
     exact .inr (.inr ⟨h4, by unfold cmpN; rw [if_pos (by omega)], by omega, h2.symm, h3⟩)
theorem dig2 {n : Nat} : Dig 2 (canon 2 n) := (canon_spec 2 n (by decide)).1
theorem num2 {n : Nat} : num 2 (canon 2 n) = n := (canon_spec 2 n (by decide)).2.2
theorem canon2_len {x y : Nat} (h : x ≤ y) : (canon 2 x).length ≤ (canon 2 y).length := by
 have h1 := canon_spec 2 y (by decide)
 refine canon_len (by decide) (Nat.lt_of_le_of_lt h ?_)
 have := num_lt 2 (by decide) _ h1.1
 rwa [h1.2.2] at this
set_option maxHeartbeats 12800000 in
set_option maxRecDepth 100000 in
/-- headcountref02.Plus. -/
theorem rPlus_any (w : World) (s1 s2 : Bool) (x y : Nat) (A1 : Option Addr) (n1 c1 : Nat) (A2 : Option Addr) (n2 c2 : Nat) (h1 : Ints w 0 w.heap.size .u8 A1 n1 (canon 2 x)) (h2 : Ints w 0 w.heap.size .u8 A2 n2 (canon 2 y)) (hn1 : n1 ≤ 4000) (hn2 : n2 ≤ 4000) (s : Bool) (v : Nat) (hp : plusS s1 x s2 y = (s, v)) :
  Calls Tryz.prog 144 #[.agg #[.bool s1, .slice A1 n1 c1], .agg #[.bool s2, .slice A2 n2 c2]] w fun e w' => ∃ A n c, e = .returned (.agg #[.bool s, .slice A n c]) ∧ n ≤ c ∧ Below w.heap.size w w' ∧ Ints w' w.heap.size w'.heap.size .u8 A n (canon 2 v) := by
 have l1 := Lib.hid h1.len
 have l2 := Lib.hid h2.len
 have I1 := (h1.alloc (Nat.le_refl _) (.cells #[.bool s1, .slice A1 n1 c1] 173)).alloc (by simp) (.cells #[.bool s2, .slice A2 n2 c2] 173)
 have I2 := (h2.alloc (Nat.le_refl _) (.cells #[.bool s1, .slice A1 n1 c1] 173)).alloc (by simp) (.cells #[.bool s2, .slice A2 n2 c2] 173)
 clear h1 h2
 generalize hw : (w.alloc (.cells #[.bool s1, .slice A1 n1 c1] 173)).alloc (.cells #[.bool s2, .slice A2 n2 c2] 173) = w1 at *
 have HS1 : Hid (w1.heap.size = w.heap.size + 2) := by rw [Hid, ← hw]; simp
 have b1 : Below w.heap.size w w1 := by rw [← hw]; exact ((Below.refl _ w).alloc (Nat.le_refl _) _).alloc (by simp) _
 have X1 : w1.heap[w.heap.size]? = some (.cells #[.bool s1, .slice A1 n1 c1] 173 (0, 0)) := by
  rw [← hw, Below.heap_alloc _ _ _ (by simp)]
  exact heap_alloc_last _ _
 have X2 : w1.heap[w.heap.size + 1]? = some (.cells #[.bool s2, .slice A2 n2 c2] 173 (0, 0)) := by
  rw [← hw]
  exact heap_alloc2_new _ _ _
 obtain ⟨y0, y1, y2, y3⟩ := boxSA X1
 obtain ⟨z0, z1, z2, z3⟩ := boxSA X2
 have I1a := I1.alloc (by have := HS1.out; omega) (.cells #[.bool false, .slice none 0 0] 173)
 have I2a := I2.alloc (by have := HS1.out; omega) (.cells #[.bool false, .slice none 0 0] 173)
 clear I1 I2
 replace X1 := heapAll (.cells #[.bool false, .slice none 0 0] 173) X1
 replace X2 := heapAll (.cells #[.bool false, .slice none 0 0] 173) X2
 have X3 := heap_alloc_last w1 (.cells #[.bool false, .slice none 0 0] 173)
 have b2 := b1.alloc (by have := HS1.out; omega) (.cells #[.bool false, .slice none 0 0] 173)
 have HS2 : Hid ((w1.alloc (.cells #[.bool false, .slice none 0 0] 173)).heap.size = w1.heap.size + 1) := by rw [Hid]; simp
 clear b1
 rcases plus_cases s1 s2 x y s v hp with ⟨rfl, rfl, hv⟩ | ⟨he, hr, hle, rfl, hv⟩ | ⟨he, hr, hle, rfl, hv⟩ | ⟨he, hr, hle, rfl, hv⟩
 · have HV := Lib.hid hv
   clear hp hv
   go_enter Tryz.func144, Tryz.ntmps144
   go_wp2_with fail
   generalize hw2 : w1.alloc (.cells #[.bool false, .slice none 0 0] 173) = w2 at *
   clear hw2 y0 y1 y2 y3 z0 z1 z2 z3
   try clear hw
   have kD : Keeps w2 w2.drew := fun _ _ => rfl
   have d2 : Below w2.heap.size w2 w2.drew := (Below.refl _ _).drew
   refine region_E (Keeps w2) [8] (m := 9) (L := #[zF,zF,zF,zF,zF,zF,zF,zF,zF]) (by kernel_rfl) (by rfl) (by rfl) ?_
   refine zE 0 #[zT,zF,zF,zF,zF,zF,zF,zF,zF] ?_ rfl ?hy13 ?rest13
   case hy13 => intro w; go_simp; (try with_reducible rfl)
   try simp only [Act.put, zp]
   refine readE (i := 1) (L := #[zT,zT,zF,zF,zF,zF,zF,zF,zF]) (v := .bool s) rfl (by rfl) (by kernel_rfl) (by kernel_rfl) (by kernel_rfl) (fun _ _ _ h => h) (by assumption) (by rfl) ?hyA1 ?restA1
   case hyA1 =>
    intro w' h
    obtain ⟨⟨k1, k2⟩, _⟩ := boxS ((h _ (by have := HS1.out; have := HS2.out; omega)).trans X1)
    go_simp
   try simp only [Act.put, zp]
   refine zE 2 #[zT,zT,zT,zF,zF,zF,zF,zF,zF] ?_ rfl ?hy15 ?rest15
   case hy15 => intro w; go_simp; (try with_reducible rfl)
   try simp only [Act.put, zp]
   refine readE (i := 3) (L := #[zT,zT,zT,zT,zF,zF,zF,zF,zF]) (v := .slice A1 n1 c1) rfl (by rfl) (by kernel_rfl) (by kernel_rfl) (by kernel_rfl) (fun _ _ _ h => h) (by assumption) (by rfl) ?hyB1 ?restB1
   case hyB1 =>
    intro w' h
    obtain ⟨⟨k1, k2⟩, _⟩ := boxS ((h _ (by have := HS1.out; have := HS2.out; omega)).trans X1)
    go_simp
   try simp only [Act.put, zp]
   refine zE 4 #[zT,zT,zT,zT,zT,zF,zF,zF,zF] ?_ rfl ?hy17 ?rest17
   case hy17 => intro w; go_simp; (try with_reducible rfl)
   try simp only [Act.put, zp]
   refine readE (i := 5) (L := #[zT,zT,zT,zT,zT,zT,zF,zF,zF]) (v := .slice A2 n2 c2) rfl (by rfl) (by kernel_rfl) (by kernel_rfl) (by kernel_rfl) (fun _ _ _ h => h) (by assumption) (by rfl) ?hyC1 ?restC1
   case hyC1 =>
    intro w' h
    obtain ⟨⟨k1, k2⟩, _⟩ := boxS ((h _ (by have := HS1.out; have := HS2.out; omega)).trans X2)
    go_simp
   try simp only [Act.put, zp]
   refine stepK (i := 6) (L := #[zT,zT,zT,zT,zT,zT,zT,zF,zF]) rfl (by rfl) (by kernel_rfl) (by rfl) (fun K hK => ?_)
   go_simp
   go_at_call 147
   refine (Plus_any w2.drew 0 w.heap.size 0 w.heap.size A1 n1 c1 _ (I1a.drewN 1) A2 n2 c2 _ (I2a.drewN 1) dig2 dig2 (by show w.heap.size ≤ w2.heap.size; have := HS1.out; have := HS2.out; omega) (by show w.heap.size ≤ w2.heap.size; have := HS1.out; have := HS2.out; omega) (by omega) (by omega) v (by rw [num2, num2]; exact HV.out)).mono ?_
   rintro e w3 ⟨A3, n3, c3, rfl, hc3, hB, hI⟩
   have d3 := d2.trans hB
   have hI3 := Lib.hid hI
   have hs3 := hB.size
   clear hB hI
   refine hK _ _ ⟨fun _ _ p hp => d3.block p hp, ?_⟩
   clear hK K
   try simp only [Act.put, zp]
   refine zE 7 #[zT,zT,zT,zT,zT,zT,zT,zT,zF] ?_ rfl ?hy20 ?rest20
   case hy20 => intro w; go_simp; (try with_reducible rfl)
   try simp only [Act.put, zp]
   obtain ⟨⟨p1, p2⟩, p3, p4⟩ := boxS ((d3.block w1.heap.size (by have := HS2.out; omega)).trans X3)
   refine stepK (i := 8) (L := #[zT,zT,zT,zT,zT,zT,zT,zT,zT]) rfl (by rfl) (by kernel_rfl) (by rfl) (fun K hK => ?_)
   go_simp
   refine hK _ _ ⟨fun h => absurd h (by decide), ?_⟩
   clear hK K
   try simp only [Act.put, zp]
   refine doneE (by kernel_rfl) ?_ _
   go_wp2
   refine bodyPost_ret (v := .agg #[.bool s, .slice A3 n3 c3]) (by simp [results, Tryz.results144, go_sem, p1, p2]) rfl ⟨A3, n3, c3, rfl, hc3, ?_, ?_⟩
   · exact ((b2.trans (d3.mono (by have := HS1.out; have := HS2.out; omega))).setCell (by have := HS1.out; simp; omega) _).setCell (by have := HS1.out; simp; omega) _
   · exact ((ints_set (ints_set hI3.out (by show w1.heap.size < w2.heap.size; have := HS2.out; omega) 0 _) (by show w1.heap.size < w2.heap.size; have := HS2.out; omega) 1 _).more (by show w.heap.size ≤ w2.heap.size; have := HS1.out; have := HS2.out; omega) (by simp [World.setCell]))
 · have HV := Lib.hid hv
   have HR := Lib.hid hr
   clear hp hv hr
   go_enter Tryz.func144, Tryz.ntmps144
   go_wp2_with fail
   refine (Order_any _ 0 w.heap.size 0 w.heap.size A1 n1 c1 _ I1a A2 n2 c2 _ I2a dig2 dig2 (by omega) (by omega) (0) (by rw [num2, num2]; exact HR.out)).mono ?_
   rintro e wq ⟨rfl, rfl⟩
   clear HR
   go_wp2_with fail
   generalize hw2 : w1.alloc (.cells #[.bool false, .slice none 0 0] 173) = w2 at *
   clear hw2 y0 y1 y2 y3 z0 z1 z2 z3
   try clear hw
   have kD : Keeps w2 w2.drew := fun _ _ => rfl
   have d2 : Below w2.heap.size w2 w2.drew := (Below.refl _ _).drew
   refine region_E (Keeps w2) [8] (m := 9) (L := #[zF,zF,zF,zF,zF,zF,zF,zF,zF]) (by kernel_rfl) (by rfl) (by rfl) ?_
   refine zE 0 #[zT,zF,zF,zF,zF,zF,zF,zF,zF] ?_ rfl ?hy22 ?rest22
   case hy22 => intro w; go_simp; (try with_reducible rfl)
   try simp only [Act.put, zp]
   refine readE (i := 1) (L := #[zT,zT,zF,zF,zF,zF,zF,zF,zF]) (v := .bool s) rfl (by rfl) (by kernel_rfl) (by kernel_rfl) (by kernel_rfl) (fun _ _ _ h => h) (by assumption) (by rfl) ?hyA2 ?restA2
   case hyA2 =>
    intro w' h
    obtain ⟨⟨k1, k2⟩, _⟩ := boxS ((h _ (by have := HS1.out; have := HS2.out; omega)).trans X1)
    go_simp
   try simp only [Act.put, zp]
   refine zE 2 #[zT,zT,zT,zF,zF,zF,zF,zF,zF] ?_ rfl ?hy24 ?rest24
   case hy24 => intro w; go_simp; (try with_reducible rfl)
   try simp only [Act.put, zp]
   refine readE (i := 3) (L := #[zT,zT,zT,zT,zF,zF,zF,zF,zF]) (v := .slice A1 n1 c1) rfl (by rfl) (by kernel_rfl) (by kernel_rfl) (by kernel_rfl) (fun _ _ _ h => h) (by assumption) (by rfl) ?hyB2 ?restB2
   case hyB2 =>
    intro w' h
    obtain ⟨⟨k1, k2⟩, _⟩ := boxS ((h _ (by have := HS1.out; have := HS2.out; omega)).trans X1)
    go_simp
   try simp only [Act.put, zp]
   refine zE 4 #[zT,zT,zT,zT,zT,zF,zF,zF,zF] ?_ rfl ?hy26 ?rest26
   case hy26 => intro w; go_simp; (try with_reducible rfl)
   try simp only [Act.put, zp]
   refine readE (i := 5) (L := #[zT,zT,zT,zT,zT,zT,zF,zF,zF]) (v := .slice A2 n2 c2) rfl (by rfl) (by kernel_rfl) (by kernel_rfl) (by kernel_rfl) (fun _ _ _ h => h) (by assumption) (by rfl) ?hyC2 ?restC2
   case hyC2 =>
    intro w' h
    obtain ⟨⟨k1, k2⟩, _⟩ := boxS ((h _ (by have := HS1.out; have := HS2.out; omega)).trans X2)
    go_simp
   try simp only [Act.put, zp]
   refine stepK (i := 6) (L := #[zT,zT,zT,zT,zT,zT,zT,zF,zF]) rfl (by rfl) (by kernel_rfl) (by rfl) (fun K hK => ?_)
   go_simp
   go_at_call 186
   refine (Minus_any w2.drew 0 w.heap.size 0 w.heap.size A1 n1 c1 _ (I1a.drewN 1) A2 n2 c2 _ (I2a.drewN 1) dig2 dig2 (by show w.heap.size ≤ w2.heap.size; have := HS1.out; have := HS2.out; omega) (by show w.heap.size ≤ w2.heap.size; have := HS1.out; have := HS2.out; omega) (by omega) (by have := canon2_len hle; have := l1.out; have := l2.out; omega) (by rw [num2, num2]; exact hle) v (by rw [num2, num2]; exact HV.out)).mono ?_
   rintro e w3 ⟨A3, n3, c3, rfl, hc3, hB, hI⟩
   have d3 := d2.trans hB
   have hI3 := Lib.hid hI
   have hs3 := hB.size
   clear hB hI
   refine hK _ _ ⟨fun _ _ p hp => d3.block p hp, ?_⟩
   clear hK K
   try simp only [Act.put, zp]
   refine zE 7 #[zT,zT,zT,zT,zT,zT,zT,zT,zF] ?_ rfl ?hy29 ?rest29
   case hy29 => intro w; go_simp; (try with_reducible rfl)
   try simp only [Act.put, zp]
   obtain ⟨⟨p1, p2⟩, p3, p4⟩ := boxS ((d3.block w1.heap.size (by have := HS2.out; omega)).trans X3)
   refine stepK (i := 8) (L := #[zT,zT,zT,zT,zT,zT,zT,zT,zT]) rfl (by rfl) (by kernel_rfl) (by rfl) (fun K hK => ?_)
   go_simp
   refine hK _ _ ⟨fun h => absurd h (by decide), ?_⟩
   clear hK K
   try simp only [Act.put, zp]
   refine doneE (by kernel_rfl) ?_ _
   go_wp2
   refine bodyPost_ret (v := .agg #[.bool s, .slice A3 n3 c3]) (by simp [results, Tryz.results144, go_sem, p1, p2]) rfl ⟨A3, n3, c3, rfl, hc3, ?_, ?_⟩
   · exact ((b2.trans (d3.mono (by have := HS1.out; have := HS2.out; omega))).setCell (by have := HS1.out; simp; omega) _).setCell (by have := HS1.out; simp; omega) _
   · exact ((ints_set (ints_set hI3.out (by show w1.heap.size < w2.heap.size; have := HS2.out; omega) 0 _) (by show w1.heap.size < w2.heap.size; have := HS2.out; omega) 1 _).more (by show w.heap.size ≤ w2.heap.size; have := HS1.out; have := HS2.out; omega) (by simp [World.setCell]))
 · have HV := Lib.hid hv
   have HR := Lib.hid hr
   clear hp hv hr
   go_enter Tryz.func144, Tryz.ntmps144
   go_wp2_with fail
   refine (Order_any _ 0 w.heap.size 0 w.heap.size A1 n1 c1 _ I1a A2 n2 c2 _ I2a dig2 dig2 (by omega) (by omega) (1) (by rw [num2, num2]; exact HR.out)).mono ?_
   rintro e wq ⟨rfl, rfl⟩
   clear HR
   go_wp2_with fail
   generalize hw2 : w1.alloc (.cells #[.bool false, .slice none 0 0] 173) = w2 at *
   clear hw2 y0 y1 y2 y3 z0 z1 z2 z3
   try clear hw
   have kD : Keeps w2 w2.drew := fun _ _ => rfl
   have d2 : Below w2.heap.size w2 w2.drew := (Below.refl _ _).drew
   refine region_E (Keeps w2) [8] (m := 9) (L := #[zF,zF,zF,zF,zF,zF,zF,zF,zF]) (by kernel_rfl) (by rfl) (by rfl) ?_
   refine zE 0 #[zT,zF,zF,zF,zF,zF,zF,zF,zF] ?_ rfl ?hy31 ?rest31
   case hy31 => intro w; go_simp; (try with_reducible rfl)
   try simp only [Act.put, zp]
   refine readE (i := 1) (L := #[zT,zT,zF,zF,zF,zF,zF,zF,zF]) (v := .bool s) rfl (by rfl) (by kernel_rfl) (by kernel_rfl) (by kernel_rfl) (fun _ _ _ h => h) (by assumption) (by rfl) ?hyA3 ?restA3
   case hyA3 =>
    intro w' h
    obtain ⟨⟨k1, k2⟩, _⟩ := boxS ((h _ (by have := HS1.out; have := HS2.out; omega)).trans X1)
    go_simp
   try simp only [Act.put, zp]
   refine zE 2 #[zT,zT,zT,zF,zF,zF,zF,zF,zF] ?_ rfl ?hy33 ?rest33
   case hy33 => intro w; go_simp; (try with_reducible rfl)
   try simp only [Act.put, zp]
   refine readE (i := 3) (L := #[zT,zT,zT,zT,zF,zF,zF,zF,zF]) (v := .slice A1 n1 c1) rfl (by rfl) (by kernel_rfl) (by kernel_rfl) (by kernel_rfl) (fun _ _ _ h => h) (by assumption) (by rfl) ?hyB3 ?restB3
   case hyB3 =>
    intro w' h
    obtain ⟨⟨k1, k2⟩, _⟩ := boxS ((h _ (by have := HS1.out; have := HS2.out; omega)).trans X1)
    go_simp
   try simp only [Act.put, zp]
   refine zE 4 #[zT,zT,zT,zT,zT,zF,zF,zF,zF] ?_ rfl ?hy35 ?rest35
   case hy35 => intro w; go_simp; (try with_reducible rfl)
   try simp only [Act.put, zp]
   refine readE (i := 5) (L := #[zT,zT,zT,zT,zT,zT,zF,zF,zF]) (v := .slice A2 n2 c2) rfl (by rfl) (by kernel_rfl) (by kernel_rfl) (by kernel_rfl) (fun _ _ _ h => h) (by assumption) (by rfl) ?hyC3 ?restC3
   case hyC3 =>
    intro w' h
    obtain ⟨⟨k1, k2⟩, _⟩ := boxS ((h _ (by have := HS1.out; have := HS2.out; omega)).trans X2)
    go_simp
   try simp only [Act.put, zp]
   refine stepK (i := 6) (L := #[zT,zT,zT,zT,zT,zT,zT,zF,zF]) rfl (by rfl) (by kernel_rfl) (by rfl) (fun K hK => ?_)
   go_simp
   go_at_call 186
   refine (Minus_any w2.drew 0 w.heap.size 0 w.heap.size A1 n1 c1 _ (I1a.drewN 1) A2 n2 c2 _ (I2a.drewN 1) dig2 dig2 (by show w.heap.size ≤ w2.heap.size; have := HS1.out; have := HS2.out; omega) (by show w.heap.size ≤ w2.heap.size; have := HS1.out; have := HS2.out; omega) (by omega) (by have := canon2_len hle; have := l1.out; have := l2.out; omega) (by rw [num2, num2]; exact hle) v (by rw [num2, num2]; exact HV.out)).mono ?_
   rintro e w3 ⟨A3, n3, c3, rfl, hc3, hB, hI⟩
   have d3 := d2.trans hB
   have hI3 := Lib.hid hI
   have hs3 := hB.size
   clear hB hI
   refine hK _ _ ⟨fun _ _ p hp => d3.block p hp, ?_⟩
   clear hK K
   try simp only [Act.put, zp]
   refine zE 7 #[zT,zT,zT,zT,zT,zT,zT,zT,zF] ?_ rfl ?hy38 ?rest38
   case hy38 => intro w; go_simp; (try with_reducible rfl)
   try simp only [Act.put, zp]
   obtain ⟨⟨p1, p2⟩, p3, p4⟩ := boxS ((d3.block w1.heap.size (by have := HS2.out; omega)).trans X3)
   refine stepK (i := 8) (L := #[zT,zT,zT,zT,zT,zT,zT,zT,zT]) rfl (by rfl) (by kernel_rfl) (by rfl) (fun K hK => ?_)
   go_simp
   refine hK _ _ ⟨fun h => absurd h (by decide), ?_⟩
   clear hK K
   try simp only [Act.put, zp]
   refine doneE (by kernel_rfl) ?_ _
   go_wp2
   refine bodyPost_ret (v := .agg #[.bool s, .slice A3 n3 c3]) (by simp [results, Tryz.results144, go_sem, p1, p2]) rfl ⟨A3, n3, c3, rfl, hc3, ?_, ?_⟩
   · exact ((b2.trans (d3.mono (by have := HS1.out; have := HS2.out; omega))).setCell (by have := HS1.out; simp; omega) _).setCell (by have := HS1.out; simp; omega) _
   · exact ((ints_set (ints_set hI3.out (by show w1.heap.size < w2.heap.size; have := HS2.out; omega) 0 _) (by show w1.heap.size < w2.heap.size; have := HS2.out; omega) 1 _).more (by show w.heap.size ≤ w2.heap.size; have := HS1.out; have := HS2.out; omega) (by simp [World.setCell]))
 · have HV := Lib.hid hv
   have HR := Lib.hid hr
   clear hp hv hr
   go_enter Tryz.func144, Tryz.ntmps144
   go_wp2_with fail
   refine (Order_any _ 0 w.heap.size 0 w.heap.size A1 n1 c1 _ I1a A2 n2 c2 _ I2a dig2 dig2 (by omega) (by omega) (-1) (by rw [num2, num2]; exact HR.out)).mono ?_
   rintro e wq ⟨rfl, rfl⟩
   clear HR
   go_wp2_with fail
   generalize hw2 : w1.alloc (.cells #[.bool false, .slice none 0 0] 173) = w2 at *
   clear hw2 y0 y1 y2 y3 z0 z1 z2 z3
   try clear hw
   have kD : Keeps w2 w2.drew := fun _ _ => rfl
   have d2 : Below w2.heap.size w2 w2.drew := (Below.refl _ _).drew
   refine region_E (Keeps w2) [8] (m := 9) (L := #[zF,zF,zF,zF,zF,zF,zF,zF,zF]) (by kernel_rfl) (by rfl) (by rfl) ?_
   refine zE 0 #[zT,zF,zF,zF,zF,zF,zF,zF,zF] ?_ rfl ?hy40 ?rest40
   case hy40 => intro w; go_simp; (try with_reducible rfl)
   try simp only [Act.put, zp]
   refine readE (i := 1) (L := #[zT,zT,zF,zF,zF,zF,zF,zF,zF]) (v := .bool s) rfl (by rfl) (by kernel_rfl) (by kernel_rfl) (by kernel_rfl) (fun _ _ _ h => h) (by assumption) (by rfl) ?hyA4 ?restA4
   case hyA4 =>
    intro w' h
    obtain ⟨⟨k1, k2⟩, _⟩ := boxS ((h _ (by have := HS1.out; have := HS2.out; omega)).trans X2)
    go_simp
   try simp only [Act.put, zp]
   refine zE 2 #[zT,zT,zT,zF,zF,zF,zF,zF,zF] ?_ rfl ?hy42 ?rest42
   case hy42 => intro w; go_simp; (try with_reducible rfl)
   try simp only [Act.put, zp]
   refine readE (i := 3) (L := #[zT,zT,zT,zT,zF,zF,zF,zF,zF]) (v := .slice A2 n2 c2) rfl (by rfl) (by kernel_rfl) (by kernel_rfl) (by kernel_rfl) (fun _ _ _ h => h) (by assumption) (by rfl) ?hyB4 ?restB4
   case hyB4 =>
    intro w' h
    obtain ⟨⟨k1, k2⟩, _⟩ := boxS ((h _ (by have := HS1.out; have := HS2.out; omega)).trans X2)
    go_simp
   try simp only [Act.put, zp]
   refine zE 4 #[zT,zT,zT,zT,zT,zF,zF,zF,zF] ?_ rfl ?hy44 ?rest44
   case hy44 => intro w; go_simp; (try with_reducible rfl)
   try simp only [Act.put, zp]
   refine readE (i := 5) (L := #[zT,zT,zT,zT,zT,zT,zF,zF,zF]) (v := .slice A1 n1 c1) rfl (by rfl) (by kernel_rfl) (by kernel_rfl) (by kernel_rfl) (fun _ _ _ h => h) (by assumption) (by rfl) ?hyC4 ?restC4
   case hyC4 =>
    intro w' h
    obtain ⟨⟨k1, k2⟩, _⟩ := boxS ((h _ (by have := HS1.out; have := HS2.out; omega)).trans X1)
    go_simp
   try simp only [Act.put, zp]
   refine stepK (i := 6) (L := #[zT,zT,zT,zT,zT,zT,zT,zF,zF]) rfl (by rfl) (by kernel_rfl) (by rfl) (fun K hK => ?_)
   go_simp
   go_at_call 186
   refine (Minus_any w2.drew 0 w.heap.size 0 w.heap.size A2 n2 c2 _ (I2a.drewN 1) A1 n1 c1 _ (I1a.drewN 1) dig2 dig2 (by show w.heap.size ≤ w2.heap.size; have := HS1.out; have := HS2.out; omega) (by show w.heap.size ≤ w2.heap.size; have := HS1.out; have := HS2.out; omega) (by omega) (by have := canon2_len hle; have := l1.out; have := l2.out; omega) (by rw [num2, num2]; exact hle) v (by rw [num2, num2]; exact HV.out)).mono ?_
   rintro e w3 ⟨A3, n3, c3, rfl, hc3, hB, hI⟩
   have d3 := d2.trans hB
   have hI3 := Lib.hid hI
   have hs3 := hB.size
   clear hB hI
   refine hK _ _ ⟨fun _ _ p hp => d3.block p hp, ?_⟩
   clear hK K
   try simp only [Act.put, zp]
   refine zE 7 #[zT,zT,zT,zT,zT,zT,zT,zT,zF] ?_ rfl ?hy47 ?rest47
   case hy47 => intro w; go_simp; (try with_reducible rfl)
   try simp only [Act.put, zp]
   obtain ⟨⟨p1, p2⟩, p3, p4⟩ := boxS ((d3.block w1.heap.size (by have := HS2.out; omega)).trans X3)
   refine stepK (i := 8) (L := #[zT,zT,zT,zT,zT,zT,zT,zT,zT]) rfl (by rfl) (by kernel_rfl) (by rfl) (fun K hK => ?_)
   go_simp
   refine hK _ _ ⟨fun h => absurd h (by decide), ?_⟩
   clear hK K
   try simp only [Act.put, zp]
   refine doneE (by kernel_rfl) ?_ _
   go_wp2
   refine bodyPost_ret (v := .agg #[.bool s, .slice A3 n3 c3]) (by simp [results, Tryz.results144, go_sem, p1, p2]) rfl ⟨A3, n3, c3, rfl, hc3, ?_, ?_⟩
   · exact ((b2.trans (d3.mono (by have := HS1.out; have := HS2.out; omega))).setCell (by have := HS1.out; simp; omega) _).setCell (by have := HS1.out; simp; omega) _
   · exact ((ints_set (ints_set hI3.out (by show w1.heap.size < w2.heap.size; have := HS2.out; omega) 0 _) (by show w1.heap.size < w2.heap.size; have := HS2.out; omega) 1 _).more (by show w.heap.size ≤ w2.heap.size; have := HS1.out; have := HS2.out; omega) (by simp [World.setCell]))
end Dy
end Go.Proofs.YtmbppgjhdcmckaaGreatDoor