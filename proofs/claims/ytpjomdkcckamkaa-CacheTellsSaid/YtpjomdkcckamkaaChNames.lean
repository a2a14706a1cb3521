/- ChooseNames: the walk. -/
import Derived.Test.YtpjomdkcckamkaaChOnce
namespace Go.Proofs.Ytpjomdkcckamkaa
open Go.RowKit Go.Sort Go.Shelf
namespace De
theorem u64_zeros {n : Nat} : ∀ x ∈ List.replicate n (0 : Int), IntKind.u64.min ≤ x ∧ x ≤ IntKind.u64.max := fun x hx => by
  rw [(List.mem_replicate.1 hx).2]
  exact ⟨by decide, by decide +kernel⟩
def zc (n : Nat) : Array Value := madeCells (Value.int .u64 0).cells n
theorem made_u64 (n : Nat) : (zc n).toList = (List.replicate n (0 : Int)).map (Value.int .u64) := by
  apply List.ext_getElem
  · simp [zc, madeCells]
  · intro j h1 h2
    simp [zc, madeCells, Value.cells, Nat.mod_one]
theorem zi0 (w : World) (n : Nat) (hn : n ≤ 1000000) : Ints (w.alloc (.cells (zc n) 63)) 0 (w.alloc (.cells (zc n) 63)).heap.size .u64 (some ⟨w.heap.size, 0, none⟩) n (List.replicate n 0) :=
  (ints_newg w .u64 (zc n) 63 n _ (List.replicate n 0) rfl (by simp) (made_u64 n) u64_zeros (by omega)).more (Nat.zero_le _) (by simp)
theorem zi1 {w u1 : World} {n : Nat} (hn : n ≤ 1000000) (hb1 : Below (w.alloc (.cells (zc n) 63)).drew.heap.size (w.alloc (.cells (zc n) 63)).drew u1) : Ints u1 0 u1.heap.size .u64 (some ⟨w.heap.size, 0, none⟩) n (List.replicate n 0) :=
  (((zi0 w n hn).drewN 1).below hb1 (Nat.le_refl _)).more (Nat.le_refl _) hb1.size
theorem make_u64 (n : Nat) (hn : n ≤ 1000000) (W : World) : (Instr.makeSlice 66 (.int .i64 n) (.int .i64 n)).run Try.prog W = .ok (.slice (some ⟨W.heap.size, 0, none⟩) n n) (W.alloc (.cells (zc n) 63)) := by
  obtain ⟨i0, hi0, hz0, hz1, hz2⟩ := info_parts info63
  have := run_make (P := Try.prog) W 66 63 i0 (.int .u64 0) Try.underlying66 hi0 hz0 .i64 .i64 n n (by omega) (Int.le_refl _) (by rw [hz2]; omega) (by omega)
  rw [hz1, Int.toNat_natCast, Nat.mul_one] at this
  exact this
def ch213 : List (Int × Int) := [(2, 9), (1, 8), (3, 8)]
def ch11 : List (Int × Int) := [(1, 8), (1, 8)]
set_option maxHeartbeats 6400000 in
set_option maxRecDepth 100000 in
theorem chooseNames_any (w : World) : Calls Try.prog 13 #[] w fun e w' => e = .returned (.bool true) ∧ Below w.heap.size w w' := by
  have hm65 := make_u64 65 (by decide)
  have hm64 := make_u64 64 (by decide)
  rw [show ((65 : Nat) : Int) = 65 from rfl] at hm65
  rw [show ((64 : Nat) : Int) = 64 from rfl] at hm64
  have e1 := Lib.hid (show oneR 0 1 [] 5 = ((0, 0), 6) by decide +kernel)
  have e2 := Lib.hid (show someC 0 3 ch3 (List.replicate 65 0) = 4 by decide +kernel)
  have f2 := Lib.hid (show someL 0 3 ch3 (List.replicate 65 0) = [] by decide +kernel)
  have e3 := Lib.hid (show someC 0 3 ch3 (List.replicate 64 0) = 0 by decide +kernel)
  have f3 := Lib.hid (show someL 0 3 ch3 (List.replicate 64 0) = ch213 by decide +kernel)
  have e4 := Lib.hid (show drawsC 0 3 ch3 ch11 = 6 by decide +kernel)
  have e5 := Lib.hid (show oneR 0 0 [] 0 = ((0, 0), 8) by decide +kernel)
  have e6 := Lib.hid (show oneR 0 3 ch3 18446744073709551615 = ((2, 9), 0) by decide +kernel)
  have e7 := Lib.hid (show someC 0 1 [] [7] = 0 by decide +kernel)
  have f7 := Lib.hid (show someL 0 1 [] [7] = [] by decide +kernel)
  have hids : Hid (idsS ch213 = ⟨#[50, 49, 51]⟩) := by rw [Hid]; rfl
  have mixed : Try.prog.follows .mixedOrders = true := by kernel_rfl
  go_enter Try.func13, Try.ntmps13
  go_wp2_with fail
  refine (One_any _ 0 1 none 0 0 [] (Descs.nil_ ..) (Nat.le_refl _) 5 (by decide) (by decide +kernel) 0 0 6 e1.out).mono ?_
  rintro e w1 ⟨rfl, hc, hp1⟩
  have hs1 := hc.size
  go_wp2_with fail
  have hc := hc.alloc (by omega) (.cells #[.int .i64 0, .int .i64 0] 29)
  obtain ⟨w2, hw2⟩ : ∃ w2, w1.alloc (.cells #[.int .i64 0, .int .i64 0] 29) = w2 := ⟨_, rfl⟩
  have hs2 : w1.heap.size + 1 ≤ w2.heap.size := by rw [← hw2]; simp
  rw [hw2] at hc ⊢
  clear hw2

  go_region_held3 (fun _ => True) (first | trivial | fail)
    (first
      | (go_at_call 46; refine Calls.mono (three_any _) ?_; rintro e u1 ⟨g1, rfl, hz1, hb1, hD1⟩; have hbA : Below w2.heap.size w2 u1 := Below.trans (by repeat (first | exact Below.refl _ _ | assumption | (refine Below.drew ?_) | (refine Below.alloc ?_ (by first | omega | exact Nat.le_refl _ | (simp; done) | (simp; omega)) _))) (hb1.mono (by first | omega | exact Nat.le_refl _ | (simp; done) | (simp; omega))); have hsA := hbA.size)
      | (go_at_call 45; refine Calls.mono (Some_any _ 0 3 _ 3 3 ch3 ?_ (Nat.le_refl _) _ 65 65 (List.replicate 65 0) ?_ 4 e2.out) ?_; (first | exact (hD1.more (Nat.zero_le _) (Nat.le_refl _)) | exact ((hD1.alloc (Nat.le_refl _) _).more (Nat.zero_le _) (by first | omega | exact Nat.le_refl _ | (simp; done) | (simp; omega)))); (first | exact zi0 _ 65 (by decide) | exact zi1 (by decide) hb1); rintro e w3 ⟨A3, n3, c3, r3, rfl, hc3, hb3, hr3, hr3', L3⟩; have hb3 : Below w2.heap.size w2 w3 := Below.trans (by repeat (first | exact Below.refl _ _ | assumption | (refine Below.drew ?_) | (refine Below.alloc ?_ (by first | omega | exact Nat.le_refl _ | (simp; done) | (simp; omega)) _))) (hb3.mono (by first | omega | exact Nat.le_refl _ | (simp; done) | (simp; omega))); have hs3 := hb3.size)
      | (go_at_call 46; fail))
  all_goals rw [f2.out] at L3
  all_goals have hc := hc.trans (hb3.mono (by omega))

  all_goals obtain rfl : n3 = 0 := by rw [← L3.len]; rfl
  all_goals clear L3 hz1 hb1 hD1 hbA hsA
  all_goals go_wp2_with fail
  all_goals
    go_region_held3 (fun _ => True) (first | trivial | fail)
      (first
        | (go_at_call 46; refine Calls.mono (three_any _) ?_; rintro e u1 ⟨g1, rfl, hz1, hb1, hD1⟩; have hbA : Below w3.heap.size w3 u1 := Below.trans (by repeat (first | exact Below.refl _ _ | assumption | (refine Below.drew ?_) | (refine Below.alloc ?_ (by first | omega | exact Nat.le_refl _ | (simp; done) | (simp; omega)) _))) (hb1.mono (by first | omega | exact Nat.le_refl _ | (simp; done) | (simp; omega))); have hsA := hbA.size)
        | (go_at_call 45; refine Calls.mono (Some_any _ 0 3 _ 3 3 ch3 ?_ (Nat.le_refl _) _ 64 64 (List.replicate 64 0) ?_ 0 e3.out) ?_; (first | exact (hD1.more (Nat.zero_le _) (Nat.le_refl _)) | exact ((hD1.alloc (Nat.le_refl _) _).more (Nat.zero_le _) (by first | omega | exact Nat.le_refl _ | (simp; done) | (simp; omega)))); (first | exact zi0 _ 64 (by decide) | exact zi1 (by decide) hb1); rintro e w4 ⟨A4, n4, c4, r4, rfl, hc4, hb3, hr4, hr4', L4⟩; have hb4 : Below w3.heap.size w3 w4 := Below.trans (by repeat (first | exact Below.refl _ _ | assumption | (refine Below.drew ?_) | (refine Below.alloc ?_ (by first | omega | exact Nat.le_refl _ | (simp; done) | (simp; omega)) _))) (hb3.mono (by first | omega | exact Nat.le_refl _ | (simp; done) | (simp; omega))); have hs4 := hb4.size)
        | (go_at_call 46; fail))
    all_goals rw [f3.out] at L4
    all_goals have hc := hc.trans (hb4.mono (by omega))

    all_goals obtain rfl : n4 = 3 := by rw [← L4.len]; rfl
    all_goals clear hz1 hb1 hD1 hbA hsA
    all_goals go_wp2_with fail
    all_goals
      refine (three_any _).mono ?_
      rintro e w5 ⟨g5, rfl, hs5, hb5, hD5⟩
      have hc := hc.trans (hb5.mono (by omega))
      have L := L4.below hb5 (by omega)
      clear hb5 L4
      go_wp2_with fail
      refine (Draws_any _ 0 3 _ 3 3 ch3 ((hD5.alloc (Nat.le_refl _) _).more (Nat.zero_le _) (by simp)) (Nat.le_refl _) _ 2 2 ch11 (descs_newg w5 _ 29 2 _ ch11 rfl rfl (by rfl) (rng_of (by decide)) (by decide)) 6 e4.out).mono ?_
      rintro e w6 ⟨A6, n6, c6, rfl, hc6, hb6, hp6, hI6⟩
      have hs6 := hb6.size
      simp at hs6
      have hc := (hc.alloc (by omega) _).trans (hb6.mono (by simp; omega))
      have L := (L.alloc (by omega) _).below hb6 (by simp; omega)
      clear hb6 hD5 hI6
      go_wp2_with fail
      refine (One_any _ 0 0 none 0 0 [] (Descs.nil_ ..) (Nat.le_refl _) 0 (by decide) (by decide +kernel) 0 0 8 e5.out).mono ?_
      rintro e w7 ⟨rfl, hb7, hp7⟩
      have hs7 := hb7.size
      have hc := hc.trans (hb7.mono (by omega))
      have L := L.below hb7 (by omega)
      clear hb7
      go_wp2_with fail
      have hc := hc.alloc (by omega) (.cells #[.int .i64 0, .int .i64 0] 29)
      have L := L.alloc (by omega) (.cells #[.int .i64 0, .int .i64 0] 29)
      refine (three_any _).mono ?_
      rintro e w8 ⟨g8, rfl, hs8, hb8, hD8⟩
      simp at hs8
      have hc := hc.trans (hb8.mono (by simp; omega))
      have L := L.below hb8 (by simp; omega)
      clear hb8
      go_wp2_with fail
      refine (One_any _ 0 3 _ 3 3 ch3 (hD8.more (Nat.zero_le _) (Nat.le_refl _)) (Nat.le_refl _) 18446744073709551615 (by decide) (by decide +kernel) 2 9 0 e6.out).mono ?_
      rintro e w9 ⟨rfl, hb9, hp9⟩
      have hs9 := hb9.size
      have hc := (hc.trans (hb9.mono (by omega))).alloc (by omega) (.cells #[.int .i64 2, .int .i64 9] 29)
      have L := (L.below hb9 (by omega)).alloc (by omega) (.cells #[.int .i64 2, .int .i64 9] 29)
      have G := heap_newg w9 (.cells #[.int .i64 2, .int .i64 9] 29) _ rfl
      clear hb9 hD8
      go_wp2_with fail
      refine (Some_any _ 0 1 none 0 0 [] (Descs.nil_ ..) (Nat.le_refl _) _ 1 1 [7] ((ints_newg _ .u64 _ _ 1 _ [7] (by simp) rfl (by rfl) (u64s_ok (by decide +kernel)) (by decide)).more (Nat.zero_le _) (by simp)) 0 e7.out).mono ?_
      rintro e wa ⟨Aa, na, ca, ra, rfl, hca, hba, _, _, hDa⟩
      rw [f7.out] at hDa
      obtain rfl : na = 0 := by rw [← hDa.len]; rfl
      have hsa := hba.size
      simp at hsa
      have hc := (hc.alloc (by simp; omega) _).trans (hba.mono (by simp; omega))
      have L := (L.alloc (by simp; omega) _).below hba (by simp; omega)
      have G := Below.heapOf hba (by simp; omega) (heapAlloc _ G)
      clear hba hDa
      go_wp2_with fail
      refine (aliveH_p _).mono ?_
      rintro e wb ⟨rfl, hbb, hpb⟩
      have hsb := hbb.size
      have hc := hc.trans (hbb.mono (by omega))
      have L := L.below hbb (by omega)
      have G := Below.heapOf hbb (by omega) G
      clear hbb
      go_wp2_with fail
      refine (ids_any wb _ _ _ 3 c4 ch213 L (by omega) (by decide) (by decide)).mono ?_
      rintro e wc ⟨rfl, hbc⟩
      rw [hids.out]
      have hsc := hbc.size
      have hc := hc.trans (hbc.mono (by omega))
      have G := Below.heapOf hbc (by omega) G
      obtain ⟨⟨k1, k2⟩, _⟩ := cells2 G
      clear hbc L G
      go_wp2
      go_ret
      exact ⟨rfl, hc⟩
theorem chooseNames_row (w : World) : Calls Try.prog 13 #[] w fun e w' => e = .returned (.bool true) ∧ Below w.heap.size w w' := chooseNames_any w
end De
end Go.Proofs.Ytpjomdkcckamkaa
