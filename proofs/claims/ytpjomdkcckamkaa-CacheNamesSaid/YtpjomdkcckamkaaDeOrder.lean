/- DescOrder: how often one is there; the walk. -/
import Derived.Test.YtpjomdkcckamkaaDeTotal
namespace Go.Proofs.Ytpjomdkcckamkaa
open Go.RowKit Go.Sort Go.Shelf
namespace De
theorem Descs.gr {w w' : World} {lo hi : Nat} {A : Option Addr} {n : Nat} {xs : List (Int × Int)} (h : Descs w lo hi A n xs) (hg : Gr w w') (hB : hi ≤ w.heap.size) : Descs w' lo hi A n xs := h.below hg.below hB
theorem count_snoc (xs : List (Int × Int)) {k : Nat} (hk : k < xs.length) (d : Int × Int) : (xs.take (k + 1)).count d = (xs.take k).count d + if xs[k]?.getD (0, 0) = d then 1 else 0 := by
  rw [List.take_succ_eq_append_getElem hk, List.count_append, List.getElem?_eq_getElem hk]
  simp only [Option.getD_some, List.count_singleton]
  by_cases h : xs[k] = d <;> simp [h]

set_option maxHeartbeats 800000 in
/-- headcountlaw07.count. -/
theorem count_g (w : World) (lo hi : Nat) (A : Option Addr) (n c : Nat) (xs : List (Int × Int)) (hX : Descs w lo hi A n xs) (hhi : hi ≤ w.heap.size) (x y : Int) (r : Nat) (hr : xs.count (x, y) = r) :
    Calls Try.prog 21 #[.slice A n c, .agg #[.int .i64 x, .int .i64 y]] w fun e w' => e = .returned (.int .i64 r) ∧ Gr w w' := by
  have HR := Lib.hid hr
  have HL := Lib.hid hX.len
  have hbig := hX.big
  clear hr
  go_enter Try.func21, Try.ntmps21
  go_wp2
  go_loopw [5, 6] (fun cv iv wr => ∃ k m : Nat, iv = .int .i64 k ∧ cv = .int .i64 m ∧ k ≤ n ∧ m ≤ k ∧ Hid ((xs.take k).count (x, y) = m) ∧ Gr (w.alloc (.cells #[.int .i64 x, .int .i64 y] 29)) wr) (fun _ iv _ => n - (intOf iv).toNat)
  case atStart => exact ⟨0, 0, rfl, rfl, Nat.zero_le _, Nat.le_refl _, by simp [Hid], Gr.refl _⟩
  case round =>
    obtain ⟨k, m, rfl, rfl, hk, hmk, hcnt, hg⟩ := hrel
    by_cases hlt : k < n
    · have hD := (hX.alloc hhi (.cells #[.int .i64 x, .int .i64 y] 29)).gr hg (by simp; omega)
      obtain ⟨b, off, rfl, h1, h2, hc⟩ := hD.row (by omega)
      obtain ⟨⟨g1, _⟩, g3, _⟩ := hc k hlt
      have q1 : wr.cell? ⟨w.heap.size, 0, none⟩ = some (.int .i64 x) := Below.keepCell hg.below (by simp) (by simp [go_sem])
      have q2 : wr.cell? ⟨w.heap.size, 1, none⟩ = some (.int .i64 y) := Below.keepCell hg.below (by simp) (by simp [go_sem])
      have hsn := count_snoc xs (by rw [HL.out]; exact hlt) (x, y)
      have hkn : (k : Int) < n := by omega
      have hk0 : (0 : Int) ≤ k := by omega
      clear hc hD
      generalize hz : xs[k]?.getD (0, 0) = z at g1 g3 hsn
      obtain ⟨z1, z2⟩ := z
      have hql := fun W => eqlD W z1 z2 x y
      have hgd := guardD
      rw [hcnt.out] at hsn
      clear hz
      by_cases hxy : z1 = x ∧ z2 = y
      · obtain ⟨rfl, rfl⟩ := hxy
        rw [show (z1 == z1 && z2 == z2) = true by simp] at hql
        rw [if_pos rfl] at hsn
        have HS := Lib.hid hsn
        clear hsn hcnt
        go_wp2
        go_quiet (fail)
        go_wp2
        go_roundw
        case rel => exact ⟨k + 1, m + 1, by go_num, by go_num, by omega, by omega, HS, hg.drewN _⟩
        case measure => simp [intOf]; omega
      · have hf : (z1 == x && z2 == y) = false := by
          by_cases e1 : z1 = x
          · have e2 : z2 ≠ y := fun h => hxy ⟨e1, h⟩
            simp [e2]
          · simp [e1]
        rw [hf] at hql
        rw [if_neg (fun e => hxy (Prod.mk.inj e)), Nat.add_zero] at hsn
        have HS := Lib.hid hsn
        clear hsn hcnt hf
        go_wp2
        go_quiet (fail)
        go_wp2
        go_roundw
        case rel => exact ⟨k + 1, m, by go_num, rfl, by omega, by omega, HS, hg.drewN _⟩
        case measure => simp [intOf]; omega
    · obtain rfl : k = n := by omega
      have hm := hcnt.out
      rw [List.take_of_length_le (by rw [HL.out]; exact Nat.le_refl _), HR.out] at hm
      subst hm
      clear hcnt
      go_wp2
      go_ret
      exact ⟨rfl, ((Gr.refl w).alloc _).trans hg⟩

theorem srt_next {xs : List (Int × Int)} (h : Srt xs) {j : Nat} (hj : j + 1 < xs.length) (hn : ltB (xs[j]?.getD (0, 0)) (xs[j + 1]?.getD (0, 0)) = false) : xs[j]?.getD (0, 0) = xs[j + 1]?.getD (0, 0) := by
  rw [List.getElem?_eq_getElem (by omega), List.getElem?_eq_getElem hj] at *
  exact lt_tot hn ((List.pairwise_iff_getElem.1 h) j (j + 1) (by omega) hj (by omega))

theorem len_of {w : World} {lo hi : Nat} {A : Option Addr} {n : Nat} {xs : List (Int × Int)} (h : Descs w lo hi A n xs) (k : Nat) : k < n → k < xs.length := by rw [h.len]; exact id

set_option maxHeartbeats 6400000 in
set_option maxRecDepth 100000 in
theorem descOrder_any (w : World) (A : Option Addr) (n c : Nat) (xs : List (Int × Int)) (hX : Descs w 0 w.heap.size A n xs) :
    Calls Try.prog 6 #[.slice A n c] w fun e w' => e = .returned (.bool true) ∧ Below w.heap.size w w' := by
  have HL := Lib.hid hX.len
  have hbig := hX.big
  obtain ⟨r, hr⟩ : ∃ r, check xs = r := ⟨_, rfl⟩
  by_cases h0 : r = 0
  · subst h0
    have HR := Lib.hid hr
    clear hr
    go_enter Try.func6, Try.ntmps6
    go_wp2_with fail
    refine (alive_p _).mono ?_
    rintro e w1 ⟨rfl, hb1, hp1⟩
    have hs1 := hb1.size
    have hX1 := hX.below hb1 (Nat.le_refl _)
    go_wp2_with fail
    refine (Order_ok _ _ _ A n c xs hX1 hs1 hp1 HR.out).mono ?_
    rintro e w2 ⟨A2, c2, rb, rfl, hc2, hb2, hrb, hrb2, hD2⟩
    have hs2 := hb2.size
    have hX2 := hX1.below hb2 hs1
    have hc := hb1.trans (hb2.mono hs1)
    have hnn : ((n : Int) != (n : Int)) = false := by simp
    have HLS := Lib.hid hD2.len
    clear hb1 hb2 hX1
    go_wp2
    go_loopw [6, 7, 8] (fun iv _ _ wr => ∃ k : Nat, iv = .int .i64 k ∧ k ≤ n ∧ Gr w2 wr) (fun iv _ _ _ => n - (intOf iv).toNat)
    case atStart => exact ⟨0, rfl, Nat.zero_le _, Gr.refl _⟩
    case round =>
      obtain ⟨k, rfl, hk, hg⟩ := hrel
      have hsr := hg.below.size
      by_cases hlt : k < n
      · obtain ⟨b, off, rfl, h1, h2, hcell⟩ := (hD2.gr hg (by omega)).row (by omega)
        obtain rfl : rb = b := by omega
        obtain ⟨⟨g1, _⟩, g3, _⟩ := hcell k hlt
        have hXr : Hid (∀ m os, Descs (grow (wr.drewN m) os) 0 w.heap.size A n xs) := fun m os => (hX2.gr hg (by omega)).gr ⟨m, os, rfl⟩ (by omega)
        have hDr : Hid (∀ m os, Descs (grow (wr.drewN m) os) rb (rb + 1) (some ⟨rb, off, none⟩) n (srt xs)) := fun m os => (hD2.gr hg (by omega)).gr ⟨m, os, rfl⟩ (by omega)
        have hcnt : Hid ((srt xs).count ((srt xs)[k]?.getD (0, 0)) = xs.count ((srt xs)[k]?.getD (0, 0))) := (srt_perm xs).count_eq _
        have hk0 : (0 : Int) ≤ k := by omega
        have mixed : Try.prog.follows .mixedOrders = true := by kernel_rfl
        have hkn : (k : Int) < n := by omega
        generalize hz : (srt xs)[k]?.getD (0, 0) = z at g1 g3 hcnt
        obtain ⟨z1, z2⟩ := z
        obtain ⟨q, hq⟩ : ∃ q, xs.count (z1, z2) = q := ⟨_, rfl⟩
        have HQ := Lib.hid hq
        have HQ2 := Lib.hid (hcnt.out.trans hq)
        have HZ := Lib.hid hz
        have f1 : ∀ m os, (grow (wr.drewN m) os).cell? ⟨rb, off + k * 2, none⟩ = some (.int .i64 z1) := fun m os => cell_grown (by show rb < wr.heap.size; omega) g1 m os
        have f2 : ∀ m os, (grow (wr.drewN m) os).cell? ⟨rb, off + k * 2 + 1, none⟩ = some (.int .i64 z2) := fun m os => cell_grown (by show rb < wr.heap.size; omega) g3 m os
        have hqq : ((q : Int) != (q : Int)) = false := by simp
        clear hq hz hcnt hcell
        go_wp2_with fail
        go_quiet_grown ((go_at_call 21; first
          | with_reducible exact Calls.gr (count_g _ _ _ _ n _ _ (hDr.out _ _) (by simp; omega) z1 z2 q HQ2.out)
          | with_reducible exact Calls.gr (count_g _ _ _ _ n _ _ (hXr.out _ _) (by simp; omega) z1 z2 q HQ.out)))
        dsimp only
        generalize hw : grow (wr.drewN nq) osq = wr2
        have hg2 : Gr wr wr2 := ⟨nq, osq, hw.symm⟩
        have hg3 := hg.trans hg2
        have hsr2 := hg3.below.size
        have k1 := Below.keepCell hg2.below (show rb < wr.heap.size by omega) g1
        have k2 := Below.keepCell hg2.below (show rb < wr.heap.size by omega) g3
        clear hw f1 f2 g1 g3 HQ HQ2 hXr hDr hg hg2 hsr
        rcases k with _ | j
        · go_wp2
          go_roundw
          case rel => exact ⟨1, rfl, by omega, hg3⟩
          case measure => simp [intOf]; omega
        · have ew : IntKind.i64.wrap ((j : Int) + 1 - 1) = (j : Int) := by rw [show (j : Int) + 1 - 1 = j by omega]; exact IntWalk.i64_in _ (by omega)
          have ew2 : IntKind.i64.wrap (j : Int) = (j : Int) := IntWalk.i64_in _ (by omega)
          obtain ⟨b, off', e, _, _, hcell⟩ := (hD2.gr hg3 (by omega)).row (by omega)
          injection e with e
          injection e with e1 e2
          subst e1
          subst e2
          obtain ⟨⟨g1, _⟩, g3, _⟩ := hcell j (by omega)
          have hso := srt_next (srt_srt xs) (j := j) (by rw [HLS.out]; omega)
          generalize hy : (srt xs)[j]?.getD (0, 0) = y at g1 g3 hso
          obtain ⟨y1, y2⟩ := y
          rw [HZ.out] at hso
          have f1 : ∀ m os, (grow (wr2.drewN m) os).cell? ⟨rb, off + (j + 1) * 2, none⟩ = some (.int .i64 z1) := fun m os => cell_grown (by show rb < wr2.heap.size; omega) k1 m os
          have f2 : ∀ m os, (grow (wr2.drewN m) os).cell? ⟨rb, off + (j + 1) * 2 + 1, none⟩ = some (.int .i64 z2) := fun m os => cell_grown (by show rb < wr2.heap.size; omega) k2 m os
          have f3 : ∀ m os, (grow (wr2.drewN m) os).cell? ⟨rb, off + j * 2, none⟩ = some (.int .i64 y1) := fun m os => cell_grown (by show rb < wr2.heap.size; omega) g1 m os
          have f4 : ∀ m os, (grow (wr2.drewN m) os).cell? ⟨rb, off + j * 2 + 1, none⟩ = some (.int .i64 y2) := fun m os => cell_grown (by show rb < wr2.heap.size; omega) g3 m os
          have hm1 : may (y1, y2) = true := by
            rw [← hy, List.getElem?_eq_getElem (by rw [HLS.out]; omega)]
            exact List.all_eq_true.1 (check_mem HR.out).2 _ (srt_mem.1 (List.getElem_mem _))
          have hm2 : may (z1, z2) = true := by
            rw [← HZ.out, List.getElem?_eq_getElem (by rw [HLS.out]; omega)]
            exact List.all_eq_true.1 (check_mem HR.out).2 _ (srt_mem.1 (List.getElem_mem _))
          have hfr : fr (y1, y2) (z1, z2) = (ltB (y1, y2) (z1, z2), 0) := by simp [fr, hm1, hm2]
          have HSO := Lib.hid hso
          have HFR := Lib.hid hfr
          have hj0 : (0 : Int) ≤ j := by omega
          have hjn : (j : Int) < n := by omega
          have hj1 : (j : Int) + 1 < n := by omega
          have hj2 : (0 : Int) ≤ (j : Int) + 1 := by omega
          have hj3 : ((j : Int) + 1).toNat = j + 1 := by omega
          clear hso hfr hm1 hm2 hy hcell HZ
          cases hlt2 : ltB (y1, y2) (z1, z2) with
          | true =>
            have hfr := HFR.out
            rw [hlt2] at hfr
            have HF := Lib.hid hfr
            clear hfr HFR hlt2 HSO
            go_wp2_with fail
            go_quiet_grown ((go_at_call 22; with_reducible exact Calls.gr (Fresher_g _ y1 y2 z1 z2 true 0 HF.out)))
            dsimp only
            generalize hw : grow (wr2.drewN nq) osq = wr3
            have hg4 := hg3.trans ⟨nq, osq, hw.symm⟩
            clear hw f1 f2 f3 f4 k1 k2 g1 g3 HF hg3
            go_wp2
            go_quiet (fail)
            go_wp2
            go_roundw
            case rel => exact ⟨j + 1 + 1, by go_num, by omega, hg4.drewN _⟩
            case measure => simp [intOf]; omega
          | false =>
            have hfr := HFR.out
            rw [hlt2] at hfr
            have HF := Lib.hid hfr
            have hyz := HSO.out hlt2
            obtain ⟨rfl, rfl⟩ := Prod.mk.inj hyz
            clear hfr HFR hlt2 HSO hyz
            go_wp2_with fail
            go_quiet_grown ((go_at_call 22; with_reducible exact Calls.gr (Fresher_g _ y1 y2 y1 y2 false 0 HF.out)))
            dsimp only
            generalize hw : grow (wr2.drewN nq) osq = wr3
            have hg4 : Gr wr2 wr3 := ⟨nq, osq, hw.symm⟩
            have hg5 := hg3.trans hg4
            have l1 := Below.keepCell hg4.below (show rb < wr2.heap.size by omega) k1
            have l2 := Below.keepCell hg4.below (show rb < wr2.heap.size by omega) k2
            have l3 := Below.keepCell hg4.below (show rb < wr2.heap.size by omega) g1
            have l4 := Below.keepCell hg4.below (show rb < wr2.heap.size by omega) g3
            have hne : ∀ W, (binOp .neq 29 (.agg #[.int .i64 y1, .int .i64 y2]) (.agg #[.int .i64 y1, .int .i64 y2])).run Try.prog W = .ok (.bool false) W := fun W => by rw [neqD]; simp
            have hgd := guardD
            clear hw f1 f2 f3 f4 k1 k2 g1 g3 HF hg3 hg4
            go_wp2
            go_quiet (fail)
            go_wp2
            go_roundw
            case rel => exact ⟨j + 1 + 1, by go_num, by omega, hg5.drewN _⟩
            case measure => simp [intOf]; omega
      · obtain rfl : k = n := by omega
        clear hnn
        go_wp2
        go_ret
        exact ⟨rfl, hc.trans (hg.below.mono (by omega))⟩
  · have hne : (r == 0) = false := by simpa using h0
    have hne2 : (r != 0) = true := by simpa using h0
    have hrr : (r == r) = true := by simp
    have HR := Lib.hid hr
    clear hr h0
    go_enter Try.func6, Try.ntmps6
    go_wp2_with fail
    refine (alive_p _).mono ?_
    rintro e w1 ⟨rfl, hb1, hp1⟩
    have hs1 := hb1.size
    have hX1 := hX.below hb1 (Nat.le_refl _)
    go_wp2_with fail
    refine (Order_bad _ _ _ A n c xs hX1 hs1 hp1 r HR.out hne).mono ?_
    rintro e w2 ⟨rfl, hb2⟩
    have hs2 := hb2.size
    have hX2 := hX1.below hb2 hs1
    have hc := hb1.trans (hb2.mono hs1)
    clear hb1 hb2 hX1
    go_wp2_with fail
    refine (Check_any _ _ _ A n c xs hX2 (by omega) (by omega) r HR.out).mono ?_
    rintro e w3 ⟨rfl, hb3⟩
    have hc3 := hc.trans (hb3.mono (by omega))
    clear hb3
    go_wp2
    go_ret
    exact ⟨rfl, hc3⟩
theorem descOrder_row (w : World) (A : Option Addr) (n c : Nat) (xs : List (Int × Int)) (hX : Descs w 0 w.heap.size A n xs) (_ : n ≤ c) :
    Calls Try.prog 6 #[.slice A n c] w fun e w' => e = .returned (.bool true) ∧ Below w.heap.size w w' := descOrder_any w A n c xs hX
end De
end Go.Proofs.Ytpjomdkcckamkaa
