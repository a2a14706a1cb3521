/- The best ones of other nodes; whether a cache may be: walks. -/
import Derived.Test.YtpjomdkcckamkaaCaWalks2
namespace Go.Proofs.Ytpjomdkcckamkaa
open Go.RowKit Go.Sort Go.Shelf
namespace De
theorem catN_wf {xs : Nat → List (Int × Int)} : ∀ {k : Nat}, (∀ j, j < k → ∀ x ∈ xs j, Rng x) → ∀ x ∈ catN xs k, Rng x
  | 0, _, x, hx => by simp [catN] at hx
  | k + 1, h, x, hx => by
    rcases List.mem_append.1 hx with h1 | h1
    · exact catN_wf (fun j hj => h j (by omega)) x h1
    · exact h k (by omega) x h1
theorem exact_ne {w' : World} {A : Option Addr} {n : Nat} {xs : List (Int × Int)} {base kb : Nat} (h : Descs w' base w'.heap.size A n xs) (h0 : 0 < w'.heap.size) (hk : 0 < kb) (hkb : kb < base) : ∃ rb, (0 < n → base ≤ rb) ∧ rb < w'.heap.size ∧ kb ≠ rb ∧ Descs w' rb (rb + 1) A n xs := by
  by_cases hn : 0 < n
  · obtain ⟨rb, h1, h2, h3⟩ := h.exact (Nat.le_refl _) h0
    exact ⟨rb, fun _ => (h2 hn).1, h1, by have := (h2 hn).1; omega, h3⟩
  · obtain rfl : n = 0 := by omega
    have := h.zero rfl
    subst this
    exact ⟨0, fun h => absurd h (by omega), h0, by omega, Descs.nil_ ..⟩

set_option maxHeartbeats 800000 in
/-- cache.best. -/
theorem kbest_any (w : World) (h0 : 0 < w.heap.size) (own cap : Int) (A0 : Option Addr) (n0 c0 : Nat) (g k : Nat) (A : Nat → Option Addr) (n c : Nat → Nat) (xs : Nat → List (Int × Int)) (hg : g < w.heap.size) (hL : ∀ j, j < k → w.cell? ⟨g, j, none⟩ = some (.slice (A j) (n j) (c j)))
    (hD : ∀ j, j < k → Descs w 0 w.heap.size (A j) (n j) (xs j)) (hk : k ≤ 1000) (hb : sumN n k ≤ 1000000) (r : Int) (hr : check (others own (catN xs k)) = r) :
    Calls Try.prog 69 #[.agg #[.int .i64 own, .int .i64 cap, .slice A0 n0 c0], .slice (some ⟨g, 0, none⟩) k k] w (LstPost w (resB (others own (catN xs k))) r) := by
  have HR := Lib.hid hr
  have HWF := Lib.hid (catN_wf fun j hj => (hD j hj).wf)
  have hL1 : ∀ j, j < k → (w.alloc (.cells #[.int .i64 own, .int .i64 cap, .slice A0 n0 c0] 92)).cell? ⟨g, j, none⟩ = some (.slice (A j) (n j) (c j)) := fun j hj => (World.cell?_alloc_lt _ _ _ (show g < w.heap.size from hg)).trans (hL j hj)
  have hD1 : ∀ j, j < k → Descs (w.alloc (.cells #[.int .i64 own, .int .i64 cap, .slice A0 n0 c0] 92)) 0 (w.heap.size + 1) (A j) (n j) (xs j) := fun j hj => ((hD j hj).alloc (Nat.le_refl _) _).more (Nat.le_refl _) (by omega)
  have hcat := Concat_any (w.alloc (.cells #[.int .i64 own, .int .i64 cap, .slice A0 n0 c0] 92)) g k A n c xs (by simp; omega) hL1 (by simpa using hD1) hk hb
  have HC := Lib.hid hcat
  clear hr hL hD hL1 hD1 hcat
  generalize sumN n k = s at hb HC
  generalize catN xs k = ys at HC HR HWF
  go_enter Try.func69, Try.ntmps69
  go_wp2_with fail
  refine HC.out.mono ?_
  rintro e w1 ⟨A1, c1, rfl, hc1, hb1, hown1⟩
  have hs1 := hb1.size
  simp at hs1 hown1
  have hD1 := Descs.of_own hown1 HWF.out (by omega)
  have hown : w1.cell? ⟨w.heap.size, 0, none⟩ = some (.int .i64 own) := Below.keepCell hb1 (by simp) (by simp [go_sem])
  have hbw := ((Below.refl w.heap.size w).alloc (Nat.le_refl _) _).trans (hb1.mono (by simp))
  obtain ⟨rb, q1, q2, q3, hDe⟩ := exact_ne (kb := w.heap.size) hD1 (by omega) h0 (by omega)
  have hDF := DeleteFunc_any (own_pred (w.heap.size + 1) rb w.heap.size own q3) w1 () ⟨hown, by omega⟩ (by omega) q2 A1 s c1 q1 ys hDe (fun _ _ => trivial) hc1
  have HDF := Lib.hid hDF
  have hyl := Lib.hid hDe.len
  clear hown1 hb1 hD1 hDF hDe hown HC
  go_wp2_with fail
  refine HDF.out.mono ?_
  rintro e w2 ⟨m, rfl, hm, hb2, hD2⟩
  rw [delF_own] at hD2
  have hs2 := hb2.size
  have hmc : m ≤ c1 := by have := hyl.out; omega
  have hbw2 := hbw.trans (hb2.mono (by omega))
  clear hbw hb2 HDF
  go_wp2_with fail
  refine (Best_any _ _ _ A1 m c1 _ hD2 (by omega) (by omega) r HR.out).mono ?_
  rintro e w3 ⟨A3, n3, c3, r3, rfl, hc3, hb3, hr3, hr3', hD3⟩
  have hbw3 := hbw2.trans (hb3.mono (by omega))
  have hr4 : 0 < n3 → w.heap.size ≤ r3 := fun h => by have := hr3 h; omega
  clear hb3 hbw2 hD2 hr3
  go_wp2
  go_ret2
  exact ⟨A3, n3, c3, r3, rfl, hc3, hbw3, hr4, hr3', hD3⟩

theorem may_code {own cap : Int} {xs : List (Int × Int)} (h1 : newOk own cap = true) (h2 : (xs.length : Int) ≤ cap) : (check (others own xs) = 0 ∧ Sm (resB (others own xs)) xs = true) ↔ mayC own cap xs = true := by
  rw [mayC_iff]
  constructor
  · rintro ⟨h3, h4⟩
    have h5 : best (others own xs) = xs := by
      have := eq_of_beq h4
      rwa [resB, if_pos h3] at this
    exact ⟨h1, h2, by rw [← bst_others h5]; exact h3, h5⟩
  · rintro ⟨_, _, h3, h4⟩
    have h5 := bst_others h4
    have h6 : check (others own xs) = 0 := by rw [h5]; exact h3
    refine ⟨h6, ?_⟩
    rw [resB, if_pos h6, h4]
    exact beq_self_eq_true _
/-- kbest_any at one list. -/
theorem kbest_one (w : World) (h0 : 0 < w.heap.size) (own cap : Int) (A0 : Option Addr) (n0 c0 : Nat) (g : Nat) (A : Option Addr) (n c : Nat) (xs : List (Int × Int)) (hg : g < w.heap.size) (hL : w.cell? ⟨g, 0, none⟩ = some (.slice A n c))
    (hD : Descs w 0 w.heap.size A n xs) (hb : n ≤ 1000000) (r : Int) (hr : check (others own xs) = r) :
    Calls Try.prog 69 #[.agg #[.int .i64 own, .int .i64 cap, .slice A0 n0 c0], .slice (some ⟨g, 0, none⟩) 1 1] w (LstPost w (resB (others own xs)) r) := by
  have h := kbest_any w h0 own cap A0 n0 c0 g 1 (fun _ => A) (fun _ => n) (fun _ => c) (fun _ => xs) hg (fun j hj => by
      obtain rfl : j = 0 := by omega
      exact hL) (fun _ _ => hD) (by omega) (by simpa [sumN] using hb) r (by simpa [catN] using hr)
  simpa [catN] using h
theorem kbest_two (w : World) (h0 : 0 < w.heap.size) (own cap : Int) (A0 : Option Addr) (n0 c0 : Nat) (g : Nat) (A B : Option Addr) (n c m d : Nat) (xs ys : List (Int × Int)) (hg : g < w.heap.size) (hL : w.cell? ⟨g, 0, none⟩ = some (.slice A n c)) (hL2 : w.cell? ⟨g, 1, none⟩ = some (.slice B m d))
    (hD : Descs w 0 w.heap.size A n xs) (hE : Descs w 0 w.heap.size B m ys) (hb : n + m ≤ 1000000) (r : Int) (hr : check (others own (xs ++ ys)) = r) :
    Calls Try.prog 69 #[.agg #[.int .i64 own, .int .i64 cap, .slice A0 n0 c0], .slice (some ⟨g, 0, none⟩) 2 2] w (LstPost w (resB (others own (xs ++ ys))) r) := by
  have h := kbest_any w h0 own cap A0 n0 c0 g 2 (fun j => if j = 0 then A else B) (fun j => if j = 0 then n else m) (fun j => if j = 0 then c else d) (fun j => if j = 0 then xs else ys) hg
    (fun j hj => by
      obtain rfl | rfl : j = 0 ∨ j = 1 := by omega
      · exact hL
      · exact hL2)
    (fun j hj => by
      obtain rfl | rfl : j = 0 ∨ j = 1 := by omega
      · exact hD
      · exact hE) (by omega) (by simpa [sumN] using hb) r (by simpa [catN] using hr)
  simpa [catN] using h
/-- The three cells of a cache that lies in a block of its own. -/
theorem box3 {w w1 : World} {x y z : Value} {t : TypeId} (hb : Below (w.alloc (.cells #[x, y, z] t)).heap.size (w.alloc (.cells #[x, y, z] t)) w1) :
    (w1.cell? ⟨w.heap.size, 0, none⟩ = some x ∧ w1.cell? ⟨w.heap.size, 1, none⟩ = some y ∧ w1.cell? ⟨w.heap.size, 2, none⟩ = some z) ∧ w.heap.size < w1.heap.size ∧ Below w.heap.size w w1 := by
  have hs := hb.size
  simp at hs
  refine ⟨⟨?_, ?_, ?_⟩, by omega, ((Below.refl w.heap.size w).alloc (Nat.le_refl _) _).trans (hb.mono (by simp))⟩
  all_goals
    rw [hb.cell (by simp)]
    simp [go_sem]

set_option maxHeartbeats 1600000 in
/-- cache.Check. -/
theorem CheckC_any (w : World) (own cap : Int) (A : Option Addr) (n c : Nat) (xs : List (Int × Int)) (hX : Descs w 0 w.heap.size A n xs) (r : Int) (hr : (if mayC own cap xs = true then 0 else 8) = r) :
    Calls Try.prog 34 #[.agg #[.int .i64 own, .int .i64 cap, .slice A n c]] w fun e w' => e = .returned (.int .i64 r) ∧ Below w.heap.size w w' ∧ 0 < w'.heap.size := by
  have HR := Lib.hid hr
  have HL := Lib.hid hX.len
  have hbig := hX.big
  clear hr
  by_cases h1 : newOk own cap = true
  · have hnr : newR own cap = ((own, cap), 0) := by rw [newR, if_pos h1]
    have HN := Lib.hid hnr
    have H1 := Lib.hid h1
    have hc6 := ((newOk_iff own cap).1 h1).2.2
    clear h1 hnr
    by_cases h2 : (n : Int) ≤ cap
    · obtain ⟨q, hq⟩ : ∃ q, check (others own xs) = q := ⟨_, rfl⟩
      obtain ⟨b, hb⟩ : ∃ b, Sm (resB (others own xs)) xs = b := ⟨_, rfl⟩
      have hmc := may_code H1.out (xs := xs) (cap := cap) (by rw [HL.out]; exact h2)
      rw [hq, hb] at hmc
      have HQ := Lib.hid hq
      have HB := Lib.hid hb
      have HMC := Lib.hid hmc
      clear hq hb hmc
      go_enter Try.func34, Try.ntmps34
      go_wp2_with fail
      refine (New_any _ own cap own cap 0 HN.out).mono ?_
      rintro e w1 ⟨rfl, hg1⟩
      obtain ⟨⟨k1, k2, k3⟩, hs1, hb1⟩ := box3 hg1.below
      have hX1 := hX.below hb1 (Nat.le_refl _)
      clear hg1
      go_wp2_with fail
      have hb2 := (hb1.alloc (by omega) (.cells #[.int .i64 own, .int .i64 cap, .slice none 0 0] 43)).alloc (by simp; omega) (.cells #[.slice A n c] 22)
      have hX2 := (hX1.below ((Below.refl w1.heap.size w1).alloc (Nat.le_refl _) (.cells #[.int .i64 own, .int .i64 cap, .slice none 0 0] 43)) (by omega)).alloc (by simp; omega) (.cells #[.slice A n c] 22)
      refine (kbest_one _ (by simp) own cap A n c _ A n c xs (by simp) (by simp [go_sem]) (hX2.more (Nat.le_refl _) (by simp; omega)) (by omega) q HQ.out).mono ?_
      rintro e w2 ⟨A2, n2, c2, rb, rfl, hc2, hb3, hr2, hr3, hD2⟩
      have hs3 := hb3.size
      simp at hs3
      have hc := hb2.trans (hb3.mono (by simp; omega))
      have hX3 := hX.below hc (Nat.le_refl _)
      have m1 : w2.cell? ⟨w.heap.size, 2, none⟩ = some (.slice A n c) := Below.keepCell hb3 (by simp; omega) ((World.cell?_alloc_lt _ _ _ (show w.heap.size < _ by simp; omega)).trans ((World.cell?_alloc_lt _ _ _ (show w.heap.size < _ by omega)).trans k3))
      clear hb1 hb2 hb3 hX1 hX2 k1 k2 k3 hr2
      by_cases hq0 : q = 0
      · subst hq0
        go_wp2_with fail
        refine (Same_b _ _ _ _ _ A2 A n2 c2 n c _ xs hD2 hX3 b HB.out).mono ?_
        rintro e w3 ⟨rfl, hb⟩
        have hc3 := hc.trans (hb.mono (by omega))
        have hs4 := hb.size
        clear hb m1
        cases b with
        | true =>
          have e : r = 0 := by rw [← HR.out, if_pos (HMC.out.1 (by simp))]
          subst e
          go_wp2
          go_ret
          exact ⟨rfl, hc3, by omega⟩
        | false =>
          have e : r = 8 := by rw [← HR.out, if_neg (fun h => by have := HMC.out.2 h; simp at this)]
          subst e
          go_wp2
          go_ret
          exact ⟨rfl, hc3, by omega⟩
      · have e : r = 8 := by rw [← HR.out, if_neg (fun h => by have := HMC.out.2 h; exact hq0 this.1)]
        subst e
        have hne : (q != 0) = true := by simpa using hq0
        clear hq0
        go_wp2
        go_ret
        exact ⟨rfl, hc, by omega⟩
    · have e : r = 8 := by rw [← HR.out, if_neg (fun h => h2 (by rw [← HL.out]; exact ((mayC_iff own cap xs).1 h).len))]
      subst e
      go_enter Try.func34, Try.ntmps34
      go_wp2_with fail
      refine (New_any _ own cap own cap 0 HN.out).mono ?_
      rintro e w1 ⟨rfl, hg1⟩
      obtain ⟨⟨k1, k2, k3⟩, hs1, hb1⟩ := box3 hg1.below
      clear hg1
      go_wp2
      go_ret
      exact ⟨rfl, hb1.alloc (by omega) _, by simp⟩
  · have hnr : newR own cap = ((0, 0), 2) := by rw [newR, if_neg h1]
    have HN := Lib.hid hnr
    have e : r = 8 := by rw [← HR.out, if_neg (fun h => h1 ((mayC_iff own cap xs).1 h).new)]
    subst e
    clear h1 hnr
    go_enter Try.func34, Try.ntmps34
    go_wp2_with fail
    refine (New_any _ own cap 0 0 2 HN.out).mono ?_
    rintro e w1 ⟨rfl, hg1⟩
    obtain ⟨⟨k1, k2, k3⟩, hs1, hb1⟩ := box3 hg1.below
    clear hg1
    go_wp2
    go_ret
    exact ⟨rfl, hb1.alloc (by omega) _, by simp⟩
end De
end Go.Proofs.Ytpjomdkcckamkaa
