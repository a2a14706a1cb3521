/- Order and the best ones, whatever the answer; the reference's too: walks. -/
import Derived.Test.YtpjomdkcckamkaaDeRef3
namespace Go.Proofs.Ytpjomdkcckamkaa
open Go.RowKit Go.Sort Go.Shelf
namespace De
def resO (xs : List (Int × Int)) : List (Int × Int) := if check xs = 0 then srt xs else []
def resB (xs : List (Int × Int)) : List (Int × Int) := if check xs = 0 then best xs else []
/-- A list and a code are handed back, in memory of the call's own. -/
def LstPost (w : World) (ys : List (Int × Int)) (r : Int) (e : Ending) (w' : World) : Prop :=
  ∃ A' n' c' rb, e = .returned (.tuple #[.slice A' n' c', .int .i64 r]) ∧ n' ≤ c' ∧ Below w.heap.size w w' ∧ (0 < n' → w.heap.size ≤ rb) ∧ rb < w'.heap.size ∧ Descs w' rb (rb + 1) A' n' ys

theorem Order_any (w : World) (lo hi : Nat) (A : Option Addr) (n c : Nat) (xs : List (Int × Int)) (hX : Descs w lo hi A n xs) (hhi : hi ≤ w.heap.size) (h0 : 0 < w.heap.size) (r : Int) (hr : check xs = r) :
    Calls Try.prog 23 #[.slice A n c] w (LstPost w (resO xs) r) := by
  by_cases hz : r = 0
  · subst hz
    refine (Order_ok w lo hi A n c xs hX hhi h0 hr).mono fun e w' ⟨A', c', rb, he, hc, hb, h1, h2, hD⟩ => ⟨A', n, c', rb, he, hc, hb, fun h => h1 h, h2, ?_⟩
    rw [resO, if_pos hr]
    exact hD
  · refine (Order_bad w lo hi A n c xs hX hhi h0 r hr (by simpa using hz)).mono fun e w' ⟨he, hb⟩ => ⟨none, 0, 0, 0, he, Nat.le_refl _, hb, fun h => absurd h (by omega), by have := hb.size; omega, ?_⟩
    rw [resO, if_neg (by rw [hr]; exact hz)]
    exact Descs.nil_ ..
theorem Best_any (w : World) (lo hi : Nat) (A : Option Addr) (n c : Nat) (xs : List (Int × Int)) (hX : Descs w lo hi A n xs) (hhi : hi ≤ w.heap.size) (h0 : 0 < w.heap.size) (r : Int) (hr : check xs = r) :
    Calls Try.prog 19 #[.slice A n c] w (LstPost w (resB xs) r) := by
  by_cases hz : r = 0
  · subst hz
    refine (Best_ok w lo hi A n c xs hX hhi h0 hr).mono fun e w' ⟨A', n', c', rb, he, hc, hb, h1, h2, hD⟩ => ⟨A', n', c', rb, he, hc, hb, h1, h2, ?_⟩
    rw [resB, if_pos hr]
    exact hD
  · refine (Best_bad w lo hi A n c xs hX hhi h0 r hr (by simpa using hz)).mono fun e w' ⟨he, hb⟩ => ⟨none, 0, 0, 0, he, Nat.le_refl _, hb, fun h => absurd h (by omega), by have := hb.size; omega, ?_⟩
    rw [resB, if_neg (by rw [hr]; exact hz)]
    exact Descs.nil_ ..

theorem exact_own {w w' : World} {A : Option Addr} {n : Nat} {xs : List (Int × Int)} (h : Descs w' w.heap.size w'.heap.size A n xs) (h0 : 0 < w'.heap.size) : ∃ rb, (0 < n → w.heap.size ≤ rb) ∧ rb < w'.heap.size ∧ Descs w' rb (rb + 1) A n xs := by
  obtain ⟨rb, h1, h2, h3⟩ := h.exact (Nat.le_refl _) h0
  exact ⟨rb, fun h => (h2 h).1, h1, h3⟩

set_option maxHeartbeats 400000 in
/-- headcountref07.Order. -/
theorem OrderR_any (w : World) (lo hi : Nat) (A : Option Addr) (n c : Nat) (xs : List (Int × Int)) (hX : Descs w lo hi A n xs) (hhi : hi ≤ w.heap.size) (h0 : 0 < w.heap.size) (r : Int) (hr : check xs = r) :
    Calls Try.prog 25 #[.slice A n c] w (LstPost w (resO xs) r) := by
  have HR := Lib.hid hr
  by_cases hz : r = 0
  · subst hz
    have hn64 : n ≤ 64 := by rw [← hX.len]; exact (check_mem hr).1
    have HRO : Hid (resO xs = srt xs) := by rw [Hid, resO, if_pos hr]
    clear hr
    go_enter Try.func25, Try.ntmps25
    go_wp2_with fail
    refine (CheckR_g _ lo hi A n c xs hX hhi 0 HR.out).mono ?_
    rintro e w1 ⟨rfl, hg1⟩
    have hs1 := hg1.below.size
    go_wp2_with fail
    refine (SortedR_any _ lo hi A n c xs (hX.gr hg1 hhi) (by omega) (by omega)).mono ?_
    rintro e w2 ⟨A2, c2, rfl, hc2, hb2, hD2⟩
    have hs2 := hb2.size
    obtain ⟨rb, q1, q2, q3⟩ := exact_own hD2 (by omega)
    have hbf := hg1.below.trans (hb2.mono hs1)
    clear hD2 hb2 hg1
    go_wp2
    go_ret2
    exact ⟨A2, n, c2, rb, rfl, hc2, hbf, fun h => Nat.le_trans hs1 (q1 h), q2, by rw [HRO.out]; exact q3⟩
  · have hne2 : (r != 0) = true := by simpa using hz
    have HRO : Hid (resO xs = []) := by rw [Hid, resO, if_neg (by rw [hr]; exact hz)]
    clear hr hz
    go_enter Try.func25, Try.ntmps25
    go_wp2_with fail
    refine (CheckR_g _ lo hi A n c xs hX hhi r HR.out).mono ?_
    rintro e w1 ⟨rfl, hg1⟩
    have hs1 := hg1.below.size
    go_wp2_with fail
    refine (CheckR_g _ lo hi A n c xs (hX.gr hg1 hhi) (by omega) r HR.out).mono ?_
    rintro e w2 ⟨rfl, hg2⟩
    have hg3 := hg1.trans hg2
    have hs3 := hg3.below.size
    clear hg1 hg2
    go_wp2
    go_ret2
    exact ⟨none, 0, 0, 0, rfl, Nat.le_refl _, hg3.below, fun h => absurd h (by omega), by omega, by rw [HRO.out]; exact Descs.nil_ ..⟩

set_option maxHeartbeats 400000 in
/-- headcountref07.Best. -/
theorem BestR_any (w : World) (lo hi : Nat) (A : Option Addr) (n c : Nat) (xs : List (Int × Int)) (hX : Descs w lo hi A n xs) (hhi : hi ≤ w.heap.size) (h0 : 0 < w.heap.size) (r : Int) (hr : check xs = r) :
    Calls Try.prog 26 #[.slice A n c] w (LstPost w (resB xs) r) := by
  have HR := Lib.hid hr
  by_cases hz : r = 0
  · subst hz
    have hn64 : n ≤ 64 := by rw [← hX.len]; exact (check_mem hr).1
    have HRO : Hid (resB xs = firsts [] (srt xs)) := by rw [Hid, resB, if_pos hr]; rfl
    clear hr
    go_enter Try.func26, Try.ntmps26
    go_wp2_with fail
    refine (CheckR_g _ lo hi A n c xs hX hhi 0 HR.out).mono ?_
    rintro e w1 ⟨rfl, hg1⟩
    have hs1 := hg1.below.size
    go_wp2_with fail
    refine (SortedR_any _ lo hi A n c xs (hX.gr hg1 hhi) (by omega) (by omega)).mono ?_
    rintro e w2 ⟨A2, c2, rfl, hc2, hb2, hD2⟩
    have hs2 := hb2.size
    go_wp2_with fail
    refine (FirstsR_any _ _ _ A2 n c2 (srt xs) hD2 (Nat.le_refl _) (by omega)).mono ?_
    rintro e w3 ⟨A3, n3, c3, rfl, hc3, hn3, hb3, hD3⟩
    have hs3 := hb3.size
    obtain ⟨rb, q1, q2, q3⟩ := exact_own hD3 (by omega)
    have hbf := (hg1.below.trans (hb2.mono hs1)).trans (hb3.mono (by omega))
    clear hD2 hb2 hg1 hb3 hD3
    go_wp2
    go_ret2
    exact ⟨A3, n3, c3, rb, rfl, hc3, hbf, fun h => by have := q1 h; omega, q2, by rw [HRO.out]; exact q3⟩
  · have hne2 : (r != 0) = true := by simpa using hz
    have HRO : Hid (resB xs = []) := by rw [Hid, resB, if_neg (by rw [hr]; exact hz)]
    clear hr hz
    go_enter Try.func26, Try.ntmps26
    go_wp2_with fail
    refine (CheckR_g _ lo hi A n c xs hX hhi r HR.out).mono ?_
    rintro e w1 ⟨rfl, hg1⟩
    have hs1 := hg1.below.size
    go_wp2_with fail
    refine (CheckR_g _ lo hi A n c xs (hX.gr hg1 hhi) (by omega) r HR.out).mono ?_
    rintro e w2 ⟨rfl, hg2⟩
    have hg3 := hg1.trans hg2
    have hs3 := hg3.below.size
    clear hg1 hg2
    go_wp2
    go_ret2
    exact ⟨none, 0, 0, 0, rfl, Nat.le_refl _, hg3.below, fun h => absurd h (by omega), by omega, by rw [HRO.out]; exact Descs.nil_ ..⟩
end De
end Go.Proofs.Ytpjomdkcckamkaa
