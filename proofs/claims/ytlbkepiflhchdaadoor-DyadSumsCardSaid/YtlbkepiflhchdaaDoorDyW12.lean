/- A number's dyad: walks. -/
import Derived.Test.YtlbkepiflhchdaaDoorDyW11
namespace Go.Proofs.YtlbkepiflhchdaaDoor
open Go.RowKit
namespace Dy
open Dp
set_option maxHeartbeats 800000 in
set_option maxRecDepth 100000 in
/-- limb.cut. -/
theorem cut_any (w : World) (lo hi : Nat) (A : Option Addr) (n c : Nat) (xs : List Int) (h : Ints w lo hi .u32 A n xs) (hd : Dig 4294967296 xs) (hnc : n ≤ c) (v : Nat) (hv : num 4294967296 xs = v) :
    Calls Tryd.prog 104 #[.slice A n c] w fun e w' => (∃ m, e = .returned (.slice A m m) ∧ m ≤ n ∧ Ints w lo hi .u32 A m (canon 4294967296 v)) ∧ w' = w := by
  have hl := Lib.hid h.len
  have hbig := h.big
  have HV := Lib.hid hv
  clear hv
  go_enter Tryd.func104, Tryd.ntmps104
  go_wp2
  go_loopw [3] (fun i wr => ∃ k : Nat, i = .int .i64 k ∧ k ≤ n ∧ Hid (num 4294967296 (xs.take k) = num 4294967296 xs) ∧ wr = w) (fun i _ => (intOf i).toNat)
  case atStart => exact ⟨n, rfl, Nat.le_refl _, by rw [Hid, List.take_of_length_le (by rw [hl.out]; exact Nat.le_refl _)], rfl⟩
  case round =>
    obtain ⟨k, rfl, hk, hn, rfl⟩ := hrel
    rcases k with _ | j
    · have he := cut_stop (by decide) hd (Nat.zero_le _) hn.out (.inl rfl)
      have hI := h.take_ (m := 0) (Nat.zero_le _)
      rw [he, HV.out] at hI
      clear he
      go_wp2
      go_ret
      exact ⟨⟨0, rfl, Nat.zero_le _, hI⟩, by trivial⟩
    · obtain ⟨b, off, rfl, hcell⟩ := get h (by omega)
      have g1 : wr.cell? ⟨b, off + j, none⟩ = some (.int .u32 (xs[j]?.getD 0)) := hcell j (by omega)
      clear hcell
      have ej : ((j + 1 : Nat) : Int) - 1 = (j : Int) := by omega
      by_cases hz : xs[j]?.getD 0 = 0
      · have hn2 := Lib.hid (cut_on (by rw [hl.out]; omega) hn.out hz)
        rw [hz] at g1
        clear hz
        go_wp2
        go_roundw
        case rel => exact ⟨j, by first | rfl | (congr 1; omega), by omega, hn2, by trivial⟩
        case measure => first | (simp [intOf]; done) | (simp [intOf]; omega)
      · have he := cut_stop (by decide) hd (by rw [hl.out]; omega) hn.out (.inr (by simpa using hz))
        have hI := h.take_ (m := j + 1) hk
        rw [he, HV.out] at hI
        have hb : (xs[j]?.getD 0 == 0) = false := by simpa using hz
        clear he hz
        go_wp2
        go_ret
        exact ⟨⟨j + 1, rfl, hk, hI⟩, by trivial⟩

theorem heapAll {g : Nat} {w : World} {x} (o) (h : w.heap[g]? = some x) : (w.alloc o).heap[g]? = some x := (Below.heap_alloc _ _ _ (Array.getElem?_eq_some_iff.1 h).1).trans h
/-- A box of three behind an alloc. -/
theorem boxA {w : World} {g : Nat} {x y z : Value} {t : TypeId} (h : w.heap[g]? = some (.cells #[x, y, z] t (0, 0))) :
    (∀ o, (w.alloc o).cell? ⟨g, 0, none⟩ = some x) ∧ (∀ o, (w.alloc o).cell? ⟨g, 1, none⟩ = some y) ∧ (∀ o, (w.alloc o).cell? ⟨g, 2, none⟩ = some z) ∧ (∀ o, (w.alloc o).frozen? ⟨g, 0, none⟩ = false) ∧ (∀ o, (w.alloc o).frozen? ⟨g, 1, none⟩ = false) ∧ (∀ o, (w.alloc o).frozen? ⟨g, 2, none⟩ = false) :=
  ⟨fun o => (boxD (heapAll o h)).1.1, fun o => (boxD (heapAll o h)).1.2.1, fun o => (boxD (heapAll o h)).1.2.2, fun o => (boxD (heapAll o h)).2.1, fun o => (boxD (heapAll o h)).2.2.1, fun o => (boxD (heapAll o h)).2.2.2⟩
theorem ints_new (w : World) (t : TypeId) (x y : Int) (hx : 0 ≤ x ∧ x ≤ 4294967295) (hy : 0 ≤ y ∧ y ≤ 4294967295) : Ints (w.alloc (.cells #[.int .u32 x, .int .u32 y] t)) w.heap.size (w.heap.size + 1) .u32 (some ⟨w.heap.size, 0, none⟩) 2 [x, y] := by
  refine ⟨rfl, fun z hz => ?_, by omega, fun _ => ⟨w.heap.size, 0, rfl, Nat.le_refl _, by omega, fun j hj => ?_⟩⟩
  · simp only [List.mem_cons, List.not_mem_nil, or_false] at hz
    have h : 0 ≤ z ∧ z ≤ 4294967295 := by rcases hz with rfl | rfl <;> assumption
    simpa [IntKind.min, IntKind.max, IntKind.signed, IntKind.bits] using h
  · have : j = 0 ∨ j = 1 := by omega
    rcases this with rfl | rfl <;> simp [go_sem]
set_option maxHeartbeats 800000 in
set_option maxRecDepth 100000 in
/-- limb.Of. -/
theorem limbOf_any (w : World) (v : Nat) (hv : v < 18446744073709551616) (z : Int) (hz : z = v) :
    Calls Tryd.prog 76 #[.int .u64 z] w fun e w' => ∃ A n, e = .returned (.slice A n n) ∧ Below w.heap.size w w' ∧ Ints w' w.heap.size w'.heap.size .u32 A n (canon 4294967296 v) := by
  subst hz
  have hi := ints_new w 52 ((v : Int) % 4294967296) ((v : Int) / 4294967296) (by omega) (by omega)
  have hd : Dig 4294967296 [(v : Int) % 4294967296, (v : Int) / 4294967296] := fun x hx => by
    simp only [List.mem_cons, List.not_mem_nil, or_false] at hx
    rcases hx with rfl | rfl <;> omega
  have hn : num 4294967296 [(v : Int) % 4294967296, (v : Int) / 4294967296] = v := by
    simp only [num]
    omega
  have HN := Lib.hid hn
  have HD := Lib.hid hd
  clear hn hd
  go_enter Tryd.func76, Tryd.ntmps76
  go_wp2_with fail
  refine (cut_any _ w.heap.size (w.heap.size + 1) _ 2 2 _ hi HD.out (Nat.le_refl _) v HN.out).mono ?_
  rintro e w1 ⟨⟨m, rfl, hm, hI⟩, rfl⟩
  go_wp2
  go_ret
  exact ⟨_, m, rfl, (Below.refl _ _).alloc (Nat.le_refl _) _, hI.more (Nat.le_refl _) (by simp)⟩
set_option maxHeartbeats 1600000 in
set_option maxRecDepth 100000 in
/-- dyad.Of. -/
theorem Of_any (w : World) (z : Int) (h0 : -9223372036854775808 ≤ z) (h1 : z ≤ 9223372036854775807) (s : Bool) (v : Nat) (hs : decide (z < 0) = s) (hv : z.natAbs = v) :
    Calls Tryd.prog 38 #[.int .i64 z] w fun e w' => ∃ A n, e = .returned (.agg #[.bool s, .slice A n n, .int .i64 0]) ∧ Below w.heap.size w w' ∧ Ints w' w.heap.size w'.heap.size .u32 A n (canon 4294967296 v) := by
  have HV := Lib.hid hv
  by_cases hneg : z < 0
  · have : s = true := by rw [← hs]; simpa using hneg
    subst this
    clear hs hv
    obtain ⟨U, hU⟩ : ∃ U : Nat, (U : Int) = z + 18446744073709551616 := ⟨(z + 18446744073709551616).toNat, by omega⟩
    have e1 : IntKind.u64.wrap z = U := by rw [IntKind.wrap_u64]; omega
    have HU := Lib.hid hU
    have hU2 : U ≤ 18446744073709551615 := by omega
    have hU3 : 0 < U := by omega
    clear hU
    go_enter Tryd.func38, Tryd.ntmps38
    go_wp2_with fail
    refine (limbOf_any _ U (by omega) _ rfl).mono ?_
    rintro e w1 ⟨A1, n1, rfl, hB1, hI1⟩
    have hs1 := hB1.size
    simp at hs1
    have hb1 := (hB1.block w.heap.size (by simp)).trans (heap_alloc_last w _)
    have hBB := ((Below.refl w.heap.size w).alloc (Nat.le_refl _) (.cells #[.bool false, .slice none 0 0, .int .i64 0] 24)).trans (hB1.mono (by simp))
    clear hB1 hI1
    have hn0 := heap_alloc_last w1 (.cells #[.bool true, .slice A1 n1 n1, .int .i64 0] 24)
    have hr0 := heapAll (.cells #[.bool true, .slice A1 n1 n1, .int .i64 0] 24) hb1
    have hB0 := hBB.alloc (by omega) (.cells #[.bool true, .slice A1 n1 n1, .int .i64 0] 24)
    obtain ⟨y0, y1, y2, y3, y4, y5⟩ := boxA hb1
    go_wp2_with fail
    have hv2 : (-(U : Int)) % 18446744073709551616 = v := by have := HU.out; have := HV.out; omega
    refine (limbOf_any _ v (by have := HV.out; omega) _ (by first | omega | (rw [IntKind.wrap_u64]; omega))).mono ?_
    rintro e w2 ⟨A2, n2, rfl, hB2, hI2⟩
    have hs2 := hB2.size
    simp at hs2
    have hb2 := (hB2.block w.heap.size (by simp; omega)).trans hr0
    have hc2 := (hB2.block w1.heap.size (by simp)).trans hn0
    have hB3 := hB0.trans (hB2.mono (by simp; omega))
    have HI := Lib.hid hI2
    clear hB2 hI2 hn0 hr0 hB0 y0 y1 y2 y3 y4 y5
    obtain ⟨⟨x0, x1, x2⟩, x3, x4, x5⟩ := boxD hb2
    obtain ⟨⟨z0, z1, z2⟩, z3, z4, z5⟩ := boxD hc2
    have hne : w.heap.size ≠ w1.heap.size := by omega
    have hne2 : w1.heap.size ≠ w.heap.size := by omega
    go_wp2
    refine bodyPost_ret (v := .agg #[.bool true, .slice A2 n2 n2, .int .i64 0]) (by simp [results, Tryd.results38, go_sem, x0, x1, x2]) rfl ⟨A2, n2, rfl, ?_, ?_⟩
    · exact (((hB3.setCell (by simp; omega) _).setCell (Nat.le_refl _) _).setCell (Nat.le_refl _) _).setCell (Nat.le_refl _) _
    · refine Ints.more (lo := w1.heap.size + 1) (hi := w2.heap.size) ?_ (by omega) (by simp [World.setCell])
      have h := HI.out
      simp only [World.size_alloc] at h
      exact ints_far (ints_far (ints_far (ints_far h (.inl (by simp)) _) (.inl (by simp; omega)) _) (.inl (by simp; omega)) _) (.inl (by simp; omega)) _
  · have : s = false := by rw [← hs]; simpa using hneg
    subst this
    have h2 : 0 ≤ z := by omega
    clear hs hv
    go_enter Tryd.func38, Tryd.ntmps38
    go_wp2_with fail
    refine (limbOf_any _ v (by have := HV.out; omega) _ (by have := HV.out; first | omega | (rw [IntKind.wrap_u64]; omega))).mono ?_
    rintro e w1 ⟨A1, n1, rfl, hB1, hI1⟩
    have hs1 := hB1.size
    simp at hs1
    have hb1 := (hB1.block w.heap.size (by simp)).trans (heap_alloc_last w _)
    have hBB := ((Below.refl w.heap.size w).alloc (Nat.le_refl _) (.cells #[.bool false, .slice none 0 0, .int .i64 0] 24)).trans (hB1.mono (by simp))
    obtain ⟨y0, y1, y2, y3, y4, y5⟩ := boxA hb1
    have hne : w.heap.size ≠ w1.heap.size := by omega
    have hne2 : w1.heap.size ≠ w.heap.size := by omega
    have HI := Lib.hid hI1
    clear hB1 hI1
    go_wp2
    refine bodyPost_ret (v := .agg #[.bool false, .slice A1 n1 n1, .int .i64 0]) (by simp [results, Tryd.results38, go_sem, y0, y1, y2]) rfl ⟨A1, n1, rfl, ?_, ?_⟩
    · exact (((hBB.alloc (by omega) _).setCell (Nat.le_refl _) _).setCell (Nat.le_refl _) _).setCell (Nat.le_refl _) _
    · refine Ints.more (lo := w.heap.size + 1) (hi := w1.heap.size) ?_ (by omega) (by simp [World.setCell])
      have h := HI.out
      simp only [World.size_alloc] at h
      exact ints_far (ints_far (ints_far (h.alloc (Nat.le_refl _) _) (.inl (by simp)) _) (.inl (by simp)) _) (.inl (by simp)) _
end Dy
end Go.Proofs.YtlbkepiflhchdaaDoor
