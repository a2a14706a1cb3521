/- The statements on caches: the chapter's examples. -/
import Derived.Test.YtpjomdkcckamkaaCaWalks5
import Derived.Test.YtpjomdkcckamkaaDeLaw1
namespace Go.Proofs.Ytpjomdkcckamkaa
open Go.RowKit Go.Sort Go.Shelf
namespace De
/-- cache.Merge, where it takes in. -/
theorem Merge_lit (w : World) (own cap : Int) (A : Option Addr) (n c : Nat) (xs : List (Int × Int)) (hX : Descs w 0 w.heap.size A n xs) (B : Option Addr) (m d : Nat) (ys : List (Int × Int)) (hY : Descs w 0 w.heap.size B m ys)
    (zs : List (Int × Int)) (hr : mergeC own cap xs ys = 0) (hz : taken own cap.toNat (xs ++ ys) = zs) :
    Calls Try.prog 31 #[.agg #[.int .i64 own, .int .i64 cap, .slice A n c], .slice B m d] w (CchPost w own cap zs 0) := by
  have h := MergeC_any w own cap A n c xs hX B m d ys hY 0 hr
  rwa [mergeO, mergeP, mergeL, if_pos hr, if_pos hr, if_pos hr, hz] at h
theorem Below.heapOf {base g : Nat} {w w' : World} {x} (hb : Below base w w') (hg : g < base) (h : w.heap[g]? = some x) : w'.heap[g]? = some x := (hb.block _ hg).trans h
theorem heapAlloc {g : Nat} {w : World} {x} (o) (h : w.heap[g]? = some x) : (w.alloc o).heap[g]? = some x := (Below.heap_alloc _ _ _ (by
  have := Array.getElem?_eq_some_iff.1 h
  exact this.1)).trans h
def ca1 : List (Int × Int) := [(1, 5), (2, 3), (0, 9), (3, 4)]
def ca2 : List (Int × Int) := [(1, 5), (3, 4)]
def ca3 : List (Int × Int) := [(2, 9)]
def ca4 : List (Int × Int) := [(2, 9), (1, 5)]
def ca5 : List (Int × Int) := [(2, 9), (0, 7), (1, 5)]
/-- Descriptors that are written out, in the newest block. -/
theorem descs_newg (w : World) (cs : Array Value) (t : TypeId) (n g : Nat) (xs : List (Int × Int)) (hg : w.heap.size = g) (hl : xs.length = n) (hcs : cs.toList = flatD xs) (hw : ∀ x ∈ xs, Rng x) (hn : n ≤ 9223372036854775807) :
    Descs (w.alloc (.cells cs t)) 0 (w.alloc (.cells cs t)).heap.size (some ⟨g, 0, none⟩) n xs := by
  subst hg
  exact (descs_new w cs t n xs hl hcs hw hn).more (by omega) (by simp)
set_option maxRecDepth 100000 in
set_option maxHeartbeats 1600000 in
/-- headcountlaw08.alive. -/
theorem aliveC_p (w : World) : Calls Try.prog 30 #[] w fun e w' => e = .returned (.bool true) ∧ Below w.heap.size w w' ∧ 0 < w'.heap.size := by
  have m1 := Lib.hid (show mergeC 0 2 [] ca1 = 0 by decide +kernel)
  have t1 := Lib.hid (show taken 0 (2 : Int).toNat ([] ++ ca1) = ca2 by decide +kernel)
  have m2 := Lib.hid (show mergeC 0 2 ca2 ca3 = 0 by decide +kernel)
  have t2 := Lib.hid (show taken 0 (2 : Int).toNat (ca2 ++ ca3) = ca4 by decide +kernel)
  have o1 := Lib.hid (show offerC 0 2 ca4 7 = 0 by decide +kernel)
  have o2 := Lib.hid (show offerL 0 2 ca4 7 = ca5 by decide +kernel)
  go_enter Try.func30, Try.ntmps30
  go_wp2_with fail
  refine (New_any _ 0 2 0 2 0 (by decide)).mono ?_
  rintro e w1 ⟨rfl, hg1⟩
  have hb1 := hg1.below
  have hs1 := hb1.size
  clear hg1
  go_wp2_with fail
  have hbb := (hb1.alloc (by omega) (.cells #[.int .i64 0, .int .i64 2, .slice none 0 0] 43)).alloc (by simp; omega) (.cells #[.int .i64 1, .int .i64 5, .int .i64 2, .int .i64 3, .int .i64 0, .int .i64 9, .int .i64 3, .int .i64 4] 29)
  refine (Merge_lit _ 0 2 none 0 0 [] (Descs.nil_ ..) _ 4 4 ca1 (descs_newg _ _ _ 4 _ ca1 (by simp) rfl (by rfl) (rng_of (by decide)) (by decide)) ca2 m1.out t1.out).mono ?_
  rintro e w2 ⟨A2, n2, c2, r2, rfl, hc2, hb2, hr2, hr2', hD2⟩
  have hs2 := hb2.size
  simp at hs2
  obtain rfl : n2 = 2 := by rw [← hD2.len]; rfl
  have hbb2 := hbb.trans (hb2.mono (by simp; omega))
  clear hb2 hr2 hb1 hbb
  go_wp2_with fail
  have hbb := (hbb2.alloc (by omega) (.cells #[.int .i64 0, .int .i64 2, .slice A2 2 c2] 43)).alloc (by simp; omega) (.cells #[.int .i64 2, .int .i64 9] 29)
  have hX := ((hD2.alloc (by omega) (.cells #[.int .i64 0, .int .i64 2, .slice A2 2 c2] 43)).alloc (by simp; omega) (.cells #[.int .i64 2, .int .i64 9] 29)).more (lo' := 0) (hi' := w2.heap.size + 1 + 1) (by omega) (by omega)
  refine (Merge_lit _ 0 2 A2 2 c2 ca2 (by simpa using hX) _ 1 1 ca3 (descs_newg _ _ _ 1 _ ca3 (by simp) rfl (by rfl) (rng_of (by decide)) (by decide)) ca4 m2.out t2.out).mono ?_
  rintro e w3 ⟨A3, n3, c3, r3, rfl, hc3, hb3, hr3, hr3', hD3⟩
  have hs3 := hb3.size
  simp at hs3
  obtain rfl : n3 = 2 := by rw [← hD3.len]; rfl
  have hbb3 := hbb.trans (hb3.mono (by simp; omega))
  have hx3 : w3.heap[w2.heap.size]? = some (.cells #[.int .i64 0, .int .i64 2, .slice A2 2 c2] 43 (0, 0)) := Below.heapOf hb3 (by simp; omega) (heapAlloc _ (heap_newg _ _ _ rfl))
  have hX3 := hX.below (hb3.mono (by simp)) (Nat.le_refl _)
  clear hX hb3 hr3 hbb hbb2 hD2 hr2'
  go_wp2_with fail
  have hbb := hbb3.alloc (by omega) (.cells #[.int .i64 0, .int .i64 2, .slice A3 2 c3] 43)
  refine (Offer_any _ 0 2 7 A3 2 c3 ca4 ((hD3.alloc (by omega) (.cells #[.int .i64 0, .int .i64 2, .slice A3 2 c3] 43)).more (by omega) (by simp; omega)) 0 o1.out).mono ?_
  rintro e w4 ⟨A4, n4, c4, r4, rfl, hc4, hb4, hr4, hr4', hD4⟩
  have hs4 := hb4.size
  simp at hs4
  rw [o2.out] at hD4
  obtain rfl : n4 = 3 := by rw [← hD4.len]; rfl
  have hx4 := (cells3 (Below.heapOf hb4 (by simp; omega) (heapAlloc (.cells #[.int .i64 0, .int .i64 2, .slice A3 2 c3] 43) hx3))).1.2.2
  have hy4 := Below.heapOf hb4 (by simp) (heap_newg w3 (.cells #[.int .i64 0, .int .i64 2, .slice A3 2 c3] 43) _ rfl)
  have hX4 := (hX3.alloc (by omega) (.cells #[.int .i64 0, .int .i64 2, .slice A3 2 c3] 43)).below hb4 (by simp; omega)
  have hY4 := (hD3.alloc (by omega) (.cells #[.int .i64 0, .int .i64 2, .slice A3 2 c3] 43)).below hb4 (by simp; omega)
  have hbb4 := hbb.trans (hb4.mono (by simp; omega))
  clear hb4 hbb hbb3 hX3 hD3 hx3 hr4
  go_wp2_with fail
  refine (Same_b _ _ _ _ _ A2 _ 2 c2 2 2 ca2 ca2 (hX4.alloc (by omega) _) (descs_newg _ _ _ 2 _ ca2 rfl rfl (by rfl) (rng_of (by decide)) (by decide)) true (by decide)).mono ?_
  rintro e w5 ⟨rfl, hb5⟩
  have hs5 := hb5.size
  simp at hs5
  have hy5 := (cells3 (Below.heapOf hb5 (by simp; omega) (heapAlloc _ hy4))).1.2.2
  have hY5 := (hY4.alloc (by omega) _).below hb5 (by simp; omega)
  have hL5 := (hD4.alloc (by omega) _).below hb5 (by simp; omega)
  have hbb5 := (hbb4.alloc (by omega) _).trans (hb5.mono (by simp; omega))
  clear hb5 hx4 hX4 hy4 hY4 hD4 hbb4
  go_wp2_with fail
  refine (Same_b _ _ _ _ _ A3 _ 2 c3 2 2 ca4 ca4 (hY5.alloc (by omega) _) (descs_newg _ _ _ 2 _ ca4 rfl rfl (by rfl) (rng_of (by decide)) (by decide)) true (by decide)).mono ?_
  rintro e w6 ⟨rfl, hb6⟩
  have hs6 := hb6.size
  simp at hs6
  have hL6 := (hL5.alloc (by omega) _).below hb6 (by simp; omega)
  have hbb6 := (hbb5.alloc (by omega) _).trans (hb6.mono (by simp; omega))
  clear hb6 hY5 hL5 hbb5 hy5
  go_wp2_with fail
  refine (Same_b _ _ _ _ _ A4 _ 3 c4 3 3 ca5 ca5 (hL6.alloc (by omega) _) (descs_newg _ _ _ 3 _ ca5 rfl rfl (by rfl) (rng_of (by decide)) (by decide)) true (by decide)).mono ?_
  rintro e w7 ⟨rfl, hb7⟩
  have hs7 := hb7.size
  simp at hs7
  have hpos : 0 < w7.heap.size := by omega
  have hbb7 := (hbb6.alloc (by omega) _).trans (hb7.mono (by simp; omega))
  clear hb7 hL6 hbb6
  go_wp2
  go_ret
  exact ⟨rfl, hbb7, hpos⟩
end De
end Go.Proofs.Ytpjomdkcckamkaa
