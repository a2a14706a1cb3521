/- The exact sum: a walk. -/
/- A number's dyad: walks. -/
/- Slices of limbs: whether two are the same, copies: walks. -/
/- Dyads: whether two are the same, copies: walks. -/
/- Dyads: copies; the reference's: whether they are great, the same, copies: walks. -/
/- Sums, differences, halves and comparisons of dyads as they lie in memory. -/
/- The examples of the chapter: a walk. -/
/- The examples of the chapter: a walk (printed by a program of mine). -/
import Derived.Test.YtlbkepiflhchdaaBp02
import Derived.Test.YtlbkepiflhchdaaProg
import Derived.Lib.SmallJoins
import Derived.RangeFuncNested
import Derived.Test.YtlbkepiflhchdaaBp01
namespace Go.Proofs.Ytlbkepiflhchdaa
open Go.RowKit
namespace Dy
open Dp
theorem ints_may {w : World} {lo hi : Nat} {A : Option Addr} {n : Nat} {a : Dn} (h : Ints w lo hi .u32 A n (canon 4294967296 a.m)) (ha : a.May) : n ≤ 40 := by
  have h1 := (dn_may ha).1.1
  have h2 := h.len
  omega
def roomE : Nat := 2304
theorem shift_lt {m k : Nat} (h : m < capD) (hk : k ≤ 1024) : m * 2 ^ k < 2 ^ roomE := by
  have h1 : m * 2 ^ k < capD * 2 ^ k := Nat.mul_lt_mul_of_pos_right h (Nat.pow_pos (by decide))
  have h2 : capD * 2 ^ k ≤ 2 ^ roomE := by
    rw [capD_eq, ← Nat.pow_add]
    exact Nat.pow_le_pow_right (by decide) (by rw [capE_eq]; show 1280 + k ≤ 2304; omega)
  exact Nat.lt_of_lt_of_le h1 h2
theorem sum_room {x y : Nat} (hx : x < 2 ^ roomE) (hy : y < 2 ^ roomE) : x + y < 4294967296 ^ 74 := by
  rw [pow32]
  obtain ⟨e, he⟩ : ∃ e, e = 32 * 74 := ⟨_, rfl⟩
  rw [← he]
  have he2 : roomE + 1 ≤ e := by rw [he]; show 2304 + 1 ≤ 32 * 74; decide
  have h : 2 ^ roomE + 2 ^ roomE ≤ 2 ^ e := by
    rw [← Nat.two_mul, ← Nat.pow_succ']
    exact Nat.pow_le_pow_right (by decide) he2
  exact Nat.lt_of_lt_of_le (Nat.add_lt_add hx hy) h
end Dy
end Go.Proofs.Ytlbkepiflhchdaa
namespace Go.Proofs.Ytlbkepiflhchdaa
open Go.RowKit
namespace Dy
open Dp
set_option maxHeartbeats 800000 in
set_option maxRecDepth 100000 in
/-- limb.cut. -/
theorem cut_any (w : World) (lo hi : Nat) (A : Option Addr) (n c : Nat) (xs : List Int) (h : Ints w lo hi .u32 A n xs) (hd : Dig 4294967296 xs) (hnc : n ≤ c) (v : Nat) (hv : num 4294967296 xs = v) :
    Calls Try.prog 39 #[.slice A n c] w fun e w' => (∃ m, e = .returned (.slice A m m) ∧ m ≤ n ∧ Ints w lo hi .u32 A m (canon 4294967296 v)) ∧ w' = w := by
  have hl := Lib.hid h.len
  have hbig := h.big
  have HV := Lib.hid hv
  clear hv
  go_enter Try.func39, Try.ntmps39
  go_wp2
  go_loopw [3] (fun i wr => ∃ k : Nat, i = .int .i64 k ∧ k ≤ n ∧ Hid (num 4294967296 (xs.take k) = num 4294967296 xs) ∧ wr = w) (fun i _ => (intOf i).toNat)
  case atStart => exact ⟨n, rfl, Nat.le_refl _, by rw [Hid, List.take_of_length_le (by rw [hl.out]; exact Nat.le_refl _)], rfl⟩
  case round =>
    obtain ⟨k, rfl, hk, hn, rfl⟩ := hrel
    rcases k with _ | j
    · have he := cut_stop (by decide) hd (Nat.zero_le _) hn.out (.inl rfl)
      have hI := h.take_ (m := 0) (Nat.zero_le _)
      rw [he, HV.out] at hI
      clear he
      go_wp2
      go_ret
      exact ⟨⟨0, rfl, Nat.zero_le _, hI⟩, by trivial⟩
    · obtain ⟨b, off, rfl, hcell⟩ := get h (by omega)
      have g1 : wr.cell? ⟨b, off + j, none⟩ = some (.int .u32 (xs[j]?.getD 0)) := hcell j (by omega)
      clear hcell
      have ej : ((j + 1 : Nat) : Int) - 1 = (j : Int) := by omega
      by_cases hz : xs[j]?.getD 0 = 0
      · have hn2 := Lib.hid (cut_on (by rw [hl.out]; omega) hn.out hz)
        rw [hz] at g1
        clear hz
        go_wp2
        go_roundw
        case rel => exact ⟨j, by first | rfl | (congr 1; omega), by omega, hn2, by trivial⟩
        case measure => first | (simp [intOf]; done) | (simp [intOf]; omega)
      · have he := cut_stop (by decide) hd (by rw [hl.out]; omega) hn.out (.inr (by simpa using hz))
        have hI := h.take_ (m := j + 1) hk
        rw [he, HV.out] at hI
        have hb : (xs[j]?.getD 0 == 0) = false := by simpa using hz
        clear he hz
        go_wp2
        go_ret
        exact ⟨⟨j + 1, rfl, hk, hI⟩, by trivial⟩
theorem heapAll {g : Nat} {w : World} {x} (o) (h : w.heap[g]? = some x) : (w.alloc o).heap[g]? = some x := (Below.heap_alloc _ _ _ (Array.getElem?_eq_some_iff.1 h).1).trans h
/-- A box of three behind an alloc. -/
theorem boxA {w : World} {g : Nat} {x y z : Value} {t : TypeId} (h : w.heap[g]? = some (.cells #[x, y, z] t (0, 0))) :
    (∀ o, (w.alloc o).cell? ⟨g, 0, none⟩ = some x) ∧ (∀ o, (w.alloc o).cell? ⟨g, 1, none⟩ = some y) ∧ (∀ o, (w.alloc o).cell? ⟨g, 2, none⟩ = some z) ∧ (∀ o, (w.alloc o).frozen? ⟨g, 0, none⟩ = false) ∧ (∀ o, (w.alloc o).frozen? ⟨g, 1, none⟩ = false) ∧ (∀ o, (w.alloc o).frozen? ⟨g, 2, none⟩ = false) :=
  ⟨fun o => (boxD (heapAll o h)).1.1, fun o => (boxD (heapAll o h)).1.2.1, fun o => (boxD (heapAll o h)).1.2.2, fun o => (boxD (heapAll o h)).2.1, fun o => (boxD (heapAll o h)).2.2.1, fun o => (boxD (heapAll o h)).2.2.2⟩
theorem ints_new (w : World) (t : TypeId) (x y : Int) (hx : 0 ≤ x ∧ x ≤ 4294967295) (hy : 0 ≤ y ∧ y ≤ 4294967295) : Ints (w.alloc (.cells #[.int .u32 x, .int .u32 y] t)) w.heap.size (w.heap.size + 1) .u32 (some ⟨w.heap.size, 0, none⟩) 2 [x, y] := by
  refine ⟨rfl, fun z hz => ?_, by omega, fun _ => ⟨w.heap.size, 0, rfl, Nat.le_refl _, by omega, fun j hj => ?_⟩⟩
  · simp only [List.mem_cons, List.not_mem_nil, or_false] at hz
    have h : 0 ≤ z ∧ z ≤ 4294967295 := by rcases hz with rfl | rfl <;> assumption
    simpa [IntKind.min, IntKind.max, IntKind.signed, IntKind.bits] using h
  · have : j = 0 ∨ j = 1 := by omega
    rcases this with rfl | rfl <;> simp [go_sem]
set_option maxHeartbeats 800000 in
set_option maxRecDepth 100000 in
/-- limb.Of. -/
theorem limbOf_any (w : World) (v : Nat) (hv : v < 18446744073709551616) (z : Int) (hz : z = v) :
    Calls Try.prog 27 #[.int .u64 z] w fun e w' => ∃ A n, e = .returned (.slice A n n) ∧ Below w.heap.size w w' ∧ Ints w' w.heap.size w'.heap.size .u32 A n (canon 4294967296 v) := by
  subst hz
  have hi := ints_new w 41 ((v : Int) % 4294967296) ((v : Int) / 4294967296) (by omega) (by omega)
  have hd : Dig 4294967296 [(v : Int) % 4294967296, (v : Int) / 4294967296] := fun x hx => by
    simp only [List.mem_cons, List.not_mem_nil, or_false] at hx
    rcases hx with rfl | rfl <;> omega
  have hn : num 4294967296 [(v : Int) % 4294967296, (v : Int) / 4294967296] = v := by
    simp only [num]
    omega
  have HN := Lib.hid hn
  have HD := Lib.hid hd
  clear hn hd
  go_enter Try.func27, Try.ntmps27
  go_wp2_with fail
  refine (cut_any _ w.heap.size (w.heap.size + 1) _ 2 2 _ hi HD.out (Nat.le_refl _) v HN.out).mono ?_
  rintro e w1 ⟨⟨m, rfl, hm, hI⟩, rfl⟩
  go_wp2
  go_ret
  exact ⟨_, m, rfl, (Below.refl _ _).alloc (Nat.le_refl _) _, hI.more (Nat.le_refl _) (by simp)⟩
set_option maxHeartbeats 1600000 in
set_option maxRecDepth 100000 in
/-- dyad.Of. -/
theorem Of_any (w : World) (z : Int) (h0 : -9223372036854775808 ≤ z) (h1 : z ≤ 9223372036854775807) (s : Bool) (v : Nat) (hs : decide (z < 0) = s) (hv : z.natAbs = v) :
    Calls Try.prog 12 #[.int .i64 z] w fun e w' => ∃ A n, e = .returned (.agg #[.bool s, .slice A n n, .int .i64 0]) ∧ Below w.heap.size w w' ∧ Ints w' w.heap.size w'.heap.size .u32 A n (canon 4294967296 v) := by
  have HV := Lib.hid hv
  by_cases hneg : z < 0
  · have : s = true := by rw [← hs]; simpa using hneg
    subst this
    clear hs hv
    obtain ⟨U, hU⟩ : ∃ U : Nat, (U : Int) = z + 18446744073709551616 := ⟨(z + 18446744073709551616).toNat, by omega⟩
    have e1 : IntKind.u64.wrap z = U := by rw [IntKind.wrap_u64]; omega
    have HU := Lib.hid hU
    have hU2 : U ≤ 18446744073709551615 := by omega
    have hU3 : 0 < U := by omega
    clear hU
    go_enter Try.func12, Try.ntmps12
    go_wp2_with fail
    refine (limbOf_any _ U (by omega) _ rfl).mono ?_
    rintro e w1 ⟨A1, n1, rfl, hB1, hI1⟩
    have hs1 := hB1.size
    simp at hs1
    have hb1 := (hB1.block w.heap.size (by simp)).trans (heap_alloc_last w _)
    have hBB := ((Below.refl w.heap.size w).alloc (Nat.le_refl _) (.cells #[.bool false, .slice none 0 0, .int .i64 0] 24)).trans (hB1.mono (by simp))
    clear hB1 hI1
    have hn0 := heap_alloc_last w1 (.cells #[.bool true, .slice A1 n1 n1, .int .i64 0] 24)
    have hr0 := heapAll (.cells #[.bool true, .slice A1 n1 n1, .int .i64 0] 24) hb1
    have hB0 := hBB.alloc (by omega) (.cells #[.bool true, .slice A1 n1 n1, .int .i64 0] 24)
    obtain ⟨y0, y1, y2, y3, y4, y5⟩ := boxA hb1
    go_wp2_with fail
    have hv2 : (-(U : Int)) % 18446744073709551616 = v := by have := HU.out; have := HV.out; omega
    refine (limbOf_any _ v (by have := HV.out; omega) _ (by first | omega | (rw [IntKind.wrap_u64]; omega))).mono ?_
    rintro e w2 ⟨A2, n2, rfl, hB2, hI2⟩
    have hs2 := hB2.size
    simp at hs2
    have hb2 := (hB2.block w.heap.size (by simp; omega)).trans hr0
    have hc2 := (hB2.block w1.heap.size (by simp)).trans hn0
    have hB3 := hB0.trans (hB2.mono (by simp; omega))
    have HI := Lib.hid hI2
    clear hB2 hI2 hn0 hr0 hB0 y0 y1 y2 y3 y4 y5
    obtain ⟨⟨x0, x1, x2⟩, x3, x4, x5⟩ := boxD hb2
    obtain ⟨⟨z0, z1, z2⟩, z3, z4, z5⟩ := boxD hc2
    have hne : w.heap.size ≠ w1.heap.size := by omega
    have hne2 : w1.heap.size ≠ w.heap.size := by omega
    go_wp2
    refine bodyPost_ret (v := .agg #[.bool true, .slice A2 n2 n2, .int .i64 0]) (by simp [results, Try.results12, go_sem, x0, x1, x2]) rfl ⟨A2, n2, rfl, ?_, ?_⟩
    · exact (((hB3.setCell (by simp; omega) _).setCell (Nat.le_refl _) _).setCell (Nat.le_refl _) _).setCell (Nat.le_refl _) _
    · refine Ints.more (lo := w1.heap.size + 1) (hi := w2.heap.size) ?_ (by omega) (by simp [World.setCell])
      have h := HI.out
      simp only [World.size_alloc] at h
      exact ints_far (ints_far (ints_far (ints_far h (.inl (by simp)) _) (.inl (by simp; omega)) _) (.inl (by simp; omega)) _) (.inl (by simp; omega)) _
  · have : s = false := by rw [← hs]; simpa using hneg
    subst this
    have h2 : 0 ≤ z := by omega
    clear hs hv
    go_enter Try.func12, Try.ntmps12
    go_wp2_with fail
    refine (limbOf_any _ v (by have := HV.out; omega) _ (by have := HV.out; first | omega | (rw [IntKind.wrap_u64]; omega))).mono ?_
    rintro e w1 ⟨A1, n1, rfl, hB1, hI1⟩
    have hs1 := hB1.size
    simp at hs1
    have hb1 := (hB1.block w.heap.size (by simp)).trans (heap_alloc_last w _)
    have hBB := ((Below.refl w.heap.size w).alloc (Nat.le_refl _) (.cells #[.bool false, .slice none 0 0, .int .i64 0] 24)).trans (hB1.mono (by simp))
    obtain ⟨y0, y1, y2, y3, y4, y5⟩ := boxA hb1
    have hne : w.heap.size ≠ w1.heap.size := by omega
    have hne2 : w1.heap.size ≠ w.heap.size := by omega
    have HI := Lib.hid hI1
    clear hB1 hI1
    go_wp2
    refine bodyPost_ret (v := .agg #[.bool false, .slice A1 n1 n1, .int .i64 0]) (by simp [results, Try.results12, go_sem, y0, y1, y2]) rfl ⟨A1, n1, rfl, ?_, ?_⟩
    · exact (((hBB.alloc (by omega) _).setCell (Nat.le_refl _) _).setCell (Nat.le_refl _) _).setCell (Nat.le_refl _) _
    · refine Ints.more (lo := w.heap.size + 1) (hi := w1.heap.size) ?_ (by omega) (by simp [World.setCell])
      have h := HI.out
      simp only [World.size_alloc] at h
      exact ints_far (ints_far (ints_far (h.alloc (Nat.le_refl _) _) (.inl (by simp)) _) (.inl (by simp)) _) (.inl (by simp)) _
end Dy
end Go.Proofs.Ytlbkepiflhchdaa
namespace Go.Proofs.Ytlbkepiflhchdaa
open Go.RowKit
theorem lt_of_heapP {W : World} {g : Nat} {o : Obj} (h : W.heap[g]? = some o) : g < W.heap.size := (Array.getElem?_eq_some_iff.1 h).1
theorem heap_newP (w : World) (o : Obj) (g : Nat) (h : g = w.heap.size) : (w.alloc o).heap[g]? = some o := by
  subst h
  exact World.alloc_heap_new w o
theorem drewN_add (w : World) (a b : Nat) : (w.drewN a).drewN b = w.drewN (a + b) := by simp [World.drewN, Nat.add_assoc]
namespace Pa
/-- Are two lists of numbers the same? -/
def Sm (a b : List Int) : Bool := a == b
theorem Sm_refl (a : List Int) : Sm a a = true := beq_self_eq_true _
theorem Sm_len {a b : List Int} (h : a.length ≠ b.length) : Sm a b = false := by
  unfold Sm
  rw [beq_eq_false_iff_ne]
  exact fun e => h (by rw [e])
theorem Sm_at {a b : List Int} {k : Nat} (h : a[k]?.getD 0 ≠ b[k]?.getD 0) : Sm a b = false := by
  unfold Sm
  rw [beq_eq_false_iff_ne]
  exact fun e => h (by rw [e])
theorem take_next {a b : List Int} {k : Nat} (h1 : k < a.length) (h2 : k < b.length) (h : a.take k = b.take k) (he : a[k]?.getD 0 = b[k]?.getD 0) : a.take (k + 1) = b.take (k + 1) := by
  rw [List.take_succ_eq_append_getElem h1, List.take_succ_eq_append_getElem h2, h]
  rw [List.getElem?_eq_getElem h1, List.getElem?_eq_getElem h2] at he
  simp only [Option.getD_some] at he
  rw [he]
set_option maxHeartbeats 800000 in
/-- slices.Equal. -/
theorem Equal_any (w : World) (lo hi lo' hi' : Nat) (A A' : Option Addr) (n c n' c' : Nat) (xs ys : List Int) (hX : Ints w lo hi .u32 A n xs) (hY : Ints w lo' hi' .u32 A' n' ys) (r : Bool) (hr : Sm xs ys = r) :
    Calls Try.prog 41 #[.slice A n c, .slice A' n' c'] w fun e w' => e = .returned (.bool r) ∧ ∃ m, w' = w.drewN m := by
  have HR := Lib.hid hr
  have HX := Lib.hid hX.len
  have HY := Lib.hid hY.len
  have hbx := hX.big
  have hby := hY.big
  clear hr
  by_cases hnn : n = n'
  · subst hnn
    go_enter Try.func41, Try.ntmps41
    go_wp2
    go_loopw [13] (fun iv wr => ∃ k : Nat, iv = .int .i64 k ∧ k ≤ n ∧ Hid (xs.take k = ys.take k) ∧ ∃ m, wr = w.drewN m) (fun iv _ => n - (intOf iv).toNat)
    case atStart => exact ⟨0, rfl, Nat.zero_le _, rfl, 0, rfl⟩
    case round =>
      obtain ⟨k, rfl, hk, htk, m, rfl⟩ := hrel
      by_cases hlt : k < n
      · obtain ⟨b, off, rfl, _, _, hc⟩ := hX.row (by omega)
        obtain ⟨b', off', rfl, _, _, hc'⟩ := hY.row (by omega)
        have g1 := (hc k hlt).1
        have g2 := (hc' k hlt).1
        have hk0 : (0 : Int) ≤ k := by omega
        have hkn : (k : Int) < n := by omega
        have hnx : Hid (xs[k]?.getD 0 = ys[k]?.getD 0 → xs.take (k + 1) = ys.take (k + 1)) := fun he => take_next (by rw [HX.out]; exact hlt) (by rw [HY.out]; exact hlt) htk.out he
        have hno : Hid (xs[k]?.getD 0 ≠ ys[k]?.getD 0 → Sm xs ys = false) := fun he => Sm_at he
        clear hc hc'
        generalize xs[k]?.getD 0 = x at g1 hnx hno
        generalize ys[k]?.getD 0 = y at g2 hnx hno
        by_cases he : x = y
        · subst he
          have hn2 := Lib.hid (hnx.out rfl)
          have hne : (x != x) = false := by simp
          go_wp2
          go_quiet (fail)
          go_wp2
          go_roundw
          case rel => exact ⟨k + 1, by go_num, by omega, hn2, _, rfl⟩
          case measure => simp [intOf]; omega
        · have e2 : r = false := by rw [← HR.out]; exact hno.out he
          subst e2
          have hne : (x != y) = true := by simpa using he
          go_wp2
          go_quiet (fail)
          go_wp2
          go_ret
          exact ⟨rfl, _, drewN_add ..⟩
      · obtain rfl : k = n := by omega
        have e2 : r = true := by
          rw [← HR.out]
          have := htk.out
          rw [List.take_of_length_le (by rw [HX.out]; exact Nat.le_refl _), List.take_of_length_le (by rw [HY.out]; exact Nat.le_refl _)] at this
          rw [this]
          exact Sm_refl _
        subst e2
        go_wp2
        go_ret
        exact ⟨rfl, m, rfl⟩
  · have e2 : r = false := by rw [← HR.out]; exact Sm_len (by rw [HX.out, HY.out]; exact hnn)
    subst e2
    have hne : ((n : Int) != n') = true := by simpa using (show ¬ (n : Int) = n' by omega)
    have hne2 : (n != n') = true := by simpa using hnn
    go_enter Try.func41, Try.ntmps41
    go_wp2
    go_ret
    exact ⟨rfl, 0, rfl⟩
end Pa
end Go.Proofs.Ytlbkepiflhchdaa
namespace Go.Proofs.Ytlbkepiflhchdaa
open Go.RowKit
namespace Pa
theorem infoU32 : (Try.prog.info? 41).map (fun i => (i.zero, i.size, i.bytes)) = some (some (.int .u32 0), 1, 4) := by kernel_rfl
theorem u32_one (xs : List Int) : ∀ u ∈ xs.map (Value.int .u32), u.oneCell' = true := fun u hu => by
  obtain ⟨x, _, rfl⟩ := List.mem_map.1 hu
  rfl
/-- limb.Same. -/
theorem limbSame_any (w : World) (lo hi lo' hi' : Nat) (A A' : Option Addr) (n c n' c' : Nat) (xs ys : List Int) (hX : Ints w lo hi .u32 A n xs) (hY : Ints w lo' hi' .u32 A' n' ys) (r : Bool) (hr : Sm xs ys = r) :
    Calls Try.prog 29 #[.slice A n c, .slice A' n' c'] w fun e w' => e = .returned (.bool r) ∧ ∃ m, w' = w.drewN m := by
  have HR := Lib.hid hr
  clear hr
  go_enter Try.func29, Try.ntmps29
  go_wp2_with fail
  refine (Equal_any _ lo hi lo' hi' A A' n c n' c' xs ys hX hY r HR.out).mono ?_
  rintro e w1 ⟨rfl, m, rfl⟩
  go_wp2
  go_ret
  exact ⟨rfl, m, rfl⟩
set_option maxHeartbeats 800000 in
/-- slices.Clone. -/
theorem Clone_any (w : World) (lo hi : Nat) (A : Option Addr) (n c : Nat) (xs : List Int) (hX : Ints w lo hi .u32 A n xs) (hhi : hi ≤ w.heap.size) (hn : n ≤ 1000000) :
    Calls Try.prog 24 #[.slice A n c] w fun e w' => ∃ A' c', e = .returned (.slice A' n c') ∧ n ≤ c' ∧ Below w.heap.size w w' ∧ w'.ownsRow w.heap.size 41 1 (.slice A' n c') n (xs.map (Value.int .u32)) := by
  obtain ⟨i0, hi0, hz0, hz1, hz2⟩ := info_parts infoU32
  have HL := Lib.hid hX.len
  have hbig := hX.big
  rcases A with _ | a
  · by_cases hn : n = 0
    · subst hn
      have := hX.zero rfl
      subst this
      have hnil := Lib.run_eql_slice_nil (P := Try.prog) w 22 41 none 0 c 0 0 Try.underlying22
      go_enter Try.func24, Try.ntmps24
      go_wp2
      go_ret
      exact ⟨none, 0, rfl, Nat.le_refl _, Below.refl _ _, World.ownsRow_nil _ _ _ _⟩
    · obtain ⟨_, _, e, _⟩ := hX.row (by omega)
      cases e
  · have hnil := Lib.run_eql_slice_nil (P := Try.prog) w 22 41 (some a) n c 0 0 Try.underlying22
    go_enter Try.func24, Try.ntmps24
    go_wp2_with (first
      | (at_builtin; refine wpList_append_raw _ rfl (.tmp 5) (.tmp 6) 22 rfl w.heap.size 41 i0 _ 1 4 Try.underlying22 hi0 hz0 hz1 hz2 rfl (by decide) _ _ _ rfl (own_empty w w.heap.size _ 1 (Nat.le_refl _)) _ _ _ n _ _ rfl (hX.alloc hhi _).raw ?c1 ?c2 ?c3 ?c4 ?_))
    case c1 => exact u32_one _
    case c2 => unfold maxLen; omega
    case c3 => omega
    case c4 => simp
    intro A2 c2 w2 hown2 hgrow2 _
    have hb2 : Below w.heap.size w w2 := ((Below.refl _ w).alloc (Nat.le_refl _) _).grown hgrow2 (by simp) (fun q hq => by simp [Value.ownBlock] at hq; omega)
    have hc2 := own_cap hown2
    clear hgrow2
    go_wp2
    go_ret
    exact ⟨A2, c2, by simp, hc2, hb2, hown2⟩
/-- A dyad's datum: whether it is below 0, its limbs, its exponent. -/
structure Dy where
  neg : Bool
  limbs : List Int
  exp : Int
def Dy.same (a b : Dy) : Bool := a.neg == b.neg && (a.exp == b.exp && Sm a.limbs b.limbs)
theorem Dy.same_refl (a : Dy) : a.same a = true := by simp [Dy.same, Sm_refl]
set_option maxHeartbeats 1600000 in
/-- dyad.Same. -/
theorem dyadSame_any (w : World) (s s' : Bool) (A A' : Option Addr) (n c n' c' : Nat) (xs ys : List Int) (e e' : Int) (hX : Ints w 0 w.heap.size .u32 A n xs) (hY : Ints w 0 w.heap.size .u32 A' n' ys) (r : Bool) (hr : Dy.same ⟨s, xs, e⟩ ⟨s', ys, e'⟩ = r) :
    Calls Try.prog 14 #[.agg #[.bool s, .slice A n c, .int .i64 e], .agg #[.bool s', .slice A' n' c', .int .i64 e']] w fun e w' => e = .returned (.bool r) ∧ Below w.heap.size w w' := by
  have fin := ((Below.refl w.heap.size w).alloc (Nat.le_refl _) (.cells #[.bool s, .slice A n c, .int .i64 e] 24)).alloc (by simp) (.cells #[.bool s', .slice A' n' c', .int .i64 e'] 24)
  have hX2 := (hX.alloc (Nat.le_refl _) (.cells #[.bool s, .slice A n c, .int .i64 e] 24)).alloc (by simp) (.cells #[.bool s', .slice A' n' c', .int .i64 e'] 24)
  have hY2 := (hY.alloc (Nat.le_refl _) (.cells #[.bool s, .slice A n c, .int .i64 e] 24)).alloc (by simp) (.cells #[.bool s', .slice A' n' c', .int .i64 e'] 24)
  have HR := Lib.hid hr
  clear hr
  by_cases h1 : s = s'
  · subst h1
    have h1' : (s == s) = true := by simp
    by_cases h2 : e = e'
    · subst h2
      have h2' : (e == e) = true := by simp
      have hs : Hid (Sm xs ys = r) := by rw [Hid, ← HR.out]; simp [Dy.same]
      go_enter Try.func14, Try.ntmps14
      go_wp2_with fail
      refine (limbSame_any _ _ _ _ _ A A' n c n' c' xs ys hX2 hY2 r hs.out).mono ?_
      rintro e w1 ⟨rfl, m, rfl⟩
      go_wp2
      go_ret
      exact ⟨rfl, below_drewN fin m⟩
    · have h2' : (e == e') = false := by simpa using h2
      have e2 : r = false := by rw [← HR.out]; simp [Dy.same, h2]
      subst e2
      go_enter Try.func14, Try.ntmps14
      go_wp2
      go_ret
      exact ⟨rfl, fin⟩
  · have h1' : (s == s') = false := by simpa using h1
    have e2 : r = false := by rw [← HR.out]; simp [Dy.same, h1]
    subst e2
    go_enter Try.func14, Try.ntmps14
    go_wp2
    go_ret
    exact ⟨rfl, fin⟩
end Pa
end Go.Proofs.Ytlbkepiflhchdaa
namespace Go.Proofs.Ytlbkepiflhchdaa
open Go.RowKit
namespace Pa
/-- The cells of a box of three behind a callee. -/
theorem boxP3 {w : World} {g : Nat} {x y z : Value} {t : TypeId} (h : w.heap[g]? = some (.cells #[x, y, z] t (0, 0))) :
    (w.cell? ⟨g, 0, none⟩ = some x ∧ w.cell? ⟨g, 1, none⟩ = some y ∧ w.cell? ⟨g, 2, none⟩ = some z) ∧ (w.frozen? ⟨g, 0, none⟩ = false ∧ w.frozen? ⟨g, 1, none⟩ = false ∧ w.frozen? ⟨g, 2, none⟩ = false) :=
  ⟨⟨cell_of_row w g 0 _ t _ h, cell_of_row w g 1 _ t _ h, cell_of_row w g 2 _ t _ h⟩, frozen_of_row w g 0 _ t h, frozen_of_row w g 1 _ t h, frozen_of_row w g 2 _ t h⟩
theorem heapKeep {base g : Nat} {w w' : World} {x} (hb : Below base w w') (hg : g < base) (h : w.heap[g]? = some x) : w'.heap[g]? = some x := (hb.block _ hg).trans h
theorem heapAll {g : Nat} {w : World} {x} (o) (h : w.heap[g]? = some x) : (w.alloc o).heap[g]? = some x := (Below.heap_alloc _ _ _ (lt_of_heapP h)).trans h
theorem ints_far {w : World} {lo hi : Nat} {k : IntKind} {A : Option Addr} {n : Nat} {xs : List Int} (h : Ints w lo hi k A n xs) {p : Addr} (hp : p.block < lo ∨ hi ≤ p.block) (u : Value) : Ints (w.setCell p u) lo hi k A n xs :=
  ⟨h.len, h.wf, h.big, fun hn => by
    obtain ⟨b, off, e, h1, h2, hc⟩ := h.row hn
    exact ⟨b, off, e, h1, h2, fun j hj => ⟨(World.cell?_setCell_other w p _ u (fun e => by subst e; simp at hp; omega)).trans (hc j hj).1, (World.frozen?_setCell ..).trans (hc j hj).2⟩⟩⟩
set_option maxHeartbeats 1600000 in
/-- dyad.Twin. -/
theorem dyadTwin_any (w : World) (s : Bool) (A : Option Addr) (n c : Nat) (xs : List Int) (e : Int) (hX : Ints w 0 w.heap.size .u32 A n xs) (hn : n ≤ 1000000) :
    Calls Try.prog 8 #[.agg #[.bool s, .slice A n c, .int .i64 e]] w fun r w' => ∃ A' c', r = .returned (.agg #[.bool s, .slice A' n c', .int .i64 e]) ∧ n ≤ c' ∧ Below w.heap.size w w' ∧ w.heap.size < w'.heap.size ∧ Ints w' (w.heap.size + 2) w'.heap.size .u32 A' n xs := by
  have hxw := Lib.hid hX.wf
  have hbig := hX.big
  have hX2 := (hX.alloc (Nat.le_refl _) (.cells #[.bool s, .slice A n c, .int .i64 e] 24)).alloc (by simp) (.cells #[.bool false, .slice none 0 0, .int .i64 0] 24)
  go_enter Try.func8, Try.ntmps8
  go_wp2_with fail
  refine (Clone_any _ _ _ A n c xs hX2 (by simp; omega) hn).mono ?_
  rintro e w1 ⟨A2, c2, rfl, hc2, hb1, hown1⟩
  (try simp at hown1)
  have hD := Ints.of_own hown1 hxw.out hbig
  have hs1 := hb1.size
  simp at hs1
  have G1 := heapKeep hb1 (by simp; omega) (heapAll (.cells #[.bool false, .slice none 0 0, .int .i64 0] 24) (heap_newP w (.cells #[.bool s, .slice A n c, .int .i64 e] 24) _ rfl))
  have G2 := heapKeep hb1 (by simp) (heap_newP (w.alloc (.cells #[.bool s, .slice A n c, .int .i64 e] 24)) (.cells #[.bool false, .slice none 0 0, .int .i64 0] 24) (w.heap.size + 1) (by simp))
  obtain ⟨⟨k1, k2, k3⟩, k4, k5, k6⟩ := boxP3 G1
  obtain ⟨⟨p1, p2, p3⟩, p4, p5, p6⟩ := boxP3 G2
  have hbb := (((Below.refl w.heap.size w).alloc (Nat.le_refl _) (.cells #[.bool s, .slice A n c, .int .i64 e] 24)).alloc (by simp) (.cells #[.bool false, .slice none 0 0, .int .i64 0] 24)).trans (hb1.mono (by simp; omega))
  clear hb1 hown1 G1 G2
  go_wp2
  refine bodyPost_ret (v := .agg #[.bool s, .slice A2 n c2, .int .i64 e]) (by simp [results, Try.results8, go_sem, p1, p2, p3]) rfl ⟨A2, c2, rfl, hc2, ?_, ?_, ?_⟩
  · repeat (refine Below.setCell ?_ (by simp; try omega) _)
    exact hbb
  · simp [World.setCell]
    omega
  · refine Ints.more (lo := w.heap.size + 2) (hi := w1.heap.size) ?_ (Nat.le_refl _) (by simp [World.setCell])
    repeat (refine ints_far ?_ (by simp; try omega) _)
    exact hD
theorem own_emptyg (w : World) (g base : Nat) (e : TypeId) (size : Nat) (hg : g = w.heap.size) (h : base ≤ w.heap.size) : (w.alloc (.cells #[] e)).ownsRow base e size (.slice (some ⟨g, 0, none⟩) 0 0) 0 [] := by
  subst hg
  exact own_empty w base e size h
set_option maxHeartbeats 1600000 in
/-- headcountref02.Twin. -/
theorem rTwin_any (w : World) (s : Bool) (A : Option Addr) (n c : Nat) (xs : List Int) (e : Int) (hX : Ints w 0 w.heap.size .u32 A n xs) (hn : n ≤ 1000000) :
    Calls Try.prog 5 #[.agg #[.bool s, .slice A n c, .int .i64 e]] w fun r w' => ∃ A' c', r = .returned (.agg #[.bool s, .slice A' n c', .int .i64 e]) ∧ n ≤ c' ∧ Below w.heap.size w w' ∧ w.heap.size < w'.heap.size ∧ Ints w' (w.heap.size + 2) w'.heap.size .u32 A' n xs := by
  have hxw := Lib.hid hX.wf
  have hbig := hX.big
  have hX2 := (hX.alloc (Nat.le_refl _) (.cells #[.bool s, .slice A n c, .int .i64 e] 24)).alloc (by simp) (.cells #[.bool false, .slice none 0 0, .int .i64 0] 24)
  obtain ⟨i0, hi0, hz0, hz1, hz2⟩ := info_parts infoU32
  go_enter Try.func5, Try.ntmps5
  go_wp2_with (first
    | (at_builtin; refine wpList_append_raw _ rfl (.tmp 3) (.tmp 5) 22 rfl (w.heap.size + 1 + 1) 41 i0 _ 1 4 Try.underlying22 hi0 hz0 hz1 hz2 rfl (by decide) _ _ _ rfl (own_emptyg _ _ _ _ 1 (by simp) (by simp)) _ _ _ n _ _ rfl (hX2.alloc (by simp; omega) _).raw ?c1 ?c2 ?c3 ?c4 ?_))
  case c1 => exact u32_one _
  case c2 => unfold maxLen; omega
  case c3 => omega
  case c4 => simp
  intro A2 c2 w1 hown1 hgrow1 _
  have hb1 : Below ((w.alloc (.cells #[.bool s, .slice A n c, .int .i64 e] 24)).alloc (.cells #[.bool false, .slice none 0 0, .int .i64 0] 24)).heap.size ((w.alloc (.cells #[.bool s, .slice A n c, .int .i64 e] 24)).alloc (.cells #[.bool false, .slice none 0 0, .int .i64 0] 24)) w1 := ((Below.refl _ _).alloc (Nat.le_refl _) _).grown hgrow1 (by simp) (fun q hq => by simp [Value.ownBlock] at hq; simp; omega)
  have hc2 := own_cap hown1
  clear hgrow1
  (try simp at hown1)
  have hD := Ints.of_own hown1 hxw.out hbig
  have hs1 := hb1.size
  simp at hs1
  have G1 := heapKeep hb1 (by simp; omega) (heapAll (.cells #[.bool false, .slice none 0 0, .int .i64 0] 24) (heap_newP w (.cells #[.bool s, .slice A n c, .int .i64 e] 24) _ rfl))
  have G2 := heapKeep hb1 (by simp) (heap_newP (w.alloc (.cells #[.bool s, .slice A n c, .int .i64 e] 24)) (.cells #[.bool false, .slice none 0 0, .int .i64 0] 24) (w.heap.size + 1) (by simp))
  obtain ⟨⟨k1, k2, k3⟩, k4, k5, k6⟩ := boxP3 G1
  obtain ⟨⟨p1, p2, p3⟩, p4, p5, p6⟩ := boxP3 G2
  have hbb := (((Below.refl w.heap.size w).alloc (Nat.le_refl _) (.cells #[.bool s, .slice A n c, .int .i64 e] 24)).alloc (by simp) (.cells #[.bool false, .slice none 0 0, .int .i64 0] 24)).trans (hb1.mono (by simp; omega))
  clear hb1 hown1 G1 G2
  go_wp2
  refine bodyPost_ret (v := .agg #[.bool s, .slice A2 n c2, .int .i64 e]) (by simp [results, Try.results5, go_sem, p1, p2, p3]) rfl ⟨A2, c2, rfl, hc2, ?_, ?_, ?_⟩
  · repeat (refine Below.setCell ?_ (by simp; try omega) _)
    exact hbb
  · simp [World.setCell]
    omega
  · refine Ints.more (lo := w.heap.size + 2) (hi := w1.heap.size) ?_ (Nat.le_refl _) (by simp [World.setCell])
    repeat (refine ints_far ?_ (by simp; try omega) _)
    exact hD
set_option maxHeartbeats 800000 in
/-- headcountref01.Same. -/
theorem r1Same_any (w : World) (lo hi lo' hi' : Nat) (A A' : Option Addr) (n c n' c' : Nat) (xs ys : List Int) (hX : Ints w lo hi .u32 A n xs) (hY : Ints w lo' hi' .u32 A' n' ys) (r : Bool) (hr : Sm xs ys = r) :
    Calls Try.prog 26 #[.slice A n c, .slice A' n' c'] w fun e w' => e = .returned (.bool r) ∧ ∃ m, w' = w.drewN m := by
  have HR := Lib.hid hr
  have HX := Lib.hid hX.len
  have HY := Lib.hid hY.len
  have hbx := hX.big
  have hby := hY.big
  clear hr
  by_cases hnn : n = n'
  · subst hnn
    go_enter Try.func26, Try.ntmps26
    go_wp2
    go_loopw [5] (fun iv wr => ∃ k : Nat, iv = .int .i64 k ∧ k ≤ n ∧ Hid (xs.take k = ys.take k) ∧ ∃ m, wr = w.drewN m) (fun iv _ => n - (intOf iv).toNat)
    case atStart => exact ⟨0, rfl, Nat.zero_le _, rfl, 0, rfl⟩
    case round =>
      obtain ⟨k, rfl, hk, htk, m, rfl⟩ := hrel
      by_cases hlt : k < n
      · obtain ⟨b, off, rfl, _, _, hc⟩ := hX.row (by omega)
        obtain ⟨b', off', rfl, _, _, hc'⟩ := hY.row (by omega)
        have g1 := (hc k hlt).1
        have g2 := (hc' k hlt).1
        have hk0 : (0 : Int) ≤ k := by omega
        have hkn : (k : Int) < n := by omega
        have hnx : Hid (xs[k]?.getD 0 = ys[k]?.getD 0 → xs.take (k + 1) = ys.take (k + 1)) := fun he => take_next (by rw [HX.out]; exact hlt) (by rw [HY.out]; exact hlt) htk.out he
        have hno : Hid (xs[k]?.getD 0 ≠ ys[k]?.getD 0 → Sm xs ys = false) := fun he => Sm_at he
        clear hc hc'
        generalize xs[k]?.getD 0 = x at g1 hnx hno
        generalize ys[k]?.getD 0 = y at g2 hnx hno
        by_cases he : x = y
        · subst he
          have hn2 := Lib.hid (hnx.out rfl)
          have hne : (x != x) = false := by simp
          go_wp2
          go_quiet (fail)
          go_wp2
          go_roundw
          case rel => exact ⟨k + 1, by go_num, by omega, hn2, _, rfl⟩
          case measure => simp [intOf]; omega
        · have e2 : r = false := by rw [← HR.out]; exact hno.out he
          subst e2
          have hne : (x != y) = true := by simpa using he
          go_wp2
          go_quiet (fail)
          go_wp2
          go_ret
          exact ⟨rfl, _, drewN_add ..⟩
      · obtain rfl : k = n := by omega
        have e2 : r = true := by
          rw [← HR.out]
          have := htk.out
          rw [List.take_of_length_le (by rw [HX.out]; exact Nat.le_refl _), List.take_of_length_le (by rw [HY.out]; exact Nat.le_refl _)] at this
          rw [this]
          exact Sm_refl _
        subst e2
        go_wp2
        go_ret
        exact ⟨rfl, m, rfl⟩
  · have e2 : r = false := by rw [← HR.out]; exact Sm_len (by rw [HX.out, HY.out]; exact hnn)
    subst e2
    have hne : ((n : Int) != n') = true := by simpa using (show ¬ (n : Int) = n' by omega)
    have hne2 : (n != n') = true := by simpa using hnn
    go_enter Try.func26, Try.ntmps26
    go_wp2
    go_ret
    exact ⟨rfl, 0, rfl⟩
set_option maxHeartbeats 1600000 in
/-- headcountref02.Same. -/
theorem rSame_any (w : World) (s s' : Bool) (A A' : Option Addr) (n c n' c' : Nat) (xs ys : List Int) (e e' : Int) (hX : Ints w 0 w.heap.size .u32 A n xs) (hY : Ints w 0 w.heap.size .u32 A' n' ys) (r : Bool) (hr : Dy.same ⟨s, xs, e⟩ ⟨s', ys, e'⟩ = r) :
    Calls Try.prog 11 #[.agg #[.bool s, .slice A n c, .int .i64 e], .agg #[.bool s', .slice A' n' c', .int .i64 e']] w fun e w' => e = .returned (.bool r) ∧ Below w.heap.size w w' := by
  have fin := ((Below.refl w.heap.size w).alloc (Nat.le_refl _) (.cells #[.bool s, .slice A n c, .int .i64 e] 24)).alloc (by simp) (.cells #[.bool s', .slice A' n' c', .int .i64 e'] 24)
  have hX2 := (hX.alloc (Nat.le_refl _) (.cells #[.bool s, .slice A n c, .int .i64 e] 24)).alloc (by simp) (.cells #[.bool s', .slice A' n' c', .int .i64 e'] 24)
  have hY2 := (hY.alloc (Nat.le_refl _) (.cells #[.bool s, .slice A n c, .int .i64 e] 24)).alloc (by simp) (.cells #[.bool s', .slice A' n' c', .int .i64 e'] 24)
  have HR := Lib.hid hr
  clear hr
  by_cases h1 : s = s'
  · subst h1
    have h1' : (s == s) = true := by simp
    by_cases h2 : e = e'
    · subst h2
      have h2' : (e == e) = true := by simp
      have hs : Hid (Sm xs ys = r) := by rw [Hid, ← HR.out]; simp [Dy.same]
      go_enter Try.func11, Try.ntmps11
      go_wp2_with fail
      refine (r1Same_any _ _ _ _ _ A A' n c n' c' xs ys hX2 hY2 r hs.out).mono ?_
      rintro e w1 ⟨rfl, m, rfl⟩
      go_wp2
      go_ret
      exact ⟨rfl, below_drewN fin m⟩
    · have h2' : (e == e') = false := by simpa using h2
      have e2 : r = false := by rw [← HR.out]; simp [Dy.same, h2]
      subst e2
      go_enter Try.func11, Try.ntmps11
      go_wp2
      go_ret
      exact ⟨rfl, fin⟩
  · have h1' : (s == s') = false := by simpa using h1
    have e2 : r = false := by rw [← HR.out]; simp [Dy.same, h1]
    subst e2
    go_enter Try.func11, Try.ntmps11
    go_wp2
    go_ret
    exact ⟨rfl, fin⟩
/-- Is a dyad greater than statements go through? -/
def Dy.great (a : Dy) : Bool := decide (42 < a.limbs.length) || decide (1100 < a.exp)
set_option maxHeartbeats 800000 in
/-- headcountref02.Great. -/
theorem rGreat_any (w : World) (s : Bool) (A : Option Addr) (n c : Nat) (xs : List Int) (e : Int) (hl : xs.length = n) (r : Bool) (hr : Dy.great ⟨s, xs, e⟩ = r) :
    Calls Try.prog 4 #[.agg #[.bool s, .slice A n c, .int .i64 e]] w fun q w' => q = .returned (.bool r) ∧ Below w.heap.size w w' := by
  have HR := Lib.hid hr
  have HL := Lib.hid hl
  have fin := (Below.refl w.heap.size w).alloc (Nat.le_refl _) (.cells #[.bool s, .slice A n c, .int .i64 e] 24)
  clear hr hl
  by_cases h1 : 42 < n
  · have e2 : r = true := by rw [← HR.out, Dy.great]; simp; left; rw [HL.out]; exact h1
    subst e2
    have h1' : decide ((42 : Int) < n) = true := by simp; omega
    go_enter Try.func4, Try.ntmps4
    go_wp2
    go_ret
    exact ⟨rfl, fin⟩
  · have h1' : decide ((42 : Int) < n) = false := by simp; omega
    have e2 : Hid (decide ((1100 : Int) < e) = r) := by rw [Hid, ← HR.out, Dy.great]; simp [HL.out, h1]
    go_enter Try.func4, Try.ntmps4
    go_wp2
    go_ret
    exact ⟨by rw [← e2.out]; rfl, fin⟩
end Pa
end Go.Proofs.Ytlbkepiflhchdaa
namespace Go.Proofs.Ytlbkepiflhchdaa
open Go.RowKit
namespace Dy
open Dp
theorem dig_ints {w : World} {lo hi : Nat} {A : Option Addr} {n : Nat} {xs : List Int} (h : Ints w lo hi .u32 A n xs) : Dig 4294967296 xs := fun x hx => by
  have h1 := h.wf x hx
  have h2 : 0 ≤ x ∧ x ≤ 4294967295 := by simpa [IntKind.min, IntKind.max, IntKind.signed, IntKind.bits] using h1
  omega
/-- A dyad's numbers. -/
def dn (s : Bool) (xs : List Int) (e : Int) : Dn := ⟨s, num 4294967296 xs, e.toNat⟩
theorem dn_ok {s : Bool} {xs : List Int} {e : Int} (hd : Dig 4294967296 xs) (h : MayD s xs e) : (dn s xs e).May ∧ canon 4294967296 (dn s xs e).m = xs ∧ ((dn s xs e).e : Int) = e :=
  ⟨(may_dn hd h).1, (may_dn hd h).2, by have := h.2.1; show ((e.toNat : Nat) : Int) = e; omega⟩
end Dy
end Go.Proofs.Ytlbkepiflhchdaa
namespace Go.Proofs.Ytlbkepiflhchdaa
open Go.RowKit
namespace Dy
open Dp
/-- A dyad in a box. -/
structure Box (w : World) (g : Nat) (d : Dn) : Prop where
  some_ : ∃ A n c, w.heap[g]? = some (.cells #[.bool d.neg, .slice A n c, .int .i64 d.e] 24 (0, 0)) ∧ Ints w 0 w.heap.size .u32 A n (canon 4294967296 d.m)
theorem Box.below {w w' : World} {g : Nat} {d : Dn} (h : Box w g d) (hb : Below w.heap.size w w') : Box w' g d := by
  obtain ⟨A, n, c, h1, h2⟩ := h.some_
  exact ⟨A, n, c, (hb.block g (Array.getElem?_eq_some_iff.1 h1).1).trans h1, (h2.below hb (Nat.le_refl _)).more (Nat.le_refl _) hb.size⟩
/-- Amid a walk: nothing of what was has changed, the table is there. -/
structure Amid (w0 w : World) : Prop where
  below : Below w0.heap.size w0 w
  tab : Tab w
theorem Amid.on {w0 w w' : World} (h : Amid w0 w) (hb : Below w.heap.size w w') : Amid w0 w' := ⟨h.below.trans (hb.mono h.below.size), h.tab.below hb h.tab.lt⟩
theorem Amid.alloc {w0 w : World} (h : Amid w0 w) (o : Obj) : Amid w0 (w.alloc o) := h.on ((Below.refl _ w).alloc (Nat.le_refl _) o)
end Dy
end Go.Proofs.Ytlbkepiflhchdaa
namespace Go.Proofs.Ytlbkepiflhchdaa
open Go.RowKit
namespace Dy
open Dp
/-- Blocks that were there are as they were. -/
def Keeps (W w : World) : Prop := ∀ p, p < W.heap.size → w.heap[p]? = W.heap[p]?
theorem Keeps.refl (W : World) : Keeps W W := fun _ _ => rfl
theorem Keeps.on {W w w' : World} (h : Keeps W w) (hs : W.heap.size ≤ w.heap.size) (hb : Below w.heap.size w w') : Keeps W w' := fun p hp => (hb.block p (Nat.lt_of_lt_of_le hp hs)).trans (h p hp)
theorem Amid.drew {w0 w : World} (h : Amid w0 w) : Amid w0 w.drew := ⟨h.below.drew, h.tab.keep rfl⟩
end Dy
end Go.Proofs.Ytlbkepiflhchdaa
