/- The statements on choices: the chapter's examples. -/
import Derived.Test.YtpjomdkcckamkaaChWalks5
import Derived.Laws.IdiomStrings
namespace Go.Proofs.Ytpjomdkcckamkaa
open Go.RowKit Go.Sort Go.Shelf
namespace De
def ch3 : List (Int × Int) := [(2, 9), (1, 8), (3, 8)]
set_option maxRecDepth 100000 in
/-- headcountlaw09.three. -/
theorem three_any (w : World) : Calls Try.prog 46 #[] w fun e w' => ∃ g, e = .returned (.agg #[.int .i64 0, .int .i64 3, .slice (some ⟨g, 0, none⟩) 3 3]) ∧ w.heap.size < w'.heap.size ∧ Below w.heap.size w w' ∧ Descs w' w.heap.size w'.heap.size (some ⟨g, 0, none⟩) 3 ch3 := by
  go_enter Try.func46, Try.ntmps46
  go_wp2
  refine bodyPost_ret (v := .agg #[.int .i64 0, .int .i64 3, .slice (some ⟨w.heap.size + 1, 0, none⟩) 3 3]) (by simp [results, Try.results46, go_sem]) rfl ⟨w.heap.size + 1, rfl, by simp; omega, ((Below.refl _ w).alloc (Nat.le_refl _) _).alloc (by simp) _, ?_⟩
  have h := descs_newg (w.alloc (.cells #[.int .i64 0, .int .i64 3, .slice (some ⟨w.heap.size + 1, 0, none⟩) 3 3] 43)) #[.int .i64 2, .int .i64 9, .int .i64 1, .int .i64 8, .int .i64 3, .int .i64 8] 29 3 (w.heap.size + 1) ch3 (by simp) rfl (by rfl) (rng_of (by decide)) (by decide)
  exact ⟨h.len, h.wf, h.big, fun h0 => by
    obtain ⟨b, off, e, _, h2, hc⟩ := h.row h0
    cases e
    exact ⟨_, _, rfl, by omega, h2, hc⟩⟩
/-- A node's digit. -/
def dgt (x : Int × Int) : UInt8 := UInt8.ofNat (48 + x.1.toNat)
def idsS (xs : List (Int × Int)) : ByteArray := ⟨(xs.map dgt).toArray⟩
theorem idsS_snoc (l : List (Int × Int)) (x : Int × Int) : idsS (l ++ [x]) = idsS l ++ ⟨#[dgt x]⟩ := by
  apply ByteArray.ext
  simp [idsS]
set_option maxRecDepth 100000 in
set_option maxHeartbeats 800000 in
/-- headcountlaw09.ids. -/
theorem ids_any (w : World) (lo hi : Nat) (A : Option Addr) (n c : Nat) (xs : List (Int × Int)) (hX : Descs w lo hi A n xs) (hhi : hi ≤ w.heap.size) (hd : ∀ x ∈ xs, 0 ≤ x.1 ∧ x.1 ≤ 9) (hn : n ≤ 100) :
    Calls Try.prog 49 #[.slice A n c] w fun e w' => e = .returned (.string (idsS xs)) ∧ Below w.heap.size w w' := by
  have hlen := Lib.hid hX.len
  have HD := Lib.hid hd
  clear hd
  go_enter Try.func49, Try.ntmps49
  go_wp2
  go_loopw [3, 4] (fun sv iv wr => ∃ k : Nat, iv = .int .i64 k ∧ k ≤ n ∧ sv = .string (idsS (xs.take k)) ∧ Below w.heap.size w wr) (fun _ iv _ => n - (intOf iv).toNat)
  case atStart => exact ⟨0, rfl, Nat.zero_le _, rfl, Below.refl _ _⟩
  case round =>
    obtain ⟨k, rfl, hk, rfl, hb⟩ := hrel
    by_cases hlt : k < n
    · obtain ⟨b, off, rfl, h1, h2, hcell⟩ := (hX.below hb hhi).row (by omega)
      obtain ⟨⟨g1, _⟩, g3, _⟩ := hcell k hlt
      have hm : xs[k]?.getD (0, 0) ∈ xs := by
        rw [List.getElem?_eq_getElem (by rw [hlen.out]; exact hlt)]
        exact List.getElem_mem _
      obtain ⟨d0, d1⟩ := HD.out _ hm
      have hts : Hid (xs.take (k + 1) = xs.take k ++ [xs[k]?.getD (0, 0)]) := by
        rw [Hid, List.take_succ_eq_append_getElem (by rw [hlen.out]; exact hlt), List.getElem?_eq_getElem (by rw [hlen.out]; exact hlt)]
        rfl
      generalize xs[k]?.getD (0, 0) = x at g1 g3 d0 d1 hts
      obtain ⟨x1, x2⟩ := x
      simp only at d0 d1 g1 g3
      clear hcell hm
      have h10 : x1 % 10 = x1 := by omega
      have hcv : (convert 101 9 (.slice (some ⟨wr.heap.size, 0, none⟩) 1 1)).run Try.prog (wr.alloc (.cells #[.int .u8 (48 + x1)] 5)) = .ok (.string ⟨#[dgt (x1, x2)]⟩) (wr.alloc (.cells #[.int .u8 (48 + x1)] 5)) := by
        have := run_convert_bytes_back (P := Try.prog) (wr.alloc (.cells #[.int .u8 (48 + x1)] 5)) 101 9 5 ⟨wr.heap.size, 0, none⟩ 1 [dgt (x1, x2)] Try.underlying101 Try.underlying5 Try.underlying9 (fun j hj => by
          obtain rfl : j = 0 := by simpa using hj
          simp [go_sem, dgt]
          omega)
        exact this
      have hsn := Lib.hid (idsS_snoc (xs.take k) (x1, x2))
      have htk : Hid (xs.take (k + 1) = xs.take k ++ [(x1, x2)]) := hts.out
      have hsz : (idsS (xs.take k)).size ≤ 100 := by
        have : (idsS (xs.take k)).size = (xs.take k).length := by simp [idsS, ByteArray.size]
        rw [this]
        have := List.length_take_le k xs
        omega
      clear hts
      go_wp2
      go_roundw
      case rel => exact ⟨k + 1, by go_num, by omega, by rw [htk.out, hsn.out], hb.alloc hb.size _⟩
      case measure => simp [intOf]; omega
    · obtain rfl : k = n := by omega
      have he := Lib.hid (List.take_of_length_le (i := k) (l := xs) (by rw [hlen.out]; exact Nat.le_refl _))
      rw [he.out]
      go_wp2
      go_ret
      exact ⟨rfl, hb⟩
theorem ints_newg (w : World) (k : IntKind) (cs : Array Value) (t : TypeId) (n g : Nat) (xs : List Int) (hg : w.heap.size = g) (hl : xs.length = n) (hcs : cs.toList = xs.map (Value.int k)) (hw : ∀ x ∈ xs, k.min ≤ x ∧ x ≤ k.max) (hn : n ≤ 9223372036854775807) :
    Ints (w.alloc (.cells cs t)) g (g + 1) k (some ⟨g, 0, none⟩) n xs := by
  subst hg
  refine ⟨hl, hw, hn, fun _ => ⟨w.heap.size, 0, rfl, Nat.le_refl _, by omega, fun j hj => ⟨?_, by simp [go_sem]⟩⟩⟩
  have h1 : (w.alloc (.cells cs t)).cell? ⟨w.heap.size, j, none⟩ = cs[j]? := by simp [go_sem]
  rw [Nat.zero_add, h1, ← Array.getElem?_toList, hcs, List.getElem?_map, List.getElem?_eq_getElem (by omega)]
  rfl
def u64s (xs : List Int) : Bool := xs.all fun x => decide (IntKind.u64.min ≤ x) && decide (x ≤ IntKind.u64.max)
theorem u64s_ok {xs : List Int} (h : u64s xs = true) : ∀ x ∈ xs, IntKind.u64.min ≤ x ∧ x ≤ IntKind.u64.max := fun x hx => by
  have := List.all_eq_true.1 h x hx
  simpa using this
/-- What is chosen in the chapter. -/
def ch132 : List (Int × Int) := [(1, 8), (3, 8), (2, 9)]

set_option maxRecDepth 100000 in
set_option maxHeartbeats 1600000 in
/-- headcountlaw09.alive. -/
theorem aliveH_p (w : World) : Calls Try.prog 48 #[] w fun e w' => e = .returned (.bool true) ∧ Below w.heap.size w w' ∧ 0 < w'.heap.size := by
  have o1 := Lib.hid (show oneR 0 3 ch3 4 = ((1, 8), 0) by decide +kernel)
  have s1 := Lib.hid (show someC 0 3 ch3 [4, 1, 9] = 0 by decide +kernel)
  have s2 := Lib.hid (show someL 0 3 ch3 [4, 1, 9] = ch132 by decide +kernel)
  have d1 := Lib.hid (show drawsC 0 3 ch3 ch132 = 0 by decide +kernel)
  have d2 := Lib.hid (show drawsL 0 3 ch3 ch132 = [1, 1, 0] by decide +kernel)
  have hids : Hid (idsS ch132 = ⟨#[49, 51, 50]⟩) := by rw [Hid]; rfl
  go_enter Try.func48, Try.ntmps48
  go_wp2_with fail
  refine (three_any _).mono ?_
  rintro e w1 ⟨g1, rfl, hs1, hb1, hD1⟩
  go_wp2_with fail
  refine (One_any _ 0 3 _ 3 3 ch3 (hD1.more (Nat.zero_le _) (Nat.le_refl _)) (Nat.le_refl _) 4 (by decide) (by decide +kernel) 1 8 0 o1.out).mono ?_
  rintro e w2 ⟨rfl, hb2, hp2⟩
  have hs2 := hb2.size
  have hc := hb1.trans (hb2.mono (by omega))
  clear hD1 hb1 hb2
  go_wp2_with fail
  have hc := hc.alloc (by omega) (.cells #[.int .i64 1, .int .i64 8] 29)
  have G := heap_newg w2 (.cells #[.int .i64 1, .int .i64 8] 29) _ rfl
  refine (three_any _).mono ?_
  rintro e w3 ⟨g3, rfl, hs3, hb3, hD3⟩
  simp at hs3
  have hc := hc.trans (hb3.mono (by simp; omega))
  have G := Below.heapOf hb3 (by simp) G
  clear hb3
  go_wp2_with fail
  refine (Some_any _ 0 3 _ 3 3 ch3 ((hD3.alloc (Nat.le_refl _) _).more (Nat.zero_le _) (by simp)) (Nat.le_refl _) _ 3 3 [4, 1, 9] ((ints_newg w3 .u64 _ _ 3 _ [4, 1, 9] rfl rfl (by rfl) (u64s_ok (by decide +kernel)) (by decide)).more (Nat.zero_le _) (by simp)) 0 s1.out).mono ?_
  rintro e w4 ⟨A4, n4, c4, r4, rfl, hc4, hb4, hr4, hr4', hD4⟩
  rw [s2.out] at hD4
  obtain rfl : n4 = 3 := by rw [← hD4.len]; rfl
  have hs4 := hb4.size
  simp at hs4
  have hc := (hc.alloc (by omega) _).trans (hb4.mono (by simp; omega))
  have G := Below.heapOf hb4 (by simp; omega) (heapAlloc _ G)
  clear hb4 hD3
  go_wp2_with fail
  refine (three_any _).mono ?_
  rintro e w5 ⟨g5, rfl, hs5, hb5, hD5⟩
  have hc := hc.trans (hb5.mono (by omega))
  have G := Below.heapOf hb5 (by omega) G
  have hL := hD4.below hb5 (by omega)
  clear hb5 hD4
  go_wp2_with fail
  refine (Draws_any _ 0 3 _ 3 3 ch3 (hD5.more (Nat.zero_le _) (Nat.le_refl _)) (Nat.le_refl _) A4 3 c4 ch132 (hL.more (Nat.zero_le _) (by omega)) 0 d1.out).mono ?_
  rintro e w6 ⟨A6, n6, c6, rfl, hc6, hb6, hp6, hI6⟩
  rw [d2.out] at hI6
  obtain rfl : n6 = 3 := by rw [← hI6.len]; rfl
  have hs6 := hb6.size
  have hc := hc.trans (hb6.mono (by omega))
  have G := Below.heapOf hb6 (by omega) G
  have hL := hL.below hb6 (by omega)
  obtain ⟨⟨k1, k2⟩, _⟩ := cells2 G
  clear hb6 hD5
  obtain ⟨b, off, rfl, hb1', hb2', hcell⟩ := hI6.row (by omega)
  go_wp2_with fail
  refine (ids_any w6 _ _ A4 3 c4 ch132 hL (by omega) (by decide) (by decide)).mono ?_
  rintro e w7 ⟨rfl, hb7⟩
  rw [hids.out]
  have hs7 := hb7.size
  have hc := hc.trans (hb7.mono (by omega))
  have q0 : w7.cell? ⟨b, off, none⟩ = some (.int .u64 1) := (hb7.cell (p := ⟨b, off, none⟩) (by omega)).trans (hcell 0 (by omega)).1
  have q1 : w7.cell? ⟨b, off + 1, none⟩ = some (.int .u64 1) := (hb7.cell (p := ⟨b, off + 1, none⟩) (by omega)).trans (hcell 1 (by omega)).1
  have q2 : w7.cell? ⟨b, off + 2, none⟩ = some (.int .u64 0) := (hb7.cell (p := ⟨b, off + 2, none⟩) (by omega)).trans (hcell 2 (by omega)).1
  clear hcell hb7 G hL hI6
  go_wp2
  go_ret
  exact ⟨rfl, hc, by omega⟩
end De
end Go.Proofs.Ytpjomdkcckamkaa
