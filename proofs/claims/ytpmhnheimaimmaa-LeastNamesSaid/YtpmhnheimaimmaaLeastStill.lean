/- How numbers are stilled, by a walk: a range over a function. -/
import Derived.Test.YtpmhnheimaimmaaRoundKit
import Derived.Test.YtpmhnheimaimmaaLeastStir
namespace Go.Proofs.Ytpmhnheimaimmaa
open Go.RowKit Go.Shelf
namespace Least
attribute [local go_sem] Oper.semAt_some

theorem fin_take (L k : Nat) (h : k < L) : (List.finRange L).take (k + 1) = (List.finRange L).take k ++ [⟨k, h⟩] := by
  rw [List.take_succ_eq_append_getElem (by simpa using h)]
  simp
theorem fin_take_len (L k : Nat) (h : k ≤ L) : ((List.finRange L).take k).length = k := by simp [h]
theorem fin_take_all (L : Nat) : (List.finRange L).take L = List.finRange L := List.take_of_length_le (by simp)

/-- Blocks g and g' lie as they lay. -/
def KpTwo (g g' : Nat) (W W' : World) : Prop := W'.heap[g]? = W.heap[g]? ∧ W'.heap[g']? = W.heap[g']?
theorem KpTwo.trans {g g' : Nat} {A B C : World} (h : KpTwo g g' A B) (k : KpTwo g g' B C) : KpTwo g g' A C := ⟨k.1.trans h.1, k.2.trans h.2⟩
theorem KpTwo.putObj {g g' l : Nat} (W : World) (o' : Obj) (h : g ≠ l) (h' : g' ≠ l) : KpTwo g g' W (W.putObj l o') := ⟨World.putObj_heap_other h, World.putObj_heap_other h'⟩

theorem KpTwo.refl (g g' : Nat) (W : World) : KpTwo g g' W W := ⟨rfl, rfl⟩
theorem KpTwo.drew {g g' : Nat} {A B : World} (h : KpTwo g g' A B) : KpTwo g g' A B.drew := h
theorem KpTwo.alloc {g g' : Nat} {A B : World} (h : KpTwo g g' A B) (o : Obj) (h1 : g < B.heap.size) (h2 : g' < B.heap.size) : KpTwo g g' A (B.alloc o) := ⟨(Below.heap_alloc _ _ _ h1).trans h.1, (Below.heap_alloc _ _ _ h2).trans h.2⟩
theorem KpTwo.setCell {g g' : Nat} {A B : World} (h : KpTwo g g' A B) {p : Addr} (v : Value) (h1 : g ≠ p.block) (h2 : g' ≠ p.block) : KpTwo g g' A (B.setCell p v) := ⟨(Below.heap_setCell _ _ _ _ h1).trans h.1, (Below.heap_setCell _ _ _ _ h2).trans h.2⟩

def shiftOf (j : Nat) : Nat := if j = 0 then 16 else if j = 1 then 13 else 15
def stillN (x : BitVec 32) (l : List (Fin 3)) : BitVec 32 := l.foldl (fun y j => still1 y (shiftOf j.1)) x
theorem stillN_snoc (x : BitVec 32) (l : List (Fin 3)) (j : Fin 3) : stillN x (l ++ [j]) = still1 (stillN x l) (shiftOf j.1) := by simp [stillN]
theorem stillN_all (x : BitVec 32) : stillN x (List.finRange 3) = stillS x := rfl

def backEnc (zs : List Int) (L : Nat) (x : Fin L) : Array Value := #[.int .i64 ((L - 1 - x.1 : Nat) : Int), .int .i64 (zs[L - 1 - x.1]?.getD 0)]

set_option maxRecDepth 100000 in
set_option maxHeartbeats 2000000 in
/-- slices.Backward's closure. -/
theorem back1_in (F : Fence) (n : Nat) (h7 : F.fn 42) (hro : F.round = none) (hn : 1 ≤ n) (l Bs b cap L : Nat) (zs : List Int) (hreach : L ≤ 1000) (J Jx : List (Fin L) → World → Prop)
    (hY : ∀ pre x W, J pre W → pre.length < L → YieldAt F (n - 1) Try.prog l (backEnc zs L x) W fun e W' =>
      (e = .returned (.bool true) ∧ J (pre ++ [x]) W' ∧ KpTwo Bs b W W') ∨ (e = .returned (.bool false) ∧ Jx (pre ++ [x]) W'))
    (W : World) (hBs : W.cell? ⟨Bs, 0, none⟩ = some (.slice (some ⟨b, 0, none⟩) L cap)) (hc : ∀ j, j < L → W.cell? ⟨b, j, none⟩ = some (.int .i64 (zs[j]?.getD 0))) (h0 : J [] W) :
    CallsIn F n Try.prog 42 #[.func (.yield l) #[] #[], .pointer (some ⟨Bs, 0, none⟩)] W fun e W' => (∃ v, e = .returned v) ∧
      ((∃ ys, ys = List.finRange L ∧ J ys W') ∨ (∃ pre, (∃ k, k ≤ L ∧ pre = (List.finRange L).take k) ∧ Jx pre W')) := by
  refine callsIn_of_wp Try.func42 rfl h7 ?_ hro
  simp only [Try.ntmps42, List.size_toArray, List.length_cons, List.length_nil, Nat.reduceAdd, Nat.reduceSub, Array.replicate_succ, Array.replicate_zero, List.push_toArray, List.append_toArray, List.nil_append, List.cons_append]
  gi_wp2
  gi_loopw [3] (fun i wr => ∃ k : Nat, k ≤ L ∧ i = .int .i64 ((L : Int) - 1 - k) ∧ J ((List.finRange L).take k) wr ∧ KpTwo Bs b W wr)
    (fun i _ => (intOf i + 1).toNat)
  case atStart => exact ⟨0, Nat.zero_le _, by simp, h0, rfl, rfl⟩
  case round =>
    obtain ⟨k, hk, rfl, hJs, hnx⟩ := hrel
    by_cases hlt : k < L
    · obtain ⟨j, hj⟩ : ∃ j, L = j + 1 + k := ⟨L - 1 - k, by omega⟩
      have ej : (L : Int) - 1 - k = (j : Int) := by omega
      rw [ej]
      have hjk : L - 1 - k = j := by omega
      obtain ⟨fn, tmps, assign, body, hy, hR⟩ := hY _ ⟨k, hlt⟩ wr hJs (by rw [fin_take_len L k hk]; exact hlt)
      rw [← fin_take L k hlt] at hR
      unfold backEnc at hy
      dsimp only at hy
      rw [hjk] at hy
      have hjL : j < L := by omega
      have HJ := Lib.hid hj
      have hcx' : wr.cell? ⟨b, j, none⟩ = some (.int .i64 (zs[j]?.getD 0)) := (World.cell?_of_block hnx.2).trans (hc j hjL)
      have hbs' : wr.cell? ⟨Bs, 0, none⟩ = _ := (World.cell?_of_block hnx.1).trans hBs
      clear hj ej hjk hc
      gi_wp2
      refine hR.mono ?_
      rintro e W3 (⟨rfl, hJ3, hk3⟩ | ⟨rfl, hJx3⟩)
      · gi_wp2
        go_roundw
        case rel => exact ⟨k + 1, by omega, by have := HJ.out; first | (congr 1; done) | (congr 1; omega), hJ3, hnx.trans hk3⟩
        case measure => first | (simp [intOf]; done) | (simp [intOf]; omega)
      · gi_wp2
        refine bodyPost_ret (results_none rfl _ _ _) rfl ?_
        exact ⟨⟨_, rfl⟩, .inr ⟨_, ⟨k + 1, by omega, rfl⟩, hJx3⟩⟩
    · obtain rfl : k = L := by omega
      rw [fin_take_all] at hJs
      gi_wp2
      go_end0
      exact ⟨⟨_, rfl⟩, .inl ⟨_, rfl, hJs⟩⟩

/-- slices.Backward at a slice that is known whole. -/
theorem back_stops (F : Fence) (n : Nat) (h7 : F.fn 42) (hro : F.round = none) (hn : 1 ≤ n) (Bs b cap L : Nat) (zs : List Int) (hreach : L ≤ 1000) (w : World) (hb : b < w.heap.size) (hBs0 : Bs < w.heap.size)
    (hBs : w.cell? ⟨Bs, 0, none⟩ = some (.slice (some ⟨b, 0, none⟩) L cap)) (hc : ∀ j, j < L → w.cell? ⟨b, j, none⟩ = some (.int .i64 (zs[j]?.getD 0))) :
    SeqStopsK F n Try.prog 42 #[.pointer (some ⟨Bs, 0, none⟩)] (backEnc zs L) (KpTwo Bs b) (fun ys => ys = List.finRange L)
      (fun pre => ∃ k, k ≤ L ∧ pre = (List.finRange L).take k) L w := fun l J Jx W hW _ _ hY h0 =>
  back1_in F n h7 hro hn l Bs b cap L zs hreach J Jx hY W ((hW.cell (p := ⟨Bs, 0, none⟩) hBs0).trans hBs) (fun j hj => (hW.cell (p := ⟨b, j, none⟩) hb).trans (hc j hj)) h0

/-- slices.Backward. -/
theorem backward_any (w : World) (A : Option Addr) (n c : Nat) : Calls Try.prog 36 #[.slice A n c] w fun e w' => e = .returned (.func (.func 42) #[] #[.pointer (some ⟨w.heap.size, 0, none⟩)]) ∧ w' = w.alloc (.cells #[.slice A n c] 55) := by
  have hmf : ∀ (fn : Fn) (first cap : Array Value) (w : World), (Instr.makeFunc fn first cap).run Try.prog w = .ok (.func fn first cap) w := fun _ _ _ _ => rfl
  go_enter Try.func36, Try.ntmps36
  go_wp2
  go_ret
  exact ⟨rfl, rfl⟩

set_option maxRecDepth 100000 in
set_option maxHeartbeats 400000 in
/-- least.Still. -/
theorem Still_any (w : World) (x : BitVec 32) : Calls Try.prog 22 #[.int .u32 (U x)] w fun e w' => e = .returned (.int .u32 (U (stillS x))) ∧ Below w.heap.size w w' := by
  refine (callsIn_wide (n := 5)).1 ?_
  refine callsIn_of_wp_marks Try.func22 rfl trivial ?_ rfl
  simp only [Try.ntmps22, List.size_toArray, List.length_cons, List.length_nil, Nat.reduceAdd, Nat.reduceSub, Array.replicate_succ, Array.replicate_zero, List.push_toArray, List.append_toArray, List.nil_append, List.cons_append]
  gi_wp2_with fail
  refine ⟨trivial, (callsIn_wide.2 (counterpart_any _)).mono ?_⟩; rintro e w' ⟨rfl, rfl⟩
  gi_wp2_with fail
  refine ⟨trivial, (callsIn_wide.2 (shifts_any _)).mono ?_⟩; rintro e w' ⟨rfl, rfl⟩
  gi_wp2_with fail
  refine ⟨trivial, (callsIn_wide.2 (backward_any _ _ _ _)).mono ?_⟩; rintro e w' ⟨rfl, rfl⟩
  gi_wp2_with fail
  obtain ⟨W0, hW0⟩ : ∃ W0, ((((w.alloc (.cells #[.int .u32 (U x)] 35)).alloc (.cells #[.int .u32 340573321] 35)).alloc (.cells #[.int .i64 15, .int .i64 13, .int .i64 16] 3)).alloc (.cells #[.slice (some ⟨w.heap.size + 1 + 1, 0, none⟩) 3 3] 55)) = W0 := ⟨_, rfl⟩
  have hsz : W0.heap.size = w.heap.size + 4 := by rw [← hW0]; simp
  have hB0 : Below w.heap.size w W0 := by rw [← hW0]; exact ((((Below.refl _ w).alloc (Nat.le_refl _) _).alloc (by simp) _).alloc (by simp; omega) _).alloc (by simp; omega) _
  have hx0 : W0.cell? ⟨w.heap.size, 0, none⟩ = some (.int .u32 (U x)) ∧ W0.frozen? ⟨w.heap.size, 0, none⟩ = false := by rw [← hW0]; simp [go_sem, World.cell?_alloc_past]
  have hc0 : W0.cell? ⟨w.heap.size + 1, 0, none⟩ = some (.int .u32 340573321) := by rw [← hW0]; simp [go_sem, World.cell?_alloc_past]
  have hs0 : W0.cell? ⟨w.heap.size + 3, 0, none⟩ = some (.slice (some ⟨w.heap.size + 2, 0, none⟩) 3 3) := by rw [← hW0]; simp [go_sem, World.cell?_alloc_past]
  have hz0 : ∀ j, j < 3 → W0.cell? ⟨w.heap.size + 2, j, none⟩ = some (.int .i64 (([15, 13, 16] : List Int)[j]?.getD 0)) := by
    intro j hj
    rw [← hW0]
    have : j = 0 ∨ j = 1 ∨ j = 2 := by omega
    rcases this with rfl | rfl | rfl <;> simp [go_sem, World.cell?_alloc_past]
  rw [hW0]
  have e1 : ∀ y : BitVec 32, IntKind.u32.wrap (U y * 340573321) = U (y * counter) := fun y => by rw [IntKind.wrap_u32, ← U_counter, U_mul]
  clear hW0
  refine wpIn_rangeFunc_ownG (F := Fence.wide) rfl (by decide) (gf := 42) (lb := #[.pointer (some ⟨w.heap.size + 1 + 1 + 1, 0, none⟩)]) rfl trivial (enters_of Try.func42 (by kernel_rfl) rfl)
    (back_stops Fence.wide _ trivial rfl (by decide) (w.heap.size + 3) (w.heap.size + 2) 3 3 [15, 13, 16] (by decide) W0 (by omega) (by omega) hs0 hz0) (fun h k => KpTwo.trans h k) (fun W l o o' hl _ _ _ => KpTwo.putObj W o' (by omega) (by omega)) (Below.refl _ _) (fun _ => rfl)
    (fun pre W => (W.cell? ⟨w.heap.size, 0, none⟩ = some (.int .u32 (U (stillN x pre))) ∧ W.frozen? ⟨w.heap.size, 0, none⟩ = false ∧ W.cell? ⟨w.heap.size + 1, 0, none⟩ = some (.int .u32 340573321)) ∧ Below w.heap.size w W ∧ W0.heap.size ≤ W.heap.size)
    (fun _ _ _ => False)
    (OwnFrom.and (Own.from (fun s A B row hs hg hr => ⟨cell_kept hs.1 hg hr, (frozen_kept hs.1 hg hr).trans hs.2.1, cell_kept hs.2.2 hg hr⟩) _) (OwnFrom.and (ownFrom_below (Nat.le_refl _) (by omega)) (fun s A B row hs hg hr => Nat.le_trans hs hg.size)))
    (fun _ _ _ _ _ hs _ _ => hs)
    ⟨⟨hx0.1, hx0.2, hc0⟩, hB0, Nat.le_refl _⟩
    (fun j => { tmps := #[.int .u32 (U x), .pointer (some ⟨w.heap.size, 0, none⟩), .int .u32 0, .pointer (some ⟨w.heap.size + 1, 0, none⟩), undef, .int .i64 (shiftOf j.1 : Nat), .int .u32 340573321,
      .slice (some ⟨w.heap.size + 1 + 1, 0, none⟩) 3 3, .func (.func 42) #[] #[.pointer (some ⟨w.heap.size + 1 + 1 + 1, 0, none⟩)], .int .i64 ((3 - 1 - j.1 : Nat) : Int), .int .i64 (shiftOf j.1 : Nat), undef, undef, undef, undef, undef, undef, undef, undef, undef], defers := [] }) ?assign ?body ?done ?stop
  case assign =>
    intro l j W K hK
    have hv : ([15, 13, 16] : List Int)[3 - 1 - j.1]?.getD 0 = ((shiftOf j.1 : Nat) : Int) := by
      obtain ⟨j, hj⟩ := j
      have : j = 0 ∨ j = 1 ∨ j = 2 := by omega
      rcases this with rfl | rfl | rfl <;> rfl
    unfold backEnc
    rw [hv]
    gi_wp2
    exact hK
  case body =>
    rintro l pre j W ⟨⟨hc1, hf1, hc2⟩, hB, hS⟩ _
    have hk16 : shiftOf j.1 ≤ 16 := by
      unfold shiftOf; split <;> (try split) <;> omega
    have HN := Lib.hid (stillN_snoc x pre j)
    obtain ⟨y, hy⟩ : ∃ y, stillN x pre = y := ⟨_, rfl⟩
    rw [hy] at hc1
    have HY := Lib.hid hy
    obtain ⟨k, hk⟩ : ∃ k, shiftOf j.1 = k := ⟨_, rfl⟩
    rw [hk] at hk16 ⊢
    have HK := Lib.hid hk
    clear hy hk hs0 hz0 hx0 hc0
    have u0 := U_lo (xsh2 y k)
    have u1 := U_hi (xsh2 y k)
    have hwr : IntKind.i64.wrap (2 * (k : Int)) = 2 * (k : Int) := by simp only [IntKind.wrap_i64]; omega
    have hmx : Try.prog.follows .mixedOrders = true := by kernel_rfl
    gi_wp2
    refine roundRegion_heldL (fun w' => w'.cell? ⟨w.heap.size, 0, none⟩ = some (.int .u32 (U y)) ∧ w'.cell? ⟨w.heap.size + 1, 0, none⟩ = some (.int .u32 340573321)) 8 (L := #[false, false, false, false, false, false, false, false, false]) (m := 9) hmx (by kernel_rfl) (fun _ _ h => h) rfl rfl ⟨hc1, hc2⟩ (fun hHeld => ?_)
    refine takeH (i := 0) (L := #[true, false, false, false, false, false, false, false, false]) (v := ?_) rfl (by rfl) (by kernel_rfl) (by kernel_rfl) (by kernel_rfl) (fun _ _ _ h => h) (by assumption) (by rfl) ?hy1 ?rest1
    case hy1 => intro w hSw; (try dsimp only at hSw); go_simp; (try with_reducible rfl)
    try simp only [Act.put, List.setIfInBounds_toArray, List.set_cons_zero, List.set_cons_succ]
    refine takeH (i := 1) (L := #[true, true, false, false, false, false, false, false, false]) (v := ?_) rfl (by rfl) (by kernel_rfl) (by kernel_rfl) (by kernel_rfl) (fun _ _ _ h => h) (by assumption) (by rfl) ?hy2 ?rest2
    case hy2 => intro w hSw; (try dsimp only at hSw); go_simp; (try with_reducible rfl)
    try simp only [Act.put, List.setIfInBounds_toArray, List.set_cons_zero, List.set_cons_succ]
    refine takeH (i := 2) (L := #[true, true, true, false, false, false, false, false, false]) (v := ?_) rfl (by rfl) (by kernel_rfl) (by kernel_rfl) (by kernel_rfl) (fun _ _ _ h => h) (by assumption) (by rfl) ?hy3 ?rest3
    case hy3 => intro w hSw; (try dsimp only at hSw); go_simp; (try with_reducible rfl)
    try simp only [Act.put, List.setIfInBounds_toArray, List.set_cons_zero, List.set_cons_succ]
    refine takeH (i := 3) (L := #[true, true, true, true, false, false, false, false, false]) (v := ?_) rfl (by rfl) (by kernel_rfl) (by kernel_rfl) (by kernel_rfl) (fun _ _ _ h => h) (by assumption) (by rfl) ?hy4 ?rest4
    case hy4 => intro w hSw; (try dsimp only at hSw); go_simp; (try with_reducible rfl)
    try simp only [Act.put, List.setIfInBounds_toArray, List.set_cons_zero, List.set_cons_succ]
    refine takeH (i := 6) (L := #[true, true, true, true, false, false, true, false, false]) (v := ?_) rfl (by rfl) (by kernel_rfl) (by kernel_rfl) (by kernel_rfl) (fun _ _ _ h => h) (by assumption) (by rfl) ?hy5 ?rest5
    case hy5 => intro w hSw; (try dsimp only at hSw); go_simp; (try with_reducible rfl)
    try simp only [Act.put, List.setIfInBounds_toArray, List.set_cons_zero, List.set_cons_succ]
    refine stepH (i := 4) (L := #[true, true, true, true, true, false, true, false, false]) rfl (by rfl) (by kernel_rfl) (by rfl) (fun K hK => ?_)
    go_simp
    refine hK.out _ _ (fun _ => ⟨(World.cell?_alloc_lt _ _ _ (World.block_lt_of_cell? _ _ hHeld.1)).trans hHeld.1, (World.cell?_alloc_lt _ _ _ (World.block_lt_of_cell? _ _ hHeld.2)).trans hHeld.2⟩) (fun hHeld2 => ?_)
    clear hK K
    refine stepH (i := 5) (L := #[true, true, true, true, true, true, true, false, false]) rfl (by rfl) (by kernel_rfl) (by rfl) (fun K hK => ?_)
    go_simp
    refine (folded_two _ y k (2 * k) _ _ _ ?d1 ?d2 hk16 rfl).mono ?_
    case d1 => simp [go_sem]
    case d2 => simp [go_sem]
    rintro e w' ⟨rfl, rfl⟩
    go_simp
    refine hK.out _ _ (fun _ => hHeld2 (by decide)) (fun hHeld3 => ?_)
    clear hK K
    refine stepH (i := 7) (L := #[true, true, true, true, true, true, true, true, false]) rfl (by rfl) (by kernel_rfl) (by rfl) (fun K hK => ?_)
    go_simp
    refine hK.out _ _ (fun _ => hHeld3 (by decide)) (fun hHeld4 => ?_)
    clear hK K
    have hcx := (hHeld4 (by decide)).1
    have hfx : (W.alloc (.cells #[.int .i64 (k : Int), .int .i64 (2 * (k : Int))] 3)).drew.frozen? ⟨w.heap.size, 0, none⟩ = false := by
      exact (frozen?_alloc_cells _ _ _ _).trans hf1
    refine stepH (i := 8) (L := #[true, true, true, true, true, true, true, true, true]) rfl (by rfl) (by kernel_rfl) (by rfl) (fun K hK => ?_)
    go_simp
    refine hK.out _ _ (fun h => absurd rfl h) (fun _ => ?_)
    clear hK K
    refine doneZ (by kernel_rfl) ?_ _
    have hc1a : (W.alloc (.cells #[.int .i64 (k : Int), .int .i64 (2 * (k : Int))] 3)).cell? ⟨w.heap.size, 0, none⟩ = some (.int .u32 (U y)) := hcx
    have hc2a : (W.alloc (.cells #[.int .i64 (k : Int), .int .i64 (2 * (k : Int))] 3)).cell? ⟨w.heap.size + 1, 0, none⟩ = some (.int .u32 340573321) := (hHeld4 (by decide)).2
    refine ⟨(((KeepsOthers.alloc _ _).trans (KeepsOthers.setCell _ _ _)).trans (KeepsOthers.drew _)).from _, (((KpTwo.refl _ _ W).alloc _ (by omega) (by omega)).setCell (p := ⟨w.heap.size, 0, none⟩) _ (by simp) (by simp)).drew, ⟨?_, ?_, ?_⟩, ?_, ?_⟩
    · refine (World.cell?_setCell_same' _ _ _ (by rw [hc1a]; rfl)).trans ?_
      rw [HN.out, HY.out, HK.out]
      rfl
    · exact (World.frozen?_setCell _ _ _ _).trans hfx
    · exact (World.cell?_setCell_other _ _ _ _ (by simp)).trans hc2a
    · exact ((hB.alloc (by omega) _).setCell (p := ⟨w.heap.size, 0, none⟩) (Nat.le_refl _) _).drew
    · show W0.heap.size ≤ ((W.alloc _).setCell _ _).heap.size
      rw [World.size_setCell, World.size_alloc]
      omega
  case done =>
    rintro D ys W hD rfl ⟨⟨hc, _⟩, hB, hS⟩ hK
    rw [stillN_all] at hc
    gi_wp2
    refine ⟨by simp, .inl ⟨_, _, rfl, run_takeDeferred hK, ?_⟩⟩
    exact ⟨_, results_tmp rfl _ _ _, rfl, hB.trans (belowK_b (w := w) (Nat.le_refl _) W D _ _ (by omega) hK rfl rfl)⟩
  case stop =>
    rintro D c pre W _ _ h _
    exact h.elim
end Least
end Go.Proofs.Ytpmhnheimaimmaa
