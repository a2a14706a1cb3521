/- A number of another sign is added to one under way: a walk. -/
import Derived.Test.YtlbkepiflhchdaaDoorDyW4
import Derived.Test.YtlbkepiflhchdaaDoorRegionE
import Derived.ScopeJumps
namespace Go.Proofs.YtlbkepiflhchdaaDoor
open Go.RowKit
namespace Dy
open Dp
theorem row_range {w : World} {g o : Nat} {ws : List Int} (h : Row w g o ws) : w.rangeAt g o (ws.map (Value.int .u32)) := fun j v hv => by
  have hj : j < 74 := by
    have := h.len
    rcases Nat.lt_or_ge j 74 with h' | h'
    · exact h'
    · rw [List.getElem?_eq_none (by simp; omega)] at hv
      cases hv
  rw [h.cell j hj]
  have hl : j < ws.length := by rw [h.len]; exact hj
  rw [List.getElem?_map, List.getElem?_eq_getElem hl] at hv
  rw [List.getElem?_eq_getElem hl]
  exact hv
theorem row_there {w : World} {g o n : Nat} {ws : List Int} (h : Row w g o ws) (hn : n = 74) : w.there g o n := fun j hj => by
  subst hn
  exact ⟨by rw [h.cell j hj]; rfl, h.free j hj⟩
theorem setCells_other (b k : Nat) : ∀ (vs : List Value) (o : Nat) (w : World), k ≠ b → (w.setCells b o vs).heap[k]? = w.heap[k]?
  | [], _, _, _ => rfl
  | v :: r, o, w, h => by
    rw [World.setCells, setCells_other b k r (o + 1) _ h]
    exact heap_setCell_other _ _ _ _ h
theorem setCells_row {b : Nat} {t : TypeId} : ∀ (vs old A : List Value) (w : World), old.length = vs.length → w.heap[b]? = some (.cells (A ++ old).toArray t (0, 0)) →
    (w.setCells b A.length vs).heap[b]? = some (.cells (A ++ vs).toArray t (0, 0))
  | [], old, A, w, hl, h => by
    have : old = [] := List.eq_nil_of_length_eq_zero hl
    subst this
    exact h
  | v :: vs, [], A, w, hl, h => by simp at hl
  | v :: vs, u :: old, A, w, hl, h => by
    rw [World.setCells]
    have h1 := heap_setCell_same w b A.length _ _ v h
    have e1 : ((A ++ u :: old).toArray.setIfInBounds A.length v) = ((A ++ [v]) ++ old).toArray := by
      simp
    rw [e1] at h1
    have ih := setCells_row vs old (A ++ [v]) _ (by simpa using hl) h1
    simpa using ih
theorem OnlyAt.setCells {g : Nat} {a : World} {b : Nat} (hb : b = g ∨ a.heap.size ≤ b) : ∀ (vs : List Value) (o : Nat) {w : World}, OnlyAt g a w → OnlyAt g a (w.setCells b o vs)
  | [], _, _, h => h
  | v :: r, o, w, h => by
    rw [World.setCells]
    refine OnlyAt.setCells hb r (o + 1) ?_
    rcases hb with rfl | hb
    · exact h.setCell v
    · exact h.setFar hb o v
theorem Sum.swap {w : World} {g : Nat} {s : Bool} {L : Value} {ex : Int} {ws us : List Int} (h : Sum w g s L ex ws) (hl : us.length = 74) (hd : Dig 4294967296 us) : Sum (w.setCells g 3 (rowU us).toList) g s L ex us := by
  refine ⟨?_, hl, hd⟩
  have h0 : w.heap[g]? = some (.cells ([.bool s, L, .int .i64 ex] ++ ws.map (Value.int .u32)).toArray 92 (0, 0)) := by
    rw [h.blk]
    simp [rowU]
  have h1 := setCells_row (rowU us).toList (ws.map (Value.int .u32)) [.bool s, L, .int .i64 ex] w (by simp [rowU, hl, h.len]) h0
  refine h1.trans ?_
  simp [rowU]
theorem Sum.sign {w : World} {g : Nat} {s : Bool} {L : Value} {ex : Int} {ws : List Int} (h : Sum w g s L ex ws) (t : Bool) : Sum (w.setCell ⟨g, 0, none⟩ (.bool t)) g t L ex ws :=
  ⟨by rw [heap_setCell_same w g _ _ _ _ h.blk]; congr 2; apply Array.ext'; simp, h.len, h.dig⟩
theorem borrow_ex (x y c : Nat) (hx : x < 4294967296) (hy : y < 4294967296) (hc : c ≤ 1) : ∃ d b, d < 4294967296 ∧ b ≤ 1 ∧ x + 4294967296 * b = d + y + c := by
  by_cases h : x < y + c
  · exact ⟨x + 4294967296 - y - c, 1, by omega, by omega, by omega⟩
  · exact ⟨x - y - c, 0, by omega, by omega, by omega⟩
theorem wide_range {w : World} {g : Nat} {ws : List Int} (h : Wide w g ws) : w.rangeAt g 0 (ws.map (Value.int .u32)) := row_range h.row
set_option maxHeartbeats 3200000 in
set_option maxRecDepth 100000 in
/-- (*dyad.sum).add: numbers of unlike signs, the first one less. -/
theorem add_less (w : World) (g : Nat) (s t : Bool) (hst : s ≠ t) (L : Value) (ex : Int) (ws us : List Int) (hS : Sum w g s L ex ws) (hg : g < w.heap.size) (hul : us.length = 74) (hud : Dig 4294967296 us) (hlt : num 4294967296 ws < num 4294967296 us) :
    Calls Tryd.prog 63 #[.pointer (some ⟨g, 0, none⟩), .bool t, .agg (rowU us)] w fun e w' => e = .returned (.tuple #[]) ∧ OnlyAt g w w' ∧ ∃ vs, Sum w' g t L ex vs ∧ num 4294967296 vs = num 4294967296 us - num 4294967296 ws := by
  have HLT := Lib.hid hlt
  have hbl : decide (num 4294967296 ws < num 4294967296 us) = true := by simpa using hlt
  have HBL := Lib.hid hbl
  have hW : Wide (w.alloc (.cells (rowU us) 81)) w.heap.size us := ⟨heap_alloc_last _ _, hul, hud⟩
  have hS1 := hS.of_heap (w' := w.alloc (.cells (rowU us) 81)) (Below.heap_alloc _ _ _ hg)
  have hO := (OnlyAt.refl g w).alloc (.cells (rowU us) 81)
  obtain ⟨q0, q1, q2⟩ := hS1.head
  have hne : (t == s) = false := by simpa using Ne.symm hst
  clear hlt hbl
  go_enter Tryd.func63, Tryd.ntmps63
  go_wp2_with fail
  apply wp_scope_jumps 0 (fun a' w' => a' = _ ∧ w' = _) (fun _ _ => 0) rfl
  · go_wp2_with fail
    go_step3
    exact ⟨rfl, rfl, rfl⟩
  · rintro a' w' ⟨rfl, rfl⟩
    go_wp2_with fail
    refine (below_any _ g 3 w.heap.size 0 ws us hS1.row hW.row true HBL.out).mono ?_
    rintro e w1 ⟨rfl, m, rfl⟩
    go_wp2_with fail
    have hS2 := hS1.of_heap (w' := (w.alloc (.cells (rowU us) 81)).drewN m) rfl
    have hW2 := hW.of_heap (w' := (w.alloc (.cells (rowU us) 81)).drewN m) rfl
    have hO2 := hO.drewN m
    generalize (w.alloc (.cells (rowU us) 81)).drewN m = w2 at *
    have hI := Lib.hid (zero_of_info Tryd.info81).2
    have hR2 := Lib.hid hS2.row
    have hwl := Lib.hid hS.len
    have hT : w2.drew.heap[g]? = w2.heap[g]? ∧ w2.drew.heap[w.heap.size]? = w2.heap[w.heap.size]? := ⟨rfl, rfl⟩
    refine region_E (fun w' => w'.heap[g]? = w2.heap[g]? ∧ w'.heap[w.heap.size]? = w2.heap[w.heap.size]?) [10, 11, 15] (m := 16) (L := #[false, false, false, false, false, false, false, false, false, false, false, false, false, false, false, false]) (by kernel_rfl) (by rfl) (by rfl) ?_
    refine pureE (i := 0) (L := #[true, false, false, false, false, false, false, false, false, false, false, false, false, false, false, false]) (v := ?_) rfl (by rfl) (by kernel_rfl) (by kernel_rfl) (by kernel_rfl) (fun _ _ _ h => h) (by rfl) ?hy1 ?rest1
    case hy1 => intro w; go_simp; (try with_reducible rfl)
    try simp only [Act.put, List.setIfInBounds_toArray, List.set_cons_zero, List.set_cons_succ]
    refine pureE (i := 1) (L := #[true, true, false, false, false, false, false, false, false, false, false, false, false, false, false, false]) (v := ?_) rfl (by rfl) (by kernel_rfl) (by kernel_rfl) (by kernel_rfl) (fun _ _ _ h => h) (by rfl) ?hy2 ?rest2
    case hy2 => intro w; go_simp; (try with_reducible rfl)
    try simp only [Act.put, List.setIfInBounds_toArray, List.set_cons_zero, List.set_cons_succ]
    refine pureE (i := 3) (L := #[true, true, false, true, false, false, false, false, false, false, false, false, false, false, false, false]) (v := ?_) rfl (by rfl) (by kernel_rfl) (by kernel_rfl) (by kernel_rfl) (fun _ _ _ h => h) (by rfl) ?hy3 ?rest3
    case hy3 => intro w; go_simp; (try with_reducible rfl)
    try simp only [Act.put, List.setIfInBounds_toArray, List.set_cons_zero, List.set_cons_succ]
    refine pureE (i := 7) (L := #[true, true, false, true, false, false, false, true, false, false, false, false, false, false, false, false]) (v := ?_) rfl (by rfl) (by kernel_rfl) (by kernel_rfl) (by kernel_rfl) (fun _ _ _ h => h) (by rfl) ?hy4 ?rest4
    case hy4 => intro w; go_simp; (try with_reducible rfl)
    try simp only [Act.put, List.setIfInBounds_toArray, List.set_cons_zero, List.set_cons_succ]
    refine pureE (i := 4) (L := #[true, true, false, true, true, false, false, true, false, false, false, false, false, false, false, false]) (v := ?_) rfl (by rfl) (by kernel_rfl) (by kernel_rfl) (by kernel_rfl) (fun _ _ _ h => h) (by rfl) ?hy5 ?rest5
    case hy5 => intro w; go_simp; (try with_reducible rfl)
    try simp only [Act.put, List.setIfInBounds_toArray, List.set_cons_zero, List.set_cons_succ]
    refine pureE (i := 5) (L := #[true, true, false, true, true, true, false, true, false, false, false, false, false, false, false, false]) (v := ?_) rfl (by rfl) (by kernel_rfl) (by kernel_rfl) (by kernel_rfl) (fun _ _ _ h => h) (by rfl) ?hy6 ?rest6
    case hy6 => intro w; go_simp; (try with_reducible rfl)
    try simp only [Act.put, List.setIfInBounds_toArray, List.set_cons_zero, List.set_cons_succ]
    refine readE (i := 2) (L := #[true, true, true, true, true, true, false, true, false, false, false, false, false, false, false, false]) (v := .agg (rowU us)) rfl (by rfl) (by kernel_rfl) (by kernel_rfl) (by kernel_rfl) (fun _ _ _ h => h) (by assumption) (by rfl) ?hyA ?restA
    case hyA =>
      rintro w' ⟨_, h2⟩
      exact exec_load_mid 81 (.tmp 5) (by rfl) w.heap.size 0 (by rfl) (us.map (Value.int .u32)) (.array 74 52) (wide_range (hW2.of_heap h2)) Tryd.underlying81 (by rfl) (by rw [hI.out]; simp [hul])
    try simp only [Act.put, List.setIfInBounds_toArray, List.set_cons_zero, List.set_cons_succ]
    refine readE (i := 6) (L := #[true, true, true, true, true, true, true, true, false, false, false, false, false, false, false, false]) (v := .agg (rowU ws)) rfl (by rfl) (by kernel_rfl) (by kernel_rfl) (by kernel_rfl) (fun _ _ _ h => h) (by assumption) (by rfl) ?hyB ?restB
    case hyB =>
      rintro w' ⟨h1, _⟩
      exact exec_load_mid 81 (.tmp 48) (by rfl) g 3 (by rfl) (ws.map (Value.int .u32)) (.array 74 52) (row_range (hS2.of_heap h1).row) Tryd.underlying81 (by rfl) (by rw [hI.out]; simp [hwl.out])
    try simp only [Act.put, List.setIfInBounds_toArray, List.set_cons_zero, List.set_cons_succ]
    refine pureE (i := 8) (L := #[true, true, true, true, true, true, true, true, true, false, false, false, false, false, false, false]) (v := ?_) rfl (by rfl) (by kernel_rfl) (by kernel_rfl) (by kernel_rfl) (fun _ _ _ h => h) (by rfl) ?hy9 ?rest9
    case hy9 => intro w; go_simp; (try with_reducible rfl)
    try simp only [Act.put, List.setIfInBounds_toArray, List.set_cons_zero, List.set_cons_succ]
    refine pureE (i := 9) (L := #[true, true, true, true, true, true, true, true, true, true, false, false, false, false, false, false]) (v := ?_) rfl (by rfl) (by kernel_rfl) (by kernel_rfl) (by kernel_rfl) (fun _ _ _ h => h) (by rfl) ?hy10 ?rest10
    case hy10 => intro w; go_simp; (try with_reducible rfl)
    try simp only [Act.put, List.setIfInBounds_toArray, List.set_cons_zero, List.set_cons_succ]
    refine stepE (i := 10) (L := #[true, true, true, true, true, true, true, true, true, true, true, false, false, false, false, false]) rfl (by rfl) (by kernel_rfl) (by rfl) ?_
    refine wp_store_mid 81 (.tmp 52) (.tmp 45) rfl g 3 (rowU us) rfl rfl (row_there (hS2.of_heap hT.1).row (by rw [rowU_size, hul])) (by rw [hI.out, rowU_size, hul]) (rowU_one us) ⟨fun h => absurd h (by decide), ?_⟩
    try simp only [Act.put]
    have hS3 := (hS2.of_heap (w' := w2.drew) rfl).swap hul hud
    have hO3 := OnlyAt.setCells (b := g) (.inl rfl) (rowU us).toList 3 hO2.drew
    have hW3 := hW2.of_heap (w' := w2.drew.setCells g 3 (rowU us).toList) (setCells_other _ _ _ _ _ (by omega))
    generalize w2.drew.setCells g 3 (rowU us).toList = w3 at *
    refine stepE (i := 11) (L := #[true, true, true, true, true, true, true, true, true, true, true, true, false, false, false, false]) rfl (by rfl) (by kernel_rfl) (by rfl) ?_
    refine wp_store_row 81 (.tmp 5) (.tmp 49) rfl w.heap.size (rowU ws) rfl rfl _ _ hW3.blk (by rw [hI.out, rowU_size, hwl.out]) (by rw [rowU_size, rowU_size, hul, hwl.out]) (rowU_one ws) ⟨fun h => absurd h (by decide), ?_⟩
    try simp only [Act.put]
    have hS4 := hS3.of_heap (w' := w3.setRow w.heap.size (rowU ws)) (setRow_other _ _ _ _ (by omega))
    have hO4 := hO3.setRow (k := w.heap.size) (.inr (Nat.le_refl _)) (rowU ws)
    have hW4 : Wide (w3.setRow w.heap.size (rowU ws)) w.heap.size ws := ⟨setRow_heap _ _ _ _ _ _ hW3.blk, hwl.out, hS.dig⟩
    generalize w3.setRow w.heap.size (rowU ws) = w4 at *
    refine pureE (i := 12) (L := #[true, true, true, true, true, true, true, true, true, true, true, true, true, false, false, false]) (v := ?_) rfl (by rfl) (by kernel_rfl) (by kernel_rfl) (by kernel_rfl) (fun _ _ _ h => h) (by rfl) ?hy13 ?rest13
    case hy13 => intro w; go_simp; (try with_reducible rfl)
    try simp only [Act.put, List.setIfInBounds_toArray, List.set_cons_zero, List.set_cons_succ]
    refine pureE (i := 13) (L := #[true, true, true, true, true, true, true, true, true, true, true, true, true, true, false, false]) (v := ?_) rfl (by rfl) (by kernel_rfl) (by kernel_rfl) (by kernel_rfl) (fun _ _ _ h => h) (by rfl) ?hy14 ?rest14
    case hy14 => intro w; go_simp; (try with_reducible rfl)
    try simp only [Act.put, List.setIfInBounds_toArray, List.set_cons_zero, List.set_cons_succ]
    refine pureE (i := 14) (L := #[true, true, true, true, true, true, true, true, true, true, true, true, true, true, true, false]) (v := ?_) rfl (by rfl) (by kernel_rfl) (by kernel_rfl) (by kernel_rfl) (fun _ _ _ h => h) (by rfl) ?hy15 ?rest15
    case hy15 => intro w; go_simp; (try with_reducible rfl)
    try simp only [Act.put, List.setIfInBounds_toArray, List.set_cons_zero, List.set_cons_succ]
    obtain ⟨k1, k2, k3⟩ := hS4.head
    have k4 := hS4.free 0
    refine stepK (i := 15) (L := #[true, true, true, true, true, true, true, true, true, true, true, true, true, true, true, true]) rfl (by rfl) (by kernel_rfl) (by rfl) (fun K hK => ?_)
    go_simp
    refine hK _ _ ⟨fun h => absurd h (by decide), doneE (by kernel_rfl) ?_ _⟩
    clear hK K
    have hS5 := hS4.sign t
    have hW5 := hW4.of_heap (w' := w4.setCell ⟨g, 0, none⟩ (.bool t)) (heap_setCell_other _ _ _ _ (by simp; omega))
    have hO5 := hO4.setCell (o := 0) (.bool t)
    generalize w4.setCell ⟨g, 0, none⟩ (.bool t) = w5 at *
    clear hT hR2 hS1 hS2 hS3 hS4 hW hW2 hW3 hW4 hO hO2 hO3 hO4 q0 q1 q2 k1 k2 k3 k4
    go_wp2_with fail
    go_loopw [6, 8, 56] (fun cv _ iv wr => ∃ i c : Nat, ∃ cur : List Int, cv = .int .u32 c ∧ iv = .int .i64 i ∧ c ≤ 1 ∧ i ≤ 74 ∧ Sum wr g t L ex cur ∧ Wide wr w.heap.size ws ∧ OnlyAt g w wr ∧ Hid (cur.drop i = us.drop i) ∧ Hid (num 4294967296 (us.take i) + 4294967296 ^ i * c = num 4294967296 (cur.take i) + num 4294967296 (ws.take i))) (fun _ _ iv _ => 74 - (intOf iv).toNat)
    case atStart => exact ⟨0, 0, us, rfl, rfl, by omega, by omega, hS5, hW5, hO5, rfl, by simp [Hid, num]⟩
    case round =>
      obtain ⟨i, cc, cur, rfl, rfl, hc1, hi, hSr, hWr, hOr, hdrop, hnum⟩ := hrel
      by_cases hlt : i < 74
      · obtain ⟨x, hx, hx2⟩ := dig_get (by decide) hSr.dig i
        obtain ⟨y, hy, hy2⟩ := dig_get (by decide) hWr.dig i
        have c1 := hSr.row.cell i hlt
        have c2 := hWr.cell hlt
        have f1 := hSr.free (3 + i)
        rw [hx] at c1
        rw [hy] at c2
        have hk0 : (0 : Int) ≤ i := by omega
        have hk1 : (i : Int) < 74 := by omega
        have HX := Lib.hid hx
        have HY := Lib.hid hy
        clear hx hy
        obtain ⟨d, b, hd, hb, hdb⟩ := borrow_ex x y cc hx2 hy2 hc1
        have HD := Lib.hid hdb
        clear hdb
        go_wp2
        go_region_law (first
          | (go_simp; go_at_call 91; refine (Sub32_any _ x y cc d b hx2 hy2 hd hc1 hb HD.out).mono ?_; rintro e w' ⟨rfl, rfl⟩))
        all_goals go_wp2
        all_goals go_roundw
        all_goals first
          | exact ⟨i + 1, b, cur.set i (d : Int), rfl, by go_num, hb, by omega, (hSr.set i d hd).of_heap rfl, (hWr.of_heap (heap_setCell_other _ _ _ _ (by simp; omega))).of_heap rfl, (hOr.setCell _).drew,
              drop_on (by rw [hSr.len]; exact hlt) hdrop.out, by rw [Hid]; exact diff_law (by rw [hSr.len]; exact hlt) hnum.out ((drop_at hdrop.out).symm.trans HX.out) HY.out HD.out⟩
          | (simp [intOf]; omega)
      · obtain rfl : i = 74 := by omega
        have hend := diff_end (by decide) hSr.dig hSr.len hul hwl.out hnum.out (Nat.le_of_lt HLT.out)
        have HE := Lib.hid hend
        clear hend hnum hdrop
        go_wp2_with fail
        show Exit.jump _ _ _ _ _ _
        simp only [Exit.jump]
        refine bodyPost_end (results_none rfl _ _ _) rfl ?_
        exact ⟨rfl, hOr, cur, hSr, HE.out⟩

set_option maxHeartbeats 3200000 in
set_option maxRecDepth 100000 in
/-- (*dyad.sum).add: numbers of unlike signs, the first one not less. -/
theorem add_more (w : World) (g : Nat) (s t : Bool) (hst : s ≠ t) (L : Value) (ex : Int) (ws us : List Int) (hS : Sum w g s L ex ws) (hg : g < w.heap.size) (hul : us.length = 74) (hud : Dig 4294967296 us) (hle : num 4294967296 us ≤ num 4294967296 ws) :
    Calls Tryd.prog 63 #[.pointer (some ⟨g, 0, none⟩), .bool t, .agg (rowU us)] w fun e w' => e = .returned (.tuple #[]) ∧ OnlyAt g w w' ∧ ∃ vs, Sum w' g s L ex vs ∧ num 4294967296 vs = num 4294967296 ws - num 4294967296 us := by
  have HLE := Lib.hid hle
  have hbl : decide (num 4294967296 ws < num 4294967296 us) = false := by simpa using hle
  have HBL := Lib.hid hbl
  have hW : Wide (w.alloc (.cells (rowU us) 81)) w.heap.size us := ⟨heap_alloc_last _ _, hul, hud⟩
  have hS1 := hS.of_heap (w' := w.alloc (.cells (rowU us) 81)) (Below.heap_alloc _ _ _ hg)
  have hO := (OnlyAt.refl g w).alloc (.cells (rowU us) 81)
  obtain ⟨q0, q1, q2⟩ := hS1.head
  have hne : (t == s) = false := by simpa using Ne.symm hst
  clear hle hbl
  go_enter Tryd.func63, Tryd.ntmps63
  go_wp2_with fail
  apply wp_scope_jumps 0 (fun a' w' => a' = _ ∧ w' = _) (fun _ _ => 0) rfl
  · go_wp2_with fail
    go_step3
    exact ⟨rfl, rfl, rfl⟩
  · rintro a' w' ⟨rfl, rfl⟩
    go_wp2_with fail
    refine (below_any _ g 3 w.heap.size 0 ws us hS1.row hW.row false HBL.out).mono ?_
    rintro e w1 ⟨rfl, m, rfl⟩
    go_wp2_with fail
    have hS5 := hS1.of_heap (w' := (w.alloc (.cells (rowU us) 81)).drewN m) rfl
    have hW5 := hW.of_heap (w' := (w.alloc (.cells (rowU us) 81)).drewN m) rfl
    have hO5 := hO.drewN m
    generalize (w.alloc (.cells (rowU us) 81)).drewN m = w2 at *
    clear hS1 hW hO q0 q1 q2
    go_loopw [6, 8, 56] (fun cv _ iv wr => ∃ i c : Nat, ∃ cur : List Int, cv = .int .u32 c ∧ iv = .int .i64 i ∧ c ≤ 1 ∧ i ≤ 74 ∧ Sum wr g s L ex cur ∧ Wide wr w.heap.size us ∧ OnlyAt g w wr ∧ Hid (cur.drop i = ws.drop i) ∧ Hid (num 4294967296 (ws.take i) + 4294967296 ^ i * c = num 4294967296 (cur.take i) + num 4294967296 (us.take i))) (fun _ _ iv _ => 74 - (intOf iv).toNat)
    case atStart => exact ⟨0, 0, ws, rfl, rfl, by omega, by omega, hS5, hW5, hO5, rfl, by simp [Hid, num]⟩
    case round =>
      obtain ⟨i, cc, cur, rfl, rfl, hc1, hi, hSr, hWr, hOr, hdrop, hnum⟩ := hrel
      by_cases hlt : i < 74
      · obtain ⟨x, hx, hx2⟩ := dig_get (by decide) hSr.dig i
        obtain ⟨y, hy, hy2⟩ := dig_get (by decide) hWr.dig i
        have c1 := hSr.row.cell i hlt
        have c2 := hWr.cell hlt
        have f1 := hSr.free (3 + i)
        rw [hx] at c1
        rw [hy] at c2
        have hk0 : (0 : Int) ≤ i := by omega
        have hk1 : (i : Int) < 74 := by omega
        have HX := Lib.hid hx
        have HY := Lib.hid hy
        clear hx hy
        obtain ⟨d, b, hd, hb, hdb⟩ := borrow_ex x y cc hx2 hy2 hc1
        have HD := Lib.hid hdb
        clear hdb
        go_wp2
        go_region_law (first
          | (go_simp; go_at_call 91; refine (Sub32_any _ x y cc d b hx2 hy2 hd hc1 hb HD.out).mono ?_; rintro e w' ⟨rfl, rfl⟩))
        all_goals go_wp2
        all_goals go_roundw
        all_goals first
          | exact ⟨i + 1, b, cur.set i (d : Int), rfl, by go_num, hb, by omega, (hSr.set i d hd).of_heap rfl, (hWr.of_heap (heap_setCell_other _ _ _ _ (by simp; omega))).of_heap rfl, (hOr.setCell _).drew,
              drop_on (by rw [hSr.len]; exact hlt) hdrop.out, by rw [Hid]; exact diff_law (by rw [hSr.len]; exact hlt) hnum.out ((drop_at hdrop.out).symm.trans HX.out) HY.out HD.out⟩
          | (simp [intOf]; omega)
      · obtain rfl : i = 74 := by omega
        have hend := diff_end (by decide) hSr.dig hSr.len hS.len hul hnum.out HLE.out
        have HE := Lib.hid hend
        clear hend hnum hdrop
        go_wp2_with fail
        show Exit.jump _ _ _ _ _ _
        simp only [Exit.jump]
        refine bodyPost_end (results_none rfl _ _ _) rfl ?_
        exact ⟨rfl, hOr, cur, hSr, HE.out⟩
end Dy
end Go.Proofs.YtlbkepiflhchdaaDoor
