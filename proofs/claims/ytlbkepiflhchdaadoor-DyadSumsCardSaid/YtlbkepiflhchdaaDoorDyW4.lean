/- A number is added to one under way: a walk. -/
import Derived.Test.YtlbkepiflhchdaaDoorDyW3
import Derived.Deep.RegionLawGrows
import Derived.Deep.AppendLies
namespace Go.Proofs.YtlbkepiflhchdaaDoor
open Go.RowKit
namespace Dy
open Dp
/-- Nothing that was there has changed but block g. -/
structure OnlyAt (g : Nat) (w w' : World) : Prop where
  os : w'.os = w.os
  tape : w'.tape = w.tape
  output : w'.output = w.output
  size : w.heap.size ≤ w'.heap.size
  block : ∀ k, k < w.heap.size → k ≠ g → w'.heap[k]? = w.heap[k]?
theorem OnlyAt.refl (g : Nat) (w : World) : OnlyAt g w w := ⟨rfl, rfl, rfl, Nat.le_refl _, fun _ _ _ => rfl⟩
theorem OnlyAt.trans {g : Nat} {a b c : World} (h : OnlyAt g a b) (k : OnlyAt g b c) : OnlyAt g a c :=
  ⟨k.os.trans h.os, k.tape.trans h.tape, k.output.trans h.output, Nat.le_trans h.size k.size, fun j hj hg => (k.block j (Nat.lt_of_lt_of_le hj h.size) hg).trans (h.block j hj hg)⟩
theorem OnlyAt.alloc {g : Nat} {a w : World} (h : OnlyAt g a w) (o : Obj) : OnlyAt g a (w.alloc o) :=
  ⟨h.os, h.tape, h.output, by have := h.size; simp; omega, fun k hk hg => (Below.heap_alloc _ _ _ (Nat.lt_of_lt_of_le hk h.size)).trans (h.block k hk hg)⟩
theorem OnlyAt.setCell {g o : Nat} {a w : World} (h : OnlyAt g a w) (u : Value) : OnlyAt g a (w.setCell ⟨g, o, none⟩ u) :=
  ⟨h.os, h.tape, h.output, by have := h.size; simp [World.setCell]; omega, fun k hk hg => (Below.heap_setCell _ _ _ _ hg).trans (h.block k hk hg)⟩
theorem OnlyAt.setFar {g k : Nat} {a w : World} (h : OnlyAt g a w) (hk : a.heap.size ≤ k) (o : Nat) (u : Value) : OnlyAt g a (w.setCell ⟨k, o, none⟩ u) :=
  ⟨h.os, h.tape, h.output, by have := h.size; simp [World.setCell]; omega, fun j hj hg => (Below.heap_setCell _ _ _ _ (by show j ≠ k; omega)).trans (h.block j hj hg)⟩
theorem OnlyAt.drewN {g : Nat} {a w : World} (h : OnlyAt g a w) (m : Nat) : OnlyAt g a (w.drewN m) := ⟨h.os, h.tape, h.output, h.size, h.block⟩
theorem OnlyAt.drew {g : Nat} {a w : World} (h : OnlyAt g a w) : OnlyAt g a w.drew := ⟨h.os, h.tape, h.output, h.size, h.block⟩
theorem OnlyAt.setRow {g k : Nat} {a w : World} (h : OnlyAt g a w) (hk : k = g ∨ a.heap.size ≤ k) (cs : Array Value) : OnlyAt g a (w.setRow k cs) :=
  ⟨h.os, h.tape, h.output, by rw [size_setRow]; exact h.size, fun j hj hg => (setRow_other w k j cs (by omega)).trans (h.block j hj hg)⟩
theorem OnlyAt.below {g B : Nat} {a w w' : World} (h : OnlyAt g w w') (hB : Below B a w) (hg : B ≤ g) (hs : B ≤ w.heap.size) : Below B a w' :=
  ⟨h.os.trans hB.os, h.tape.trans hB.tape, h.output.trans hB.output, Nat.le_trans hB.size h.size, fun k hk => (h.block k (by omega) (by omega)).trans (hB.block k hk)⟩

/-- A dyad under way in a block of its own. -/
structure Sum (w : World) (g : Nat) (s : Bool) (L : Value) (ex : Int) (ws : List Int) : Prop where
  blk : w.heap[g]? = some (.cells (#[.bool s, L, .int .i64 ex] ++ rowU ws) 92 (0, 0))
  len : ws.length = 74
  dig : Dig 4294967296 ws
theorem sum_at (s : Bool) (L : Value) (ex : Int) (ws : List Int) (j : Nat) : (#[.bool s, L, .int .i64 ex] ++ rowU ws)[3 + j]? = (rowU ws)[j]? := by
  rw [Array.getElem?_append_right (by simp)]
  congr 1
  simp
theorem sum_set (s : Bool) (L : Value) (ex : Int) (ws : List Int) (j : Nat) (v : Int) : (#[.bool s, L, .int .i64 ex] ++ rowU ws).setIfInBounds (3 + j) (.int .u32 v) = #[.bool s, L, .int .i64 ex] ++ rowU (ws.set j v) := by
  simp only [rowU, List.map_set]
  apply Array.ext'
  simp [show 3 + j = j + 1 + 1 + 1 by omega]
theorem Sum.row {w : World} {g : Nat} {s : Bool} {L : Value} {ex : Int} {ws : List Int} (h : Sum w g s L ex ws) : Row w g 3 ws :=
  ⟨fun j hj => by rw [cell_of_row w g _ _ _ _ h.blk, sum_at]; exact rowU_get ws (by rw [h.len]; exact hj), fun j _ => frozen_of_row w g _ _ _ h.blk, h.len, h.dig⟩
theorem Sum.head {w : World} {g : Nat} {s : Bool} {L : Value} {ex : Int} {ws : List Int} (h : Sum w g s L ex ws) : w.cell? ⟨g, 0, none⟩ = some (.bool s) ∧ w.cell? ⟨g, 1, none⟩ = some L ∧ w.cell? ⟨g, 2, none⟩ = some (.int .i64 ex) := by
  refine ⟨?_, ?_, ?_⟩ <;> (rw [cell_of_row w g _ _ _ _ h.blk, Array.getElem?_append_left (by simp)]; rfl)
theorem Sum.free {w : World} {g : Nat} {s : Bool} {L : Value} {ex : Int} {ws : List Int} (h : Sum w g s L ex ws) (j : Nat) : w.frozen? ⟨g, j, none⟩ = false := frozen_of_row w g j _ _ h.blk
theorem Sum.set {w : World} {g : Nat} {s : Bool} {L : Value} {ex : Int} {ws : List Int} (h : Sum w g s L ex ws) (j d : Nat) (hd : d < 4294967296) : Sum (w.setCell ⟨g, 3 + j, none⟩ (.int .u32 d)) g s L ex (ws.set j d) :=
  ⟨by rw [heap_setCell_same w g _ _ _ _ h.blk, sum_set], by rw [List.length_set, h.len], dig_set h.dig j d hd⟩
theorem Sum.of_heap {w w' : World} {g : Nat} {s : Bool} {L : Value} {ex : Int} {ws : List Int} (h : Sum w g s L ex ws) (hh : w'.heap[g]? = w.heap[g]?) : Sum w' g s L ex ws := ⟨hh.trans h.blk, h.len, h.dig⟩
theorem Wide.of_heap {w w' : World} {g : Nat} {ws : List Int} (h : Wide w g ws) (hh : w'.heap[g]? = w.heap[g]?) : Wide w' g ws := ⟨hh.trans h.blk, h.len, h.dig⟩

theorem drop_at {l m : List Int} {i : Nat} (h : l.drop i = m.drop i) : l[i]?.getD 0 = m[i]?.getD 0 := by
  have e := congrArg (fun t => t[0]?.getD 0) h
  simpa using e
theorem drop_on {l m : List Int} {i : Nat} {v : Int} (_hl : i < l.length) (h : l.drop i = m.drop i) : Hid ((l.set i v).drop (i + 1) = m.drop (i + 1)) := by
  rw [Hid, List.drop_set_of_lt (by omega)]
  have e := congrArg (List.drop 1) h
  rw [List.drop_drop, List.drop_drop] at e
  exact e
set_option maxHeartbeats 3200000 in
set_option maxRecDepth 100000 in
/-- (*dyad.sum).add: numbers of one sign. -/
theorem add_like (w : World) (g : Nat) (s : Bool) (L : Value) (ex : Int) (ws us : List Int) (hS : Sum w g s L ex ws) (hg : g < w.heap.size) (hul : us.length = 74) (hud : Dig 4294967296 us) (hlt : num 4294967296 ws + num 4294967296 us < 4294967296 ^ 74) :
    Calls Tryd.prog 63 #[.pointer (some ⟨g, 0, none⟩), .bool s, .agg (rowU us)] w fun e w' => e = .returned (.tuple #[]) ∧ OnlyAt g w w' ∧ ∃ vs, Sum w' g s L ex vs ∧ num 4294967296 vs = num 4294967296 ws + num 4294967296 us := by
  have HLT := Lib.hid hlt
  have hW : Wide (w.alloc (.cells (rowU us) 81)) w.heap.size us := ⟨heap_alloc_last _ _, hul, hud⟩
  have hS1 := hS.of_heap (w' := w.alloc (.cells (rowU us) 81)) (Below.heap_alloc _ _ _ hg)
  have hO := (OnlyAt.refl g w).alloc (.cells (rowU us) 81)
  obtain ⟨q0, q1, q2⟩ := hS1.head
  have hne : (s != s) = false := by simp
  clear hlt
  go_enter Tryd.func63, Tryd.ntmps63
  go_wp2_with fail
  go_step3
  go_wp2_with fail
  go_loopw [6, 7, 16] (fun cv _ iv wr => ∃ i c : Nat, ∃ cur : List Int, cv = .int .u32 c ∧ iv = .int .i64 i ∧ c ≤ 1 ∧ i ≤ 74 ∧ Sum wr g s L ex cur ∧ Wide wr w.heap.size us ∧ OnlyAt g w wr ∧ Hid (cur.drop i = ws.drop i) ∧ Hid (num 4294967296 (cur.take i) + 4294967296 ^ i * c = num 4294967296 (ws.take i) + num 4294967296 (us.take i))) (fun _ _ iv _ => 74 - (intOf iv).toNat)
  case atStart => exact ⟨0, 0, ws, rfl, rfl, by omega, by omega, hS1, hW, hO, rfl, by simp [Hid, num]⟩
  case round =>
    obtain ⟨i, cc, cur, rfl, rfl, hc1, hi, hSr, hWr, hOr, hdrop, hnum⟩ := hrel
    by_cases hlt : i < 74
    · obtain ⟨x, hx, hx2⟩ := dig_get (by decide) hSr.dig i
      obtain ⟨y, hy, hy2⟩ := dig_get (by decide) hud i
      have c1 := hSr.row.cell i hlt
      have c2 := hWr.cell hlt
      have f1 := hSr.free (3 + i)
      rw [hx] at c1
      rw [hy] at c2
      have hk0 : (0 : Int) ≤ i := by omega
      have hk1 : (i : Int) < 74 := by omega
      have HX := Lib.hid hx
      have HY := Lib.hid hy
      clear hx hy
      obtain ⟨d, hd⟩ : ∃ d, (x + y + cc) % 4294967296 = d := ⟨_, rfl⟩
      obtain ⟨t, ht⟩ : ∃ t, (x + y + cc) / 4294967296 = t := ⟨_, rfl⟩
      have HD := Lib.hid hd
      have HT := Lib.hid ht
      clear hd ht
      go_wp2
      go_region_law (first
        | (go_simp; go_at_call 89; refine (Add32_any _ x y cc d t hx2 hy2 hc1 HD.out HT.out).mono ?_; rintro e w' ⟨rfl, rfl⟩))
      all_goals go_wp2
      all_goals go_roundw
      all_goals first
        | exact ⟨i + 1, t, cur.set i (d : Int), rfl, by go_num, by have := HT.out; omega, by omega, (hSr.set i d (by have := HD.out; omega)).of_heap rfl, (hWr.of_heap (heap_setCell_other _ _ _ _ (by simp; omega))).of_heap rfl, (hOr.setCell _).drew,
            drop_on (by rw [hSr.len]; exact hlt) hdrop.out, by rw [Hid, ← HD.out, ← HT.out]; exact sum_law (by rw [hSr.len]; exact hlt) hnum.out ((drop_at hdrop.out).symm.trans HX.out) HY.out⟩
        | (simp [intOf]; omega)
    · obtain rfl : i = 74 := by omega
      have hend := sum_end hSr.len hS.len hul hnum.out HLT.out
      have HE := Lib.hid hend
      clear hend hnum hdrop
      go_wp2_with fail
      rw [Exit.noGoto_ret]
      refine bodyPost_ret (results_none rfl _ _ _) rfl ?_
      exact ⟨rfl, hOr, cur, hSr, HE.out⟩
end Dy
end Go.Proofs.YtlbkepiflhchdaaDoor
