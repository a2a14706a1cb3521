/- A dyad's limbs, shifted, in a long array: a walk. -/
/- How two long numbers stand: a walk. -/
/- A number is added to one under way: a walk. -/
/- The ratio package's long numbers: widen, below (printed by a program of mine out of the dyad package's). -/
/- A region that draws its order, some of whose operations turn what others read: they wait for them. No program in sight. -/
/- A number of another sign is added to one under way: a walk. -/
/- The ratio package's long numbers: length, one, next. -/
/- A range over a function whose iterator keeps state of its own in a cell, and makes memory between two rounds: the rounds say which blocks are theirs. -/
import Derived.Deep.WholeRow
import Derived.Deep.MidRow
import Derived.Outline
import Derived.Test.YtmbppgjhdcmckaaGreatDoorBg02
import Derived.Deep.RegionLawGrows
import Derived.Deep.AppendLies
import Derived.Deep.RegionHeld3
import Derived.Test.YtmbppgjhdcmckaaGreatDoorBg01
import Derived.ScopeJumps
import Derived.RangeFuncNested
import Derived.RangeFuncBound
import Derived.RangeFuncCalls
import Derived.RangeFuncLeaves
namespace Go.Proofs.YtmbppgjhdcmckaaGreatDoor
open Go.RowKit
namespace Dy
open Dp
/-- The cells of a row of limbs. -/
def rowU (ws : List Int) : Array Value := (ws.map (Value.int .u32)).toArray
theorem rowU_size (ws : List Int) : (rowU ws).size = ws.length := by simp [rowU]
theorem rowU_get (ws : List Int) {j : Nat} (h : j < ws.length) : (rowU ws)[j]? = some (.int .u32 (ws[j]?.getD 0)) := by
 simp [rowU, List.getElem?_eq_getElem h]
theorem rowU_set (ws : List Int) (j : Nat) (v : Int) : (rowU ws).setIfInBounds j (.int .u32 v) = rowU (ws.set j v) := by
 simp [rowU, List.map_set]
theorem rowU_one (ws : List Int) : (rowU ws).all (·.oneCell') = true := by
 simp [rowU, Value.oneCell']
/-- A row of 74 limbs in a block of its own. -/
structure Wide (w : World) (g : Nat) (ws : List Int) : Prop where
 blk : w.heap[g]? = some (.cells (rowU ws) 166 (0, 0))
 len : ws.length = 74
 dig : Dig 4294967296 ws
theorem Wide.cell {w : World} {g : Nat} {ws : List Int} (h : Wide w g ws) {j : Nat} (hj : j < 74) : w.cell? ⟨g, j, none⟩ = some (.int .u32 (ws[j]?.getD 0)) := by
 rw [cell_of_row w g j _ _ _ h.blk]
 exact rowU_get ws (by rw [h.len]; exact hj)
theorem Wide.free {w : World} {g : Nat} {ws : List Int} (h : Wide w g ws) (j : Nat) : w.frozen? ⟨g, j, none⟩ = false := frozen_of_row w g j _ _ h.blk
theorem Wide.set {w : World} {g : Nat} {ws : List Int} (h : Wide w g ws) (j d : Nat) (hd : d < 4294967296) : Wide (w.setCell ⟨g, j, none⟩ (.int .u32 d)) g (ws.set j d) :=
 ⟨by rw [heap_setCell_same w g j _ _ _ h.blk, rowU_set], by rw [List.length_set, h.len], dig_set h.dig j d hd⟩
theorem below_setRow {B : Nat} {a w : World} (h : Below B a w) {g : Nat} (hg : B ≤ g) (cs : Array Value) : Below B a (w.setRow g cs) :=
 ⟨h.os, h.tape, h.output, by rw [size_setRow]; exact h.size, fun k hk => (setRow_other w g k cs (by omega)).trans (h.block k hk)⟩
def zero74 : List Int := List.replicate 74 0
theorem Tryz.info166 : (Tryz.prog.info? 166).map (fun i => (i.zero, i.size)) = some (some (.agg (rowU zero74)), 74) := by kernel_rfl
theorem shl_wrap (x r : Nat) (hx : x < 4294967296) (hr : r < 32) : IntKind.u64.wrap ((x : Int) * 2 ^ r) = ((x * 2 ^ r : Nat) : Int) := by
 have h1 : x * 2 ^ r < 4294967296 * 2 ^ 32 := Nat.lt_of_lt_of_le (Nat.mul_lt_mul_of_pos_right hx (Nat.pow_pos (by decide))) (Nat.mul_le_mul_left _ (Nat.pow_le_pow_right (by decide) (by omega)))
 have e : ((x : Int) * 2 ^ r) = ((x * 2 ^ r : Nat) : Int) := by push_cast; rfl
 rw [e, IntKind.wrap_u64]
 omega
theorem or_lo (p x r : Nat) (hx : x < 4294967296) (hr : r < 32) (hp : p < 2 ^ r) (hs : p + x * 2 ^ r % 4294967296 < 4294967296) :
  bits .or .u32 (p : Int) (IntKind.u64.wrap ((x : Int) * 2 ^ r) % 4294967296) = ((p + x * 2 ^ r % 4294967296 : Nat) : Int) := by
 have e1 : ((x * 2 ^ r : Nat) : Int) % 4294967296 = ((x * 2 ^ r % 4294967296 : Nat) : Int) := by omega
 have h3 : x * 2 ^ r % 4294967296 % 2 ^ r = 0 := by
  have e : (4294967296 : Nat) = 2 ^ r * 2 ^ (32 - r) := by rw [← Nat.pow_add, show r + (32 - r) = 32 by omega]
  conv => lhs; rw [e, Nat.mul_comm x]
  rw [Nat.mul_mod_mul_left]
  exact Nat.mul_mod_right _ _
 rw [shl_wrap x r hx hr, e1, u32_or_nat _ _ (by omega) (by omega), Nat.or_comm, nat_join r _ _ h3 hp, Nat.add_comm]
theorem or_hi (x r : Nat) (hx : x < 4294967296) (hr : r < 32) (hs : x * 2 ^ r / 4294967296 < 4294967296) :
  bits .or .u32 0 (IntKind.u64.wrap ((x : Int) * 2 ^ r) / 4294967296 % 4294967296) = ((x * 2 ^ r / 4294967296 : Nat) : Int) := by
 have e1 : ((x * 2 ^ r : Nat) : Int) / 4294967296 % 4294967296 = ((x * 2 ^ r / 4294967296 : Nat) : Int) := by omega
 rw [shl_wrap x r hx hr, e1]
 have := u32_or_nat 0 (x * 2 ^ r / 4294967296) (by decide) hs
 simpa using this
set_option maxHeartbeats 1600000 in
set_option maxRecDepth 100000 in
/-- dyad.widen. -/
theorem widen_any (w : World) (lo hi : Nat) (s : Bool) (A : Option Addr) (n c : Nat) (xs : List Int) (ex k : Nat) (hX : Ints w lo hi .u32 A n xs) (hhi : hi ≤ w.heap.size) (hd : Dig 4294967296 xs) (hn : n ≤ 40) (_he : ex ≤ 2000) (hk : k ≤ 1024) (kk : Int) (hkk : kk = (ex : Int) + k) :
  Calls Tryz.prog 177 #[.agg #[.bool s, .slice A n c, .int .i64 ex], .int .i64 kk] w fun e w' => ∃ ws, e = .returned (.agg (rowU ws)) ∧ Below w.heap.size w w' ∧ ws.length = 74 ∧ Dig 4294967296 ws ∧ num 4294967296 ws = num 4294967296 xs * 2 ^ k := by
 subst hkk
 have hL := Lib.hid hX.len
 obtain ⟨hz, hi81⟩ := zero_of_info Tryz.info166
 have hI := Lib.hid hi81
 clear hi81
 have hek : (ex : Int) + k - ex = k := by omega
 have hzz : (num 4294967296 zero74 = 0) ∧ zero74.length = 74 ∧ Dig 4294967296 zero74 := ⟨num_zeros _ _, by simp [zero74], fun x hx => by have := List.eq_of_mem_replicate hx; omega⟩
 have HZ := Lib.hid hzz
 clear hzz
 go_enter Tryz.func177, Tryz.ntmps177
 go_wp2
 go_loopw [6, 7, 8, 16] (fun _ _ _ iv wr => ∃ i : Nat, ∃ ws : List Int, iv = .int .i64 i ∧ i ≤ n ∧ Below w.heap.size w wr ∧ Wide wr (w.heap.size + 1) ws ∧ Hid (num 4294967296 ws = num 4294967296 (xs.take i) * 2 ^ k)) (fun _ _ _ iv _ => n - (intOf iv).toNat)
 case atStart =>
  exact ⟨0, zero74, rfl, Nat.zero_le _, ((Below.refl _ _).alloc (Nat.le_refl _) _).alloc (by simp) _, ⟨heap_alloc2_new _ _ _, HZ.out.2.1, HZ.out.2.2⟩, by rw [Hid, HZ.out.1]; simp [num]⟩
 case round =>
  obtain ⟨i, ws, rfl, hin, hb, hW, hnum⟩ := hrel
  by_cases hlt : i < n
  · obtain ⟨b, off, rfl, hcell⟩ := get (hX.below hb hhi) (by omega)
    have g1 := hcell i hlt
    obtain ⟨x, hx, hx2⟩ := dig_get (by decide) hd i
    rw [hx] at g1
    obtain ⟨p, hp, hp2⟩ := dig_get (by decide) hW.dig (i + k / 32)
    obtain ⟨l1, l2, l3, l4, l5, l6⟩ := wide_law hW.dig hd (by rw [hW.len]; omega) hnum.out hx hp
    have c1 := hW.cell (j := i + k / 32) (by omega)
    have c2 := hW.cell (j := i + k / 32 + 1) (by omega)
    have f1 := hW.free (i + k / 32)
    have f2 := hW.free (i + k / 32 + 1)
    rw [hp] at c1
    rw [l2] at c2
    have HX := Lib.hid hx
    have HP := Lib.hid hp
    have L2 := Lib.hid l2
    clear hcell hx hp l2
    go_wp2
    go_roundw
    case rel =>
     have E1 := or_lo p x (k % 32) hx2 (Nat.mod_lt _ (by decide)) l1 l3
     have E2 := or_hi x (k % 32) hx2 (Nat.mod_lt _ (by decide)) l4
     rw [E1, E2]
     exact ⟨i + 1, (ws.set (i + k / 32) ((p + x * 2 ^ (k % 32) % 4294967296 : Nat) : Int)).set (i + k / 32 + 1) ((x * 2 ^ (k % 32) / 4294967296 : Nat) : Int), by go_num, by omega, (hb.setCell (by simp) _).setCell (by simp) _, (hW.set _ _ l3).set _ _ l4, Lib.hid l6⟩
    case measure => simp [intOf]; omega
  · obtain rfl : i = n := by omega
    have hend := hnum.out
    rw [List.take_of_length_le (by rw [hL.out]; exact Nat.le_refl _)] at hend
    have HE := Lib.hid hend
    have hsz : (rowU ws).size = 74 := by rw [rowU_size, hW.len]
    have hsz2 := hI.out
    rw [← hsz] at hsz2
    have hblk := hW.blk
    have hone := rowU_one ws
    have HS := Lib.hid hsz
    have HS2 := Lib.hid hsz2
    have HB := Lib.hid hblk
    have HO := Lib.hid hone
    clear hend hsz hsz2 hblk hone hnum
    go_wp2_with (first
     | (refine wpList_load_row rfl 166 (.tmp 4) rfl (w.heap.size + 1) rfl _ _ _ _ HB.out Tryz.underlying166 rfl HS2.out ?_)
     | (refine wpList_store_row rfl 166 (.tmp 4) (.tmp 49) rfl (w.heap.size + 1) (rowU ws) rfl rfl _ _ HB.out HS2.out rfl HO.out ?_))
    have hblk2 := setRow_heap wr (w.heap.size + 1) (rowU ws) (rowU ws) _ _ HB.out
    refine bodyPost_ret (v := .agg (rowU ws)) (results_cell_row Tryz.results177 _ _ (w.heap.size + 1) _ _ _ _ rfl hblk2 Tryz.underlying166 rfl HS2.out) rfl ⟨ws, rfl, ?_, hW.len, hW.dig, HE.out⟩
    exact below_setRow hb (by omega) _
end Dy
end Go.Proofs.YtmbppgjhdcmckaaGreatDoor
namespace Go.Proofs.YtmbppgjhdcmckaaGreatDoor
open Go.RowKit
namespace Dy
open Dp
theorem drewN_add (w : World) (a b : Nat) : (w.drewN a).drewN b = w.drewN (a + b) := by simp [World.drewN, Nat.add_assoc]
/-- 74 limbs that lie from offset o of block g on. -/
structure Row (w : World) (g o : Nat) (ws : List Int) : Prop where
 cell : ∀ j, j < 74 → w.cell? ⟨g, o + j, none⟩ = some (.int .u32 (ws[j]?.getD 0))
 free : ∀ j, j < 74 → w.frozen? ⟨g, o + j, none⟩ = false
 len : ws.length = 74
 dig : Dig 4294967296 ws
theorem Row.drewN {w : World} {g o : Nat} {ws : List Int} (h : Row w g o ws) (m : Nat) : Row (w.drewN m) g o ws := ⟨h.cell, h.free, h.len, h.dig⟩
theorem Row.keep {w w' : World} {g o : Nat} {ws : List Int} (h : Row w g o ws) (hk : ∀ j, j < 74 → w'.cell? ⟨g, o + j, none⟩ = w.cell? ⟨g, o + j, none⟩ ∧ w'.frozen? ⟨g, o + j, none⟩ = w.frozen? ⟨g, o + j, none⟩) : Row w' g o ws :=
 ⟨fun j hj => (hk j hj).1.trans (h.cell j hj), fun j hj => (hk j hj).2.trans (h.free j hj), h.len, h.dig⟩
theorem Wide.row {w : World} {g : Nat} {ws : List Int} (h : Wide w g ws) : Row w g 0 ws :=
 ⟨fun j hj => by rw [Nat.zero_add]; exact h.cell hj, fun j _ => by rw [Nat.zero_add]; exact h.free j, h.len, h.dig⟩
theorem below_same {ws us : List Int} (h : ws.drop 0 = us.drop 0) : decide (num 4294967296 ws < num 4294967296 us) = false := by
 simp only [List.drop_zero] at h
 rw [h]
 simp
end Dy
end Go.Proofs.YtmbppgjhdcmckaaGreatDoor
namespace Go.Proofs.YtmbppgjhdcmckaaGreatDoor
open Go.RowKit
namespace Dy
open Dp
/-- Nothing that was there has changed but block g. -/
structure OnlyAt (g : Nat) (w w' : World) : Prop where
 os : w'.os = w.os
 tape : w'.tape = w.tape
 output : w'.output = w.output
 size : w.heap.size ≤ w'.heap.size
 block : ∀ k, k < w.heap.size → k ≠ g → w'.heap[k]? = w.heap[k]?
theorem OnlyAt.refl (g : Nat) (w : World) : OnlyAt g w w := ⟨rfl, rfl, rfl, Nat.le_refl _, fun _ _ _ => rfl⟩
theorem OnlyAt.trans {g : Nat} {a b c : World} (h : OnlyAt g a b) (k : OnlyAt g b c) : OnlyAt g a c :=
 ⟨k.os.trans h.os, k.tape.trans h.tape, k.output.trans h.output, Nat.le_trans h.size k.size, fun j hj hg => (k.block j (Nat.lt_of_lt_of_le hj h.size) hg).trans (h.block j hj hg)⟩
theorem OnlyAt.alloc {g : Nat} {a w : World} (h : OnlyAt g a w) (o : Obj) : OnlyAt g a (w.alloc o) :=
 ⟨h.os, h.tape, h.output, by have := h.size; simp; omega, fun k hk hg => (Below.heap_alloc _ _ _ (Nat.lt_of_lt_of_le hk h.size)).trans (h.block k hk hg)⟩
theorem OnlyAt.setCell {g o : Nat} {a w : World} (h : OnlyAt g a w) (u : Value) : OnlyAt g a (w.setCell ⟨g, o, none⟩ u) :=
 ⟨h.os, h.tape, h.output, by have := h.size; simp [World.setCell]; omega, fun k hk hg => (Below.heap_setCell _ _ _ _ hg).trans (h.block k hk hg)⟩
theorem OnlyAt.drewN {g : Nat} {a w : World} (h : OnlyAt g a w) (m : Nat) : OnlyAt g a (w.drewN m) := ⟨h.os, h.tape, h.output, h.size, h.block⟩
theorem OnlyAt.drew {g : Nat} {a w : World} (h : OnlyAt g a w) : OnlyAt g a w.drew := ⟨h.os, h.tape, h.output, h.size, h.block⟩
theorem OnlyAt.setRow {g k : Nat} {a w : World} (h : OnlyAt g a w) (hk : k = g ∨ a.heap.size ≤ k) (cs : Array Value) : OnlyAt g a (w.setRow k cs) :=
 ⟨h.os, h.tape, h.output, by rw [size_setRow]; exact h.size, fun j hj hg => (setRow_other w k j cs (by omega)).trans (h.block j hj hg)⟩
theorem OnlyAt.below {g B : Nat} {a w w' : World} (h : OnlyAt g w w') (hB : Below B a w) (hg : B ≤ g) (hs : B ≤ w.heap.size) : Below B a w' :=
 ⟨h.os.trans hB.os, h.tape.trans hB.tape, h.output.trans hB.output, Nat.le_trans hB.size h.size, fun k hk => (h.block k (by omega) (by omega)).trans (hB.block k hk)⟩
/-- A dyad under way in a block of its own. -/
structure Sum (w : World) (g : Nat) (s : Bool) (L : Value) (ex : Int) (ws : List Int) : Prop where
 blk : w.heap[g]? = some (.cells (#[.bool s, L, .int .i64 ex] ++ rowU ws) 168 (0, 0))
 len : ws.length = 74
 dig : Dig 4294967296 ws
theorem sum_at (s : Bool) (L : Value) (ex : Int) (ws : List Int) (j : Nat) : (#[.bool s, L, .int .i64 ex] ++ rowU ws)[3 + j]? = (rowU ws)[j]? := by
 rw [Array.getElem?_append_right (by simp)]
 congr 1
 simp
theorem sum_set (s : Bool) (L : Value) (ex : Int) (ws : List Int) (j : Nat) (v : Int) : (#[.bool s, L, .int .i64 ex] ++ rowU ws).setIfInBounds (3 + j) (.int .u32 v) = #[.bool s, L, .int .i64 ex] ++ rowU (ws.set j v) := by
 simp only [rowU, List.map_set]
 apply Array.ext'
 simp [show 3 + j = j + 1 + 1 + 1 by omega]
theorem Sum.row {w : World} {g : Nat} {s : Bool} {L : Value} {ex : Int} {ws : List Int} (h : Sum w g s L ex ws) : Row w g 3 ws :=
 ⟨fun j hj => by rw [cell_of_row w g _ _ _ _ h.blk, sum_at]; exact rowU_get ws (by rw [h.len]; exact hj), fun j _ => frozen_of_row w g _ _ _ h.blk, h.len, h.dig⟩
theorem Sum.head {w : World} {g : Nat} {s : Bool} {L : Value} {ex : Int} {ws : List Int} (h : Sum w g s L ex ws) : w.cell? ⟨g, 0, none⟩ = some (.bool s) ∧ w.cell? ⟨g, 1, none⟩ = some L ∧ w.cell? ⟨g, 2, none⟩ = some (.int .i64 ex) := by
 refine ⟨?_, ?_, ?_⟩ <;> (rw [cell_of_row w g _ _ _ _ h.blk, Array.getElem?_append_left (by simp)]; rfl)
theorem Sum.free {w : World} {g : Nat} {s : Bool} {L : Value} {ex : Int} {ws : List Int} (h : Sum w g s L ex ws) (j : Nat) : w.frozen? ⟨g, j, none⟩ = false := frozen_of_row w g j _ _ h.blk
theorem Sum.set {w : World} {g : Nat} {s : Bool} {L : Value} {ex : Int} {ws : List Int} (h : Sum w g s L ex ws) (j d : Nat) (hd : d < 4294967296) : Sum (w.setCell ⟨g, 3 + j, none⟩ (.int .u32 d)) g s L ex (ws.set j d) :=
 ⟨by rw [heap_setCell_same w g _ _ _ _ h.blk, sum_set], by rw [List.length_set, h.len], dig_set h.dig j d hd⟩
theorem Sum.of_heap {w w' : World} {g : Nat} {s : Bool} {L : Value} {ex : Int} {ws : List Int} (h : Sum w g s L ex ws) (hh : w'.heap[g]? = w.heap[g]?) : Sum w' g s L ex ws := ⟨hh.trans h.blk, h.len, h.dig⟩
theorem Wide.of_heap {w w' : World} {g : Nat} {ws : List Int} (h : Wide w g ws) (hh : w'.heap[g]? = w.heap[g]?) : Wide w' g ws := ⟨hh.trans h.blk, h.len, h.dig⟩
theorem drop_at {l m : List Int} {i : Nat} (h : l.drop i = m.drop i) : l[i]?.getD 0 = m[i]?.getD 0 := by
 have e := congrArg (fun t => t[0]?.getD 0) h
 simpa using e
theorem drop_on {l m : List Int} {i : Nat} {v : Int} (_hl : i < l.length) (h : l.drop i = m.drop i) : Hid ((l.set i v).drop (i + 1) = m.drop (i + 1)) := by
 rw [Hid, List.drop_set_of_lt (by omega)]
 have e := congrArg (List.drop 1) h
 rw [List.drop_drop, List.drop_drop] at e
 exact e
end Dy
end Go.Proofs.YtmbppgjhdcmckaaGreatDoor
namespace Go.Proofs.YtmbppgjhdcmckaaGreatDoor
open Go.RowKit
namespace Dy
open Dp
/-- A row of 76 limbs in a block of its own. -/
structure WideR (w : World) (g : Nat) (ws : List Int) : Prop where
 blk : w.heap[g]? = some (.cells (rowU ws) 157 (0, 0))
 len : ws.length = 76
 dig : Dig 4294967296 ws
theorem WideR.cell {w : World} {g : Nat} {ws : List Int} (h : WideR w g ws) {j : Nat} (hj : j < 76) : w.cell? ⟨g, j, none⟩ = some (.int .u32 (ws[j]?.getD 0)) := by
 rw [cell_of_row w g j _ _ _ h.blk]
 exact rowU_get ws (by rw [h.len]; exact hj)
theorem WideR.free {w : World} {g : Nat} {ws : List Int} (h : WideR w g ws) (j : Nat) : w.frozen? ⟨g, j, none⟩ = false := frozen_of_row w g j _ _ h.blk
theorem WideR.set {w : World} {g : Nat} {ws : List Int} (h : WideR w g ws) (j d : Nat) (hd : d < 4294967296) : WideR (w.setCell ⟨g, j, none⟩ (.int .u32 d)) g (ws.set j d) :=
 ⟨by rw [heap_setCell_same w g j _ _ _ h.blk, rowU_set], by rw [List.length_set, h.len], dig_set h.dig j d hd⟩
def zero76 : List Int := List.replicate 76 0
theorem Tryz.info157 : (Tryz.prog.info? 157).map (fun i => (i.zero, i.size)) = some (some (.agg (rowU zero76)), 76) := by kernel_rfl
set_option maxHeartbeats 1600000 in
set_option maxRecDepth 100000 in
/-- ratio.widen. -/
theorem widenR_any (w : World) (lo hi : Nat) (A : Option Addr) (n c : Nat) (xs : List Int) (k : Nat) (hX : Ints w lo hi .u32 A n xs) (hhi : hi ≤ w.heap.size) (hd : Dig 4294967296 xs) (hn : n ≤ 40) (hk : k ≤ 1090) (kk : Int) (hkk : kk = k) :
  Calls Tryz.prog 173 #[.slice A n c, .int .i64 kk] w fun e w' => ∃ ws, e = .returned (.agg (rowU ws)) ∧ Below w.heap.size w w' ∧ ws.length = 76 ∧ Dig 4294967296 ws ∧ num 4294967296 ws = num 4294967296 xs * 2 ^ k := by
 subst hkk
 have hL := Lib.hid hX.len
 obtain ⟨hz, hi81⟩ := zero_of_info Tryz.info157
 have hI := Lib.hid hi81
 clear hi81
 have hzz : (num 4294967296 zero76 = 0) ∧ zero76.length = 76 ∧ Dig 4294967296 zero76 := ⟨num_zeros _ _, by simp [zero76], fun x hx => by have := List.eq_of_mem_replicate hx; omega⟩
 have HZ := Lib.hid hzz
 clear hzz
 go_enter Tryz.func173, Tryz.ntmps173
 go_wp2
 go_loopw [5, 6, 7, 10] (fun _ _ _ iv wr => ∃ i : Nat, ∃ ws : List Int, iv = .int .i64 i ∧ i ≤ n ∧ Below w.heap.size w wr ∧ WideR wr (w.heap.size) ws ∧ Hid (num 4294967296 ws = num 4294967296 (xs.take i) * 2 ^ k)) (fun _ _ _ iv _ => n - (intOf iv).toNat)
 case atStart =>
  exact ⟨0, zero76, rfl, Nat.zero_le _, (Below.refl _ _).alloc (Nat.le_refl _) _, ⟨heap_alloc_last _ _, HZ.out.2.1, HZ.out.2.2⟩, by rw [Hid, HZ.out.1]; simp [num]⟩
 case round =>
  obtain ⟨i, ws, rfl, hin, hb, hW, hnum⟩ := hrel
  by_cases hlt : i < n
  · obtain ⟨b, off, rfl, hcell⟩ := get (hX.below hb hhi) (by omega)
    have g1 := hcell i hlt
    obtain ⟨x, hx, hx2⟩ := dig_get (by decide) hd i
    rw [hx] at g1
    obtain ⟨p, hp, hp2⟩ := dig_get (by decide) hW.dig (i + k / 32)
    obtain ⟨l1, l2, l3, l4, l5, l6⟩ := wide_law hW.dig hd (by rw [hW.len]; omega) hnum.out hx hp
    have c1 := hW.cell (j := i + k / 32) (by omega)
    have c2 := hW.cell (j := i + k / 32 + 1) (by omega)
    have f1 := hW.free (i + k / 32)
    have f2 := hW.free (i + k / 32 + 1)
    rw [hp] at c1
    rw [l2] at c2
    have HX := Lib.hid hx
    have HP := Lib.hid hp
    have L2 := Lib.hid l2
    clear hcell hx hp l2
    go_wp2
    go_roundw
    case rel =>
     have E1 := or_lo p x (k % 32) hx2 (Nat.mod_lt _ (by decide)) l1 l3
     have E2 := or_hi x (k % 32) hx2 (Nat.mod_lt _ (by decide)) l4
     rw [E1, E2]
     exact ⟨i + 1, (ws.set (i + k / 32) ((p + x * 2 ^ (k % 32) % 4294967296 : Nat) : Int)).set (i + k / 32 + 1) ((x * 2 ^ (k % 32) / 4294967296 : Nat) : Int), by go_num, by omega, (hb.setCell (by simp) _).setCell (by simp) _, (hW.set _ _ l3).set _ _ l4, Lib.hid l6⟩
    case measure => simp [intOf]; omega
  · obtain rfl : i = n := by omega
    have hend := hnum.out
    rw [List.take_of_length_le (by rw [hL.out]; exact Nat.le_refl _)] at hend
    have HE := Lib.hid hend
    have hsz : (rowU ws).size = 76 := by rw [rowU_size, hW.len]
    have hsz2 := hI.out
    rw [← hsz] at hsz2
    have hblk := hW.blk
    have hone := rowU_one ws
    have HS := Lib.hid hsz
    have HS2 := Lib.hid hsz2
    have HB := Lib.hid hblk
    have HO := Lib.hid hone
    clear hend hsz hsz2 hblk hone hnum
    go_wp2_with (first
     | (refine wpList_load_row rfl 157 (.tmp 4) rfl (w.heap.size) rfl _ _ _ _ HB.out Tryz.underlying157 rfl HS2.out ?_)
     | (refine wpList_store_row rfl 157 (.tmp 4) (.tmp 43) rfl (w.heap.size) (rowU ws) rfl rfl _ _ HB.out HS2.out rfl HO.out ?_))
    have hblk2 := setRow_heap wr (w.heap.size) (rowU ws) (rowU ws) _ _ HB.out
    refine bodyPost_ret (v := .agg (rowU ws)) (results_cell_row Tryz.results173 _ _ (w.heap.size) _ _ _ _ rfl hblk2 Tryz.underlying157 rfl HS2.out) rfl ⟨ws, rfl, ?_, hW.len, hW.dig, HE.out⟩
    exact below_setRow hb (by omega) _
/-- 76 limbs that lie from offset o of block g on. -/
structure RowR (w : World) (g o : Nat) (ws : List Int) : Prop where
 cell : ∀ j, j < 76 → w.cell? ⟨g, o + j, none⟩ = some (.int .u32 (ws[j]?.getD 0))
 free : ∀ j, j < 76 → w.frozen? ⟨g, o + j, none⟩ = false
 len : ws.length = 76
 dig : Dig 4294967296 ws
theorem RowR.drewN {w : World} {g o : Nat} {ws : List Int} (h : RowR w g o ws) (m : Nat) : RowR (w.drewN m) g o ws := ⟨h.cell, h.free, h.len, h.dig⟩
theorem RowR.keep {w w' : World} {g o : Nat} {ws : List Int} (h : RowR w g o ws) (hk : ∀ j, j < 76 → w'.cell? ⟨g, o + j, none⟩ = w.cell? ⟨g, o + j, none⟩ ∧ w'.frozen? ⟨g, o + j, none⟩ = w.frozen? ⟨g, o + j, none⟩) : RowR w' g o ws :=
 ⟨fun j hj => (hk j hj).1.trans (h.cell j hj), fun j hj => (hk j hj).2.trans (h.free j hj), h.len, h.dig⟩
theorem WideR.row {w : World} {g : Nat} {ws : List Int} (h : WideR w g ws) : RowR w g 0 ws :=
 ⟨fun j hj => by rw [Nat.zero_add]; exact h.cell hj, fun j _ => by rw [Nat.zero_add]; exact h.free j, h.len, h.dig⟩
theorem belowR_at {ws us : List Int} {k x y : Nat} (hw : ws.length = 76) (hu : us.length = 76) (hdw : Dig 4294967296 ws) (hdu : Dig 4294967296 us) (hk : k < 76) (h : ws.drop (k + 1) = us.drop (k + 1)) (hx : ws[k]?.getD 0 = (x : Int)) (hy : us[k]?.getD 0 = (y : Int)) :
  (x = y → ws.drop k = us.drop k) ∧ (x ≠ y → decide (num 4294967296 ws < num 4294967296 us) = decide (x < y)) := by
 refine ⟨fun e => drop_eq (by omega) (by omega) h (by rw [hx, hy, e]), fun e => ?_⟩
 rcases Nat.lt_or_ge x y with hlt | hge
 · have := less_by (by decide) hdw h (by rw [hx, hy]; simpa using hlt)
   simp [hlt, this]
 · have := less_by (by decide) hdu h.symm (by rw [hx, hy]; simp; omega)
   have h1 : ¬ num 4294967296 ws < num 4294967296 us := by omega
   have h2 : ¬ x < y := by omega
   simp [h1, h2]
set_option maxHeartbeats 1600000 in
set_option maxRecDepth 100000 in
/-- (*ratio.wide).below. -/
theorem belowR_any (w : World) (g o g' o' : Nat) (ws us : List Int) (hW : RowR w g o ws) (hU : RowR w g' o' us) (r : Bool) (hr : decide (num 4294967296 ws < num 4294967296 us) = r) :
  Calls Tryz.prog 208 #[.pointer (some ⟨g, o, none⟩), .pointer (some ⟨g', o', none⟩)] w fun e w' => e = .returned (.bool r) ∧ ∃ m, w' = w.drewN m := by
 have HR := Lib.hid hr
 clear hr
 go_enter Tryz.func208, Tryz.ntmps208
 go_wp2
 go_loopw [5] (fun iv wr => ∃ k : Nat, iv = .int .i64 ((k : Int) - 1) ∧ k ≤ 76 ∧ Hid (ws.drop k = us.drop k) ∧ ∃ m, wr = w.drewN m) (fun iv _ => (intOf iv + 1).toNat)
 case atStart => exact ⟨76, rfl, Nat.le_refl _, by rw [Hid, List.drop_eq_nil_of_le (by rw [hW.len]; exact Nat.le_refl _), List.drop_eq_nil_of_le (by rw [hU.len]; exact Nat.le_refl _)], 0, rfl⟩
 case round =>
  obtain ⟨k, rfl, hk, heq, m, rfl⟩ := hrel
  rcases k with _ | k
  · have e2 : r = false := by rw [← HR.out]; exact below_same heq.out
    subst e2
    go_wp2
    go_ret
    exact ⟨rfl, m, rfl⟩
  · have ej : ((k + 1 : Nat) : Int) - 1 = (k : Int) := by omega
    obtain ⟨x, hx, hx2⟩ := dig_get (by decide) hW.dig k
    obtain ⟨y, hy, hy2⟩ := dig_get (by decide) hU.dig k
    have g1 := hW.cell k (by omega)
    have g2 := hU.cell k (by omega)
    obtain ⟨hsame, hdiff⟩ := belowR_at hW.len hU.len hW.dig hU.dig (by omega) heq.out hx hy
    rw [hx] at g1
    rw [hy] at g2
    rw [ej]
    have hk0 : (0 : Int) ≤ k := by omega
    have hk1 : (k : Int) < 76 := by omega
    clear hx hy ej
    by_cases hxy : x = y
    · subst hxy
      have HS := Lib.hid (hsame rfl)
      have hne : ((x : Int) != x) = false := by simp
      clear hsame hdiff
      go_wp2
      go_quiet (fail)
      go_wp2
      go_roundw
      case rel => exact ⟨k, rfl, by omega, HS, _, rfl⟩
      case measure => first | (simp [intOf]; done) | (simp [intOf]; omega)
    · have HD := Lib.hid (hdiff hxy)
      have hne : ((x : Int) != y) = true := by simpa using (show ¬ (x : Int) = y by omega)
      clear hsame hdiff
      go_wp2
      go_quiet (fail)
      go_wp2
      go_quiet (fail)
      go_wp2
      go_ret
      exact ⟨ret_bool (by rw [← HR.out, HD.out]), m + (_ + _), by rw [drewN_add, drewN_add]⟩
end Dy
end Go.Proofs.YtmbppgjhdcmckaaGreatDoor
namespace Go.Proofs.YtmbppgjhdcmckaaGreatDoor
open Go.RowKit
section
variable {P : Program} {ops : Array Oper} {os : List Oper} {Q : Exit → Act → World → Prop} {md : Region.Mode} {S : World → Prop} {E : List Nat}
/-- Whatever order is picked, S holds behind each operation but those of E. -/
def wpAnyE (P : Program) (md : Region.Mode) (ops : Array Oper) (Q : Exit → Act → World → Prop) (S : World → Prop) (E : List Nat) : Nat → Array Bool → Act → World → Prop
 | 0, L, a, w => Region.ready md ops L = [] ∧ Q .normal a w
 | n + 1, L, a, w => (Region.ready md ops L = [] → Q .normal a w) ∧ ∀ i ∈ Region.ready md ops L, wpOp P ops Q i (fun a' w' => (E.contains i = false → S w → S w') ∧ wpAnyE P md ops Q S E n (L.setIfInBounds i true) a' w') a w
theorem any_of_E : ∀ (n : Nat) (L : Array Bool) (a : Act) (w : World), wpAnyE P md ops Q S E n L a w → wpAny P md ops Q n L a w
 | 0, _, _, _, h => h
 | n + 1, _, _, _, h => ⟨h.1, fun i hi => wpOp_mono (fun a' w' h' => any_of_E n _ a' w' h'.2) (h.2 i hi)⟩
/-- Number k waits for number i. -/
def waitsE (md : Region.Mode) (ops : Array Oper) (k i : Nat) : Bool := match ops[k]? with
 | none => true
 | some o => o.after.any fun e => Region.binds md e && e.on == i
theorem not_readyE {L : Array Bool} {i k : Nat} (hw : waitsE md ops k i = true) (hi : i ∈ Region.ready md ops L) : k ∉ Region.ready md ops L := fun hk => by
 obtain ⟨_, o, ho, hall⟩ := mem_ready.1 hk
 have h0 := (mem_ready.1 hi).1
 unfold waitsE at hw
 rw [ho] at hw
 simp only [Array.any_eq_true, Bool.and_eq_true, beq_iff_eq] at hw
 obtain ⟨j, hj, hb, he⟩ := hw
 have h1 := hall _ (Array.getElem_mem hj) hb
 rw [he] at h1
 rcases Nat.lt_or_ge i L.size with h' | h'
 · simp [h'] at h0 h1
   rw [h0] at h1
   cases h1
 · simp [Array.getElem?_eq_none h'] at h1
theorem not_afterE {L : Array Bool} {i j : Nat} {oj : Oper} (hoj : ops[j]? = some oj) (hr : i ∈ Region.ready md ops L) (hj : j ∈ Region.ready md ops L) : ∀ e ∈ oj.after, Region.binds md e = true → e.on ≠ i := fun e he hb heq => by
 refine not_readyE (k := j) (md := md) (ops := ops) ?_ hr hj
 unfold waitsE
 rw [hoj]
 obtain ⟨m, hm, hme⟩ := Array.getElem_of_mem he
 simp only [Array.any_eq_true, Bool.and_eq_true, beq_iff_eq]
 exact ⟨m, hm, by rw [hme]; exact hb, by rw [hme]; exact heq⟩
theorem firstE {i : Nat} {oi : Oper} {v : Value} (hi : ops[i]? = some oi) (hsel : ∀ (j : Nat) (o : Oper) cs b, ops[j]? = some o → o.op ≠ .select cs b)
  (hw : ∀ k, E.contains k = true → waitsE md ops k i = true)
  (hQ : ∀ c a w, Q (.panic c) (a.put oi.dst v) w → Q (.panic c) a w) :
  ∀ (n : Nat) (L : Array Bool) (a : Act) (w : World),
   (∀ j oj, ops[j]? = some oj → j ≠ i → L.getD j true = false → (∀ e ∈ oj.after, Region.binds md e = true → e.on ≠ i) → oi.apart ops oj = true) →
   i ∈ Region.ready md ops L → YieldsIf P ops S oi v a → S w → wpAnyE P md ops Q S E n (L.setIfInBounds i true) (a.put oi.dst v) w → wpAnyE P md ops Q S E (n + 1) L a w := by
 intro n
 induction n with
 | zero =>
  intro L a w _ hr hy hS H
  refine ⟨fun h => (by rw [h] at hr; cases hr), fun j hj => ?_⟩
  by_cases hji : j = i
  · subst hji
    exact hy.wpOp hi hS ⟨fun _ h => h, H⟩
  · have := ready_mono hj hji
    rw [H.1] at this
    cases this
 | succ n ih =>
  intro L a w hfree hr hy hS H
  refine ⟨fun h => (by rw [h] at hr; cases hr), fun j hj => ?_⟩
  by_cases hji : j = i
  · subst hji
    exact hy.wpOp hi hS ⟨fun _ h => h, H⟩
  · have h1 := H.2 j (ready_mono hj hji)
    obtain ⟨hjun, oj, hoj, hall⟩ := mem_ready.1 hj
    have hnot := not_afterE hoj hr hj
    have h2 := wpOp_putIf hoj (hfree j oj hoj hji hjun hnot) (fun cs b => hsel i oi cs b hi) (fun cs b => hsel j oj cs b hoj) hQ hy h1
    have hjk : E.contains j = false := by
     cases hc : E.contains j
     · rfl
     · exact absurd hj (not_readyE (hw j hc) hr)
    refine wpOp_mono (fun a' w' h3 => ⟨h3.2.1, ih (L.setIfInBounds j true) a' w' (fun m om hm hmi hun hno => ?_) (ready_mono hr (Ne.symm hji)) h3.1 (h3.2.1 hjk hS) ?_⟩) h2
    · refine hfree m om hm hmi ?_ hno
      by_cases hjm : j = m
      · subst hjm
        exact hjun
      · rw [getD_set_ne true hjm] at hun
        exact hun
    · rw [Array.setIfInBounds_comm _ _ hji]
      exact h3.2.2
theorem firstT {i : Nat} {oi : Oper} {v : Value} (hi : ops[i]? = some oi) (hsel : ∀ (j : Nat) (o : Oper) cs b, ops[j]? = some o → o.op ≠ .select cs b)
  (hQ : ∀ c a w, Q (.panic c) (a.put oi.dst v) w → Q (.panic c) a w) :
  ∀ (n : Nat) (L : Array Bool) (a : Act) (w : World),
   (∀ j oj, ops[j]? = some oj → j ≠ i → L.getD j true = false → (∀ e ∈ oj.after, Region.binds md e = true → e.on ≠ i) → oi.apart ops oj = true) →
   i ∈ Region.ready md ops L → YieldsIf P ops (fun _ => True) oi v a → wpAnyE P md ops Q S E n (L.setIfInBounds i true) (a.put oi.dst v) w → wpAnyE P md ops Q S E (n + 1) L a w := by
 intro n
 induction n with
 | zero =>
  intro L a w _ hr hy H
  refine ⟨fun h => (by rw [h] at hr; cases hr), fun j hj => ?_⟩
  by_cases hji : j = i
  · subst hji
    exact hy.wpOp hi trivial ⟨fun _ h => h, H⟩
  · have := ready_mono hj hji
    rw [H.1] at this
    cases this
 | succ n ih =>
  intro L a w hfree hr hy H
  refine ⟨fun h => (by rw [h] at hr; cases hr), fun j hj => ?_⟩
  by_cases hji : j = i
  · subst hji
    exact hy.wpOp hi trivial ⟨fun _ h => h, H⟩
  · have h1 := H.2 j (ready_mono hj hji)
    obtain ⟨hjun, oj, hoj, hall⟩ := mem_ready.1 hj
    have hnot := not_afterE hoj hr hj
    have h2 := wpOp_putIf hoj (hfree j oj hoj hji hjun hnot) (fun cs b => hsel i oi cs b hi) (fun cs b => hsel j oj cs b hoj) hQ hy h1
    refine wpOp_mono (fun a' w' h3 => ⟨h3.2.1, ih (L.setIfInBounds j true) a' w' (fun m om hm hmi hun hno => ?_) (ready_mono hr (Ne.symm hji)) h3.1 ?_⟩) h2
    · refine hfree m om hm hmi ?_ hno
      by_cases hjm : j = m
      · subst hjm
        exact hjun
      · rw [getD_set_ne true hjm] at hun
        exact hun
    · rw [Array.setIfInBounds_comm _ _ hji]
      exact h3.2.2
/-- A read: it may be taken first. -/
theorem readE {i n : Nat} {oi : Oper} {v : Value} {listed L : Array Bool} {a : Act} {w : World} (hi : os[i]? = some oi) (hL : listed.setIfInBounds i true = L)
  (hs : Region.noSelect os.toArray = true) (hf : (Region.free md os.toArray listed i && E.all fun k => waitsE md os.toArray k i) = true) (hr : (Region.ready md os.toArray listed).contains i = true)
  (hQ : ∀ c a w, Q (.panic c) (a.put oi.dst v) w → Q (.panic c) a w) (hS : S w) (hw : Region.wanted oi (yielded os.toArray a.tmps) = true) (hy : ∀ w, S w → (execOp a.eval oi).run P w = .ok (.value v) w)
  (h : wpAnyE P md os.toArray Q S E n L (a.put oi.dst v) w) : wpAnyE P md os.toArray Q S E (n + 1) listed a w := by
 rw [Bool.and_eq_true] at hf
 have hi' : os.toArray[i]? = some oi := by simpa using hi
 exact firstE hi' (Region.noSelect_spec hs) (fun k hk => List.all_eq_true.1 hf.2 k (by simpa using hk)) hQ n listed a w (Region.free_spec hi' hf.1) (by simpa using hr) (Or.inl ⟨hw, hy⟩) hS (hL ▸ h)
/-- What yields one value in whatever world: it may be taken first. -/
theorem pureE {i n : Nat} {oi : Oper} {v : Value} {listed L : Array Bool} {a : Act} {w : World} (hi : os[i]? = some oi) (hL : listed.setIfInBounds i true = L)
  (hs : Region.noSelect os.toArray = true) (hf : Region.free md os.toArray listed i = true) (hr : (Region.ready md os.toArray listed).contains i = true)
  (hQ : ∀ c a w, Q (.panic c) (a.put oi.dst v) w → Q (.panic c) a w) (hw : Region.wanted oi (yielded os.toArray a.tmps) = true) (hy : ∀ w, (execOp a.eval oi).run P w = .ok (.value v) w)
  (h : wpAnyE P md os.toArray Q S E n L (a.put oi.dst v) w) : wpAnyE P md os.toArray Q S E (n + 1) listed a w := by
 have hi' : os.toArray[i]? = some oi := by simpa using hi
 exact firstT hi' (Region.noSelect_spec hs) hQ n listed a w (Region.free_spec hi' hf) (by simpa using hr) (Or.inl ⟨hw, fun w _ => hy w⟩) (hL ▸ h)
/-- pureE with what goes by itself. -/
theorem zE (i : Nat) (L : Array Bool) (v : Value) {n : Nat} {oi : Oper} {listed : Array Bool} {a : Act} {w : World} (hi : os[i]? = some oi) (hy : ∀ w, (execOp a.eval oi).run P w = .ok (.value v) w)
  (h : wpAnyE P md os.toArray Q S E n L (a.put oi.dst v) w) (hL : listed.setIfInBounds i true = L := by rfl)
  (hs : Region.noSelect os.toArray = true := by kernel_rfl) (hf : Region.free md os.toArray listed i = true := by kernel_rfl) (hr : (Region.ready md os.toArray listed).contains i = true := by kernel_rfl)
  (hQ : ∀ c a w, Q (.panic c) (a.put oi.dst v) w → Q (.panic c) a w := by exact fun _ _ _ h => h) (hw : Region.wanted oi (yielded os.toArray a.tmps) = true := by rfl) : wpAnyE P md os.toArray Q S E (n + 1) listed a w := pureE hi hL hs hf hr hQ hw hy h
/-- One alone may come up: it is carried out. -/
theorem stepE {i n : Nat} {oi : Oper} {listed L : Array Bool} {a : Act} {w : World} (hi : os[i]? = some oi) (hL : listed.setIfInBounds i true = L)
  (hr : Region.ready md os.toArray listed = [i]) (hw : Region.wanted oi (yielded os.toArray a.tmps) = true)
  (h : Oper.wp P oi a w (fun a' w' => (E.contains i = false → S w → S w') ∧ wpAnyE P md os.toArray Q S E n L a' w') Q) :
  wpAnyE P md os.toArray Q S E (n + 1) listed a w := by
 subst hL
 refine ⟨fun h0 => (by rw [hr] at h0; cases h0), fun j hj => ?_⟩
 rw [hr] at hj
 obtain rfl := List.mem_singleton.1 hj
 refine wpOp_step (by simpa using hi) (fun K' hK => ?_)
 rw [if_pos hw]
 exact Oper.wp_mono (fun a' w' h' => hK a' w' h') h
/-- The same, what follows under a name. -/
theorem stepK {i n : Nat} {oi : Oper} {listed L : Array Bool} {a : Act} {w : World} (hi : os[i]? = some oi) (hL : listed.setIfInBounds i true = L)
  (hr : Region.ready md os.toArray listed = [i]) (hw : Region.wanted oi (yielded os.toArray a.tmps) = true)
  (h : ∀ K' : Act → World → Prop, Shut (∀ a w', ((E.contains i = false → S w → S w') ∧ wpAnyE P md os.toArray Q S E n L a w') → K' a w') → Oper.wp P oi a w K' Q) :
  wpAnyE P md os.toArray Q S E (n + 1) listed a w := by
 subst hL
 refine ⟨fun h0 => (by rw [hr] at h0; cases h0), fun j hj => ?_⟩
 rw [hr] at hj
 obtain rfl := List.mem_singleton.1 hj
 refine wpOp_step (by simpa using hi) (fun K' hK => ?_)
 rw [if_pos hw]
 exact h K' hK
/-- Two may come up: whichever. -/
theorem stepK2 {i j n : Nat} {oi oj : Oper} {listed Li Lj : Array Bool} {a : Act} {w : World} (hi : os[i]? = some oi) (hj : os[j]? = some oj) (hLi : listed.setIfInBounds i true = Li) (hLj : listed.setIfInBounds j true = Lj)
  (hr : Region.ready md os.toArray listed = [i, j]) (hwi : Region.wanted oi (yielded os.toArray a.tmps) = true) (hwj : Region.wanted oj (yielded os.toArray a.tmps) = true)
  (h : ∀ K' : Act → World → Prop, Shut (∀ a w', ((E.contains i = false → S w → S w') ∧ wpAnyE P md os.toArray Q S E n Li a w') → K' a w') → Oper.wp P oi a w K' Q)
  (h' : ∀ K' : Act → World → Prop, Shut (∀ a w', ((E.contains j = false → S w → S w') ∧ wpAnyE P md os.toArray Q S E n Lj a w') → K' a w') → Oper.wp P oj a w K' Q) :
  wpAnyE P md os.toArray Q S E (n + 1) listed a w := by
 subst hLi
 subst hLj
 refine ⟨fun h0 => (by rw [hr] at h0; cases h0), fun m hm => ?_⟩
 rw [hr] at hm
 simp only [List.mem_cons, List.not_mem_nil, or_false] at hm
 rcases hm with rfl | rfl
 · refine wpOp_step (by simpa using hi) (fun K' hK => ?_)
   rw [if_pos hwi]
   exact h K' hK
 · refine wpOp_step (by simpa using hj) (fun K' hK => ?_)
   rw [if_pos hwj]
   exact h' K' hK
/-- An operation whose run is known. -/
theorem wp_of_run {o : Oper} {a : Act} {w w' : World} {v : Value} {K : Act → World → Prop} (h : (execOp a.eval o).run P w = .ok (.value v) w') (hK : K (a.put o.dst v) w') : o.wp P a w K Q := by
 unfold Oper.wp
 rw [h]
 exact hK
theorem doneE {L : Array Bool} {a : Act} {w : World} (hr : Region.ready md ops L = []) (h : Q .normal a w) : ∀ n, wpAnyE P md ops Q S E n L a w
 | 0 => ⟨hr, h⟩
 | _ + 1 => ⟨fun _ => h, by rw [hr]; simp⟩
theorem region_E (S : World → Prop) (E : List Nat) {id m : Nat} {L : Array Bool} {a : Act} {w : World} (hm : P.follows .mixedOrders = true) (hsz : os.length = m) (hL : Array.replicate m false = L)
  (h : wpAnyE P .any os.toArray Q S E m L a w.drew) : (Code.region id os.toArray true).wp P Q a w := by
 subst hsz
 subst hL
 exact wp_region_any hm (any_of_E _ _ _ _ h)
end
/-- A load of a whole row. -/
theorem exec_load_mid {P : Program} {op : Oper} {ev : Operand → Value} {w : World} (ty : TypeId) (x : Operand) (ho : op.op = .load ty x)
  (b o : Nat) (hx : ev x = .pointer (some ⟨b, o, none⟩)) (cs : List Value) (d : TypeDesc) (hc : w.rangeAt b o cs)
  (hu : P.underlying ty = some d) (hd : d.isRow = true) (hi : (P.info? ty).map (·.size) = some cs.length) : (execOp ev op).run P w = .ok (.value (.agg cs.toArray)) w := by
 unfold execOp
 simp only [ho, hx, Instr.loadAt, Instr.sureAddr, Sem.run_bind, Sem.run_pure, Result.andThen_ok, run_loadVar_mid w b o ty cs d hc hu hd hi]
end Go.Proofs.YtmbppgjhdcmckaaGreatDoor
namespace Go.Proofs.YtmbppgjhdcmckaaGreatDoor
open Go.RowKit
namespace Dy
open Dp
theorem row_range {w : World} {g o : Nat} {ws : List Int} (h : Row w g o ws) : w.rangeAt g o (ws.map (Value.int .u32)) := fun j v hv => by
 have hj : j < 74 := by
  have := h.len
  rcases Nat.lt_or_ge j 74 with h' | h'
  · exact h'
  · rw [List.getElem?_eq_none (by simp; omega)] at hv
    cases hv
 rw [h.cell j hj]
 have hl : j < ws.length := by rw [h.len]; exact hj
 rw [List.getElem?_map, List.getElem?_eq_getElem hl] at hv
 rw [List.getElem?_eq_getElem hl]
 exact hv
theorem Sum.sign {w : World} {g : Nat} {s : Bool} {L : Value} {ex : Int} {ws : List Int} (h : Sum w g s L ex ws) (t : Bool) : Sum (w.setCell ⟨g, 0, none⟩ (.bool t)) g t L ex ws :=
 ⟨by rw [heap_setCell_same w g _ _ _ _ h.blk]; congr 2; apply Array.ext'; simp, h.len, h.dig⟩
theorem borrow_ex (x y c : Nat) (hx : x < 4294967296) (hy : y < 4294967296) (hc : c ≤ 1) : ∃ d b, d < 4294967296 ∧ b ≤ 1 ∧ x + 4294967296 * b = d + y + c := by
 by_cases h : x < y + c
 · exact ⟨x + 4294967296 - y - c, 1, by omega, by omega, by omega⟩
 · exact ⟨x - y - c, 0, by omega, by omega, by omega⟩
end Dy
end Go.Proofs.YtmbppgjhdcmckaaGreatDoor
namespace Go.Proofs.YtmbppgjhdcmckaaGreatDoor
open Go.RowKit
namespace Dy
open Dp
theorem WideR.of_heap {w w' : World} {g : Nat} {ws : List Int} (h : WideR w g ws) (hh : w'.heap[g]? = w.heap[g]?) : WideR w' g ws := ⟨hh.trans h.blk, h.len, h.dig⟩
theorem WideR.lt {w : World} {g : Nat} {ws : List Int} (h : WideR w g ws) : g < w.heap.size := (Array.getElem?_eq_some_iff.1 h.blk).1
set_option maxHeartbeats 1600000 in
set_option maxRecDepth 100000 in
/-- (*ratio.wide).length. -/
theorem lengthR_any (w : World) (g : Nat) (ws : List Int) (hW : WideR w g ws) :
  Calls Tryz.prog 174 #[.pointer (some ⟨g, 0, none⟩)] w fun e w' => ∃ n : Nat, e = .returned (.int .i64 n) ∧ IsLen (num 4294967296 ws) n ∧ n ≤ 2432 ∧ w' = w := by
 go_enter Tryz.func174, Tryz.ntmps174
 go_wp2
 go_loopw [3] (fun iv wr => ∃ k : Nat, iv = .int .i64 ((k : Int) - 1) ∧ k ≤ 76 ∧ Hid (num 4294967296 (ws.drop k) = 0) ∧ wr = w) (fun iv _ => (intOf iv + 1).toNat)
 case atStart => exact ⟨76, rfl, Nat.le_refl _, by rw [Hid, List.drop_eq_nil_of_le (by rw [hW.len]; exact Nat.le_refl _)]; rfl, rfl⟩
 case round =>
  obtain ⟨k, rfl, hk, h0, rfl⟩ := hrel
  rcases k with _ | k
  · have e0 : num 4294967296 ws = 0 := by simpa using h0.out
    have E0 := Lib.hid e0
    clear e0
    go_wp2
    go_ret
    exact ⟨0, rfl, .inl ⟨E0.out, rfl⟩, by omega, rfl⟩
  · have ej : ((k + 1 : Nat) : Int) - 1 = (k : Int) := by omega
    obtain ⟨x, hx, hx2⟩ := dig_get (by decide) hW.dig k
    have g1 := hW.cell (j := k) (by omega)
    rw [hx] at g1
    rw [ej]
    have hk0 : (0 : Int) ≤ k := by omega
    have hk1 : (k : Int) < 76 := by omega
    have HX := Lib.hid hx
    clear hx ej
    by_cases hx0 : x = 0
    · have hne : ((x : Int) != 0) = false := by simp [hx0]
      have HN := Lib.hid (len_none (by rw [hW.len]; omega) h0.out HX.out hx0)
      clear hx0
      go_wp2
      go_roundw
      case rel => exact ⟨k, rfl, by omega, HN, by first | rfl | trivial⟩
      case measure => first | (simp [intOf]; done) | (simp [intOf]; omega)
    · have hne : ((x : Int) != 0) = true := by simpa using (show ¬ (x : Int) = 0 by omega)
      obtain ⟨y1, y2, y3, y4⟩ := len_bounds x hx0 hx2
      have HN := Lib.hid (len_top hW.dig (by rw [hW.len]; omega) h0.out HX.out y1 y2 y3)
      clear hx0 y2 y3
      go_wp2_with fail
      refine (Len32_any _ x (by omega) (by omega)).mono ?_
      rintro e w2 ⟨rfl, rfl⟩
      rw [Int.toNat_natCast]
      obtain ⟨b, hb⟩ : ∃ b, Lib.bitLen x = b := ⟨_, rfl⟩
      rw [hb] at y1 y4 HN ⊢
      clear hb
      go_wp2
      go_ret
      exact ⟨32 * k + b, by first | (congr 2; done) | (congr 2; push_cast; first | rfl | omega), HN.out, by omega, rfl⟩
set_option maxHeartbeats 3200000 in
set_option maxRecDepth 100000 in
/-- (*ratio.wide).one. -/
theorem oneR_any (w : World) (g : Nat) (ws : List Int) (hW : WideR w g ws) (v : Nat) (hv : num 4294967296 ws + 1 = v) (hlt : v < 4294967296 ^ 76) :
  Calls Tryz.prog 134 #[.pointer (some ⟨g, 0, none⟩)] w fun e w' => e = .returned (.tuple #[]) ∧ OnlyAt g w w' ∧ ∃ vs, WideR w' g vs ∧ num 4294967296 vs = v := by
 have HLT := Lib.hid hlt
 have HV := Lib.hid hv
 clear hlt hv
 go_enter Tryz.func134, Tryz.ntmps134
 go_wp2
 go_loopw [2, 3] (fun _ iv wr => ∃ (i : Nat) (cur : List Int), iv = .int .i64 i ∧ i ≤ 76 ∧ WideR wr g cur ∧ OnlyAt g w wr ∧ Hid (num 4294967296 cur + 4294967296 ^ i = v)) (fun _ iv _ => 76 - (intOf iv).toNat)
 case atStart => exact ⟨0, ws, rfl, by omega, hW, OnlyAt.refl _ _, by rw [Hid, Nat.pow_zero]; exact HV.out⟩
 case round =>
  obtain ⟨i, cur, rfl, hi, hC, hO, hN⟩ := hrel
  by_cases hlt : i < 76
  · obtain ⟨x, hx, hx2⟩ := dig_get (by decide) hC.dig i
    have c1 := hC.cell hlt
    have f1 := hC.free i
    rw [hx] at c1
    have hk0 : (0 : Int) ≤ i := by omega
    have hk1 : (i : Int) < 76 := by omega
    obtain ⟨q1, q2⟩ := one_step (by rw [hC.len]; exact hlt) hx v hN.out
    clear hx
    by_cases hxe : x + 1 = 4294967296
    · have hy : ((x : Int) + 1) % 4294967296 = 0 := by omega
      have Q := Lib.hid (q2 hxe)
      clear q1 q2
      have hC2 := hC.set i 0 (by decide)
      have d1 := hC2.cell (j := i) hlt
      have e1 : (cur.set i ((0 : Nat) : Int))[i]?.getD 0 = 0 := by simp [hC.len, hlt]
      rw [e1] at d1
      clear e1
      go_wp2_with fail
      go_region
      all_goals go_wp2
      all_goals go_roundw
      case rel => exact ⟨i + 1, cur.set i 0, by go_num, by omega, (hC.set i 0 (by decide)).of_heap rfl, (hO.setCell _).drew, Q⟩
      case measure => first | (simp [intOf]; done) | (simp [intOf]; omega)
    · have hy : ((x : Int) + 1) % 4294967296 = ((x + 1 : Nat) : Int) := by omega
      have hyn : (((x + 1 : Nat) : Int) != 0) = true := by simpa using (show ¬ ((x + 1 : Nat) : Int) = 0 by omega)
      have Q := Lib.hid (q1 (by omega))
      clear q1 q2
      go_wp2_with fail
      go_region
      all_goals go_wp2
      all_goals refine bodyPost_ret (results_none rfl _ _ _) rfl ?_
      all_goals exact ⟨rfl, (hO.setCell _).drew, cur.set i ((x + 1 : Nat) : Int), (hC.set i (x + 1) (by omega)).of_heap rfl, Q.out⟩
  · obtain rfl : i = 76 := by omega
    exfalso
    have h1 := hN.out
    have h2 := HLT.out
    generalize 4294967296 ^ 76 = b at *
    omega
/-- Doubled, and one more bit. -/
theorem or_bit (x c : Nat) (_hx : x < 4294967296) (hc : c ≤ 1) : bits .or .u32 ((2 * x % 4294967296 : Nat) : Int) (c : Int) = ((2 * x % 4294967296 + c : Nat) : Int) := by
 rw [u32_or_nat _ _ (by omega) (by omega)]
 have h3 : 2 * x % 4294967296 % 2 ^ 1 = 0 := by omega
 rw [nat_join 1 (2 * x % 4294967296) c h3 (by omega)]
set_option maxHeartbeats 6400000 in
set_option maxRecDepth 100000 in
/-- (*ratio.wide).next. -/
theorem nextR_any (w : World) (g g' : Nat) (hne : g ≠ g') (ws us : List Int) (hW : WideR w g ws) (hU : WideR w g' us) (d : Nat) (hd : d ≤ 1) (s : Nat) (hs : 2 * num 4294967296 ws + d = s) (hlt : s < 4294967296 ^ 76) (q r : Nat) (hq : (if num 4294967296 us ≤ s then 1 else 0) = q) (hr : (if num 4294967296 us ≤ s then s - num 4294967296 us else s) = r) :
  Calls Tryz.prog 198 #[.pointer (some ⟨g, 0, none⟩), .int .u32 d, .pointer (some ⟨g', 0, none⟩)] w fun e w' => e = .returned (.int .u32 q) ∧ OnlyAt g w w' ∧ ∃ vs, WideR w' g vs ∧ num 4294967296 vs = r := by
 have HS := Lib.hid hs
 have HLT := Lib.hid hlt
 have HQ := Lib.hid hq
 have HR := Lib.hid hr
 have hwl := Lib.hid hW.len
 have hul := Lib.hid hU.len
 have hud := Lib.hid hU.dig
 have hlt' := hW.lt
 have hgt' := hU.lt
 clear hs hlt hq hr
 go_enter Tryz.func198, Tryz.ntmps198
 go_wp2
 go_loopw [1, 7, 10] (fun dv _ iv wr => ∃ (i c : Nat) (cur : List Int), dv = .int .u32 c ∧ iv = .int .i64 i ∧ c ≤ 1 ∧ i ≤ 76 ∧ WideR wr g cur ∧ OnlyAt g w wr ∧ Hid (cur.drop i = ws.drop i) ∧ Hid (num 4294967296 (cur.take i) + 4294967296 ^ i * c = 2 * num 4294967296 (ws.take i) + d)) (fun _ _ iv _ => 76 - (intOf iv).toNat)
 case atStart => exact ⟨0, d, ws, rfl, rfl, hd, by omega, hW, OnlyAt.refl _ _, rfl, by simp [Hid, num]⟩
 case round =>
  obtain ⟨i, c, cur, rfl, rfl, hc, hi, hC, hO, hdr, hnm⟩ := hrel
  by_cases hlt : i < 76
  · obtain ⟨x, hx, hx2⟩ := dig_get (by decide) hC.dig i
    have c1 := hC.cell hlt
    have f1 := hC.free i
    rw [hx] at c1
    have hk0 : (0 : Int) ≤ i := by omega
    have hk1 : (i : Int) < 76 := by omega
    obtain ⟨p1, p2, p3⟩ := shl_step (ys := cur) ((drop_at hdr.out).symm.trans hx) hx2 hc hnm.out (by rw [hC.len]; exact hlt)
    have P3 := Lib.hid p3
    have DR := fun v : Int => drop_on (v := v) (by rw [hC.len]; exact hlt) hdr.out
    replace DR := Lib.hid DR
    clear hx p3
    have e2 : (x : Int) / 2147483648 = ((x / 2147483648 : Nat) : Int) := by omega
    have e3 := or_bit x c hx2 hc
    rw [show ((2 * x % 4294967296 : Nat) : Int) = (x : Int) * 2 % 4294967296 by omega] at e3
    obtain ⟨y, hy⟩ : ∃ y, 2 * x % 4294967296 + c = y := ⟨_, rfl⟩
    obtain ⟨t, ht⟩ : ∃ t, x / 2147483648 = t := ⟨_, rfl⟩
    rw [hy] at e3 p1 P3
    rw [ht] at e2 p2 P3
    clear hy ht
    go_wp2_with fail
    go_region
    all_goals go_wp2
    all_goals go_roundw
    case rel => exact ⟨i + 1, t, cur.set i (y : Int), rfl, by go_num, p2, by omega, (hC.set i y p1).of_heap rfl, (hO.setCell _).drew, DR.out _, P3⟩
    case measure => first | (simp [intOf]; done) | (simp [intOf]; omega)
  · obtain rfl : i = 76 := by omega
    have hcs : Hid (num 4294967296 cur = s) := Lib.hid (by
     have h1 := hnm.out
     rw [List.take_of_length_le (by rw [hC.len]; exact Nat.le_refl _), List.take_of_length_le (by rw [hwl.out]; exact Nat.le_refl _), HS.out] at h1
     have h2 := HLT.out
     generalize 4294967296 ^ 76 = b at *
     have hc0 : c = 0 ∨ c = 1 := by omega
     rcases hc0 with rfl | rfl <;> omega)
    clear hdr hnm
    have hU1 : WideR wr g' us := hU.of_heap (hO.block g' hgt' (Ne.symm hne))
    by_cases hle : num 4294967296 us ≤ s
    · have hq1 : q = 1 := by rw [← HQ.out, if_pos hle]
      have hr1 := HR.out
      rw [if_pos hle] at hr1
      subst hq1
      have HR1 := Lib.hid hr1
      have HLE := Lib.hid hle
      have hbl : decide (num 4294967296 cur < num 4294967296 us) = false := by rw [hcs.out]; simpa using hle
      have HBL := Lib.hid hbl
      clear hr1 hle hbl HQ HR
      obtain ⟨w1, hw1⟩ : ∃ W : World, W = wr := ⟨_, rfl⟩
      subst hw1
      go_wp2_with fail
      refine (belowR_any w1 g 0 g' 0 cur us hC.row hU1.row false HBL.out).mono ?_
      rintro e w2 ⟨rfl, m, rfl⟩
      have hC2 := hC.of_heap (w' := w1.drewN m) rfl
      have hU2 := hU1.of_heap (w' := w1.drewN m) rfl
      have hO2 := hO.drewN m
      clear hC hU1 hO
      generalize w1.drewN m = w3 at *
      go_wp2_with fail
      go_loopw [8, 9, 35] (fun cv _ iv wr => ∃ i c : Nat, ∃ now : List Int, cv = .int .u32 c ∧ iv = .int .i64 i ∧ c ≤ 1 ∧ i ≤ 76 ∧ WideR wr g now ∧ WideR wr g' us ∧ OnlyAt g w wr ∧ Hid (now.drop i = cur.drop i) ∧ Hid (num 4294967296 (cur.take i) + 4294967296 ^ i * c = num 4294967296 (now.take i) + num 4294967296 (us.take i))) (fun _ _ iv _ => 76 - (intOf iv).toNat)
      case atStart => exact ⟨0, 0, cur, rfl, rfl, by omega, by omega, hC2, hU2, hO2, rfl, by simp [Hid, num]⟩
      case round =>
       have hcl := Lib.hid hC2.len
       have hcd := Lib.hid hC2.dig
       clear hC2 hU2 hO2
       obtain ⟨i, cc, now, rfl, rfl, hc1, hi, hN, hUr, hOr, hdrop, hnum⟩ := hrel
       by_cases hlt : i < 76
       · obtain ⟨x, hx, hx2⟩ := dig_get (by decide) hN.dig i
         obtain ⟨y, hy, hy2⟩ := dig_get (by decide) hud.out i
         have c1 := hN.cell hlt
         have c2 := hUr.cell hlt
         have f1 := hN.free i
         rw [hx] at c1
         rw [hy] at c2
         have hk0 : (0 : Int) ≤ i := by omega
         have hk1 : (i : Int) < 76 := by omega
         have HX := Lib.hid hx
         have HY := Lib.hid hy
         clear hx hy
         obtain ⟨d2, b, hd2, hb, hdb⟩ := borrow_ex x y cc hx2 hy2 hc1
         have HD := Lib.hid hdb
         clear hdb
         go_wp2
         go_region_law (first
          | (go_simp; go_at_call 209; refine (Sub32_any _ x y cc d2 b hx2 hy2 hd2 hc1 hb HD.out).mono ?_; rintro e w' ⟨rfl, rfl⟩))
         all_goals go_wp2
         all_goals go_roundw
         all_goals first
          | exact ⟨i + 1, b, now.set i (d2 : Int), rfl, by go_num, hb, by omega, (hN.set i d2 hd2).of_heap rfl, (hUr.of_heap (heap_setCell_other _ _ _ _ (by simp; omega))).of_heap rfl, (hOr.setCell _).drew,
            drop_on (by rw [hN.len]; exact hlt) hdrop.out, by rw [Hid]; exact diff_law (by rw [hN.len]; exact hlt) hnum.out ((drop_at hdrop.out).symm.trans HX.out) HY.out HD.out⟩
          | (simp [intOf]; omega)
       · obtain rfl : i = 76 := by omega
         have hend := diff_end (by decide) hN.dig hN.len hcl.out hul.out hnum.out (by rw [hcs.out]; exact HLE.out)
         rw [hcs.out, HR1.out] at hend
         have HE := Lib.hid hend
         clear hend hnum hdrop
         go_wp2
         go_ret
         exact ⟨rfl, hOr, now, hN, HE.out⟩
    · have hq0 : q = 0 := by rw [← HQ.out, if_neg hle]
      have hr1 := HR.out
      rw [if_neg hle] at hr1
      subst hq0
      have HR1 := Lib.hid (hcs.out.trans hr1)
      have hbl : decide (num 4294967296 cur < num 4294967296 us) = true := by rw [hcs.out]; simpa using (show s < num 4294967296 us by omega)
      have HBL := Lib.hid hbl
      clear hr1 hle hbl HQ HR
      go_wp2_with fail
      refine (belowR_any wr g 0 g' 0 cur us hC.row hU1.row true HBL.out).mono ?_
      rintro e w2 ⟨rfl, m, rfl⟩
      go_wp2
      go_ret
      exact ⟨rfl, hO.drewN m, cur, hC.of_heap rfl, HR1.out⟩
end Dy
end Go.Proofs.YtmbppgjhdcmckaaGreatDoor
namespace Go.Proofs.YtmbppgjhdcmckaaGreatDoor
open Go.RowKit
/-- But for the blocks of O, cells that lay in W lie in W' as they lay; what O' has and O has not is new. -/
structure Gain (O O' : Nat → Prop) (W W' : World) : Prop where
 size : W.heap.size ≤ W'.heap.size
 same : ∀ k cs t z, ¬ O k → W.heap[k]? = some (.cells cs t z) → W'.heap[k]? = some (.cells cs t z)
 new : ∀ k, O' k → O k ∨ (W.heap.size ≤ k ∧ k < W'.heap.size)
theorem Gain.refl (O : Nat → Prop) (W : World) : Gain O O W W := ⟨Nat.le_refl _, fun _ _ _ _ _ h => h, fun _ h => .inl h⟩
theorem Gain.trans {O O' O'' : Nat → Prop} {A B C : World} (h : Gain O O' A B) (k : Gain O' O'' B C) : Gain O O'' A C where
 size := Nat.le_trans h.size k.size
 same i cs t z hi hA := by
  refine k.same i cs t z (fun hO => ?_) (h.same i cs t z hi hA)
  rcases h.new i hO with h1 | h1
  · exact hi h1
  · have := (Array.getElem?_eq_some_iff.1 hA).1
    omega
 new i hi := by
  rcases k.new i hi with h1 | h1
  · rcases h.new i h1 with h2 | h2
    · exact .inl h2
    · exact .inr ⟨h2.1, Nat.lt_of_lt_of_le h2.2 k.size⟩
  · exact .inr ⟨Nat.le_trans h.size h1.1, h1.2⟩
theorem Gain.put (O : Nat → Prop) {W : World} {l : Nat} {o : Obj} (o' : Obj) (hl : W.heap[l]? = some o) (ho : o.isCells = false) : Gain O O W (W.putObj l o') where
 size := by simp
 same k cs t z _ hk := (World.putObj_heap_other (fun e => by subst e; rw [hl] at hk; cases hk; cases ho)).trans hk
 new _ h := .inl h
/-- J stands whatever is laid anew, and whatever becomes of block g. -/
def Loose {β : Type} (g : Nat) (J : β → (Nat → Prop) → World → Prop) : Prop := ∀ s O W W' row, J s O W → W.grownBy W' row → (∀ r, row = some r → r = g) → J s O W'
/-- The two blocks of a loop's own. -/
def Book (D : Nat) (r : Loop) (W : World) : Prop := W.heap[D + 1]? = some (.loop r) ∧ W.heap[D]? = some (.deferred (some []))
theorem Book.lt {D : Nat} {r : Loop} {W : World} (h : Book D r W) : D + 1 < W.heap.size := (Array.getElem?_eq_some_iff.1 h.1).1
theorem Book.grown {D : Nat} {r : Loop} {W W' : World} {row : Option Nat} (h : Book D r W) (hg : W.grownBy W' row) (hr : ∀ k, row = some k → k < D) : Book D r W' := by
 have hl := h.lt
 exact ⟨(hg.block _ hl (fun e => by have := hr _ e.symm; omega)).trans h.1, (hg.block _ (by omega) (fun e => by have := hr _ e.symm; omega)).trans h.2⟩
theorem Book.put {D : Nat} {r : Loop} {W : World} (h : Book D r W) (r' : Loop) : Book D r' (W.putObj (D + 1) (.loop r')) :=
 ⟨World.putObj_heap_same h.lt, (World.putObj_heap_other (by omega)).trans h.2⟩
theorem Book.keeps {D : Nat} {r : Loop} {W W' : World} (h : Book D r W) (hk : KeepsFrom D W W') : Book D r W' :=
 ⟨hk.same _ _ (by omega) h.1 rfl, hk.same _ _ (Nat.le_refl _) h.2 rfl⟩
variable {F : Fence} {n : Nat} {P : Program}
/-- The end of a round: the record is turned, all else stands. -/
theorem round_end {D : Nat} {r : Loop} {W : World} (h : Book D r W) (jump : Option Code) :
  (Instr.endRound (D + 1) jump).run P W = .ok (.bool jump.isNone) (W.putObj (D + 1) (.loop { r with state := if jump.isNone then .ready else .done, pending := jump })) := run_endRound jump h.1
end Go.Proofs.YtmbppgjhdcmckaaGreatDoor