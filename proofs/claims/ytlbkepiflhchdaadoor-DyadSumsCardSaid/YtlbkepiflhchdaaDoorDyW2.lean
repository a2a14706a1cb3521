/- A dyad's limbs, shifted, in a long array: a walk. -/
import Derived.Test.YtlbkepiflhchdaaDoorDyW1
import Derived.Deep.WholeRow
import Derived.Deep.MidRow
import Derived.Outline
namespace Go.Proofs.YtlbkepiflhchdaaDoor
open Go.RowKit
namespace Dy
open Dp
/-- The cells of a row of limbs. -/
def rowU (ws : List Int) : Array Value := (ws.map (Value.int .u32)).toArray
theorem rowU_size (ws : List Int) : (rowU ws).size = ws.length := by simp [rowU]
theorem rowU_get (ws : List Int) {j : Nat} (h : j < ws.length) : (rowU ws)[j]? = some (.int .u32 (ws[j]?.getD 0)) := by
  simp [rowU, List.getElem?_eq_getElem h]
theorem rowU_set (ws : List Int) (j : Nat) (v : Int) : (rowU ws).setIfInBounds j (.int .u32 v) = rowU (ws.set j v) := by
  simp [rowU, List.map_set]
theorem rowU_one (ws : List Int) : (rowU ws).all (·.oneCell') = true := by
  simp [rowU, Value.oneCell']
/-- A row of 74 limbs in a block of its own. -/
structure Wide (w : World) (g : Nat) (ws : List Int) : Prop where
  blk : w.heap[g]? = some (.cells (rowU ws) 81 (0, 0))
  len : ws.length = 74
  dig : Dig 4294967296 ws
theorem Wide.cell {w : World} {g : Nat} {ws : List Int} (h : Wide w g ws) {j : Nat} (hj : j < 74) : w.cell? ⟨g, j, none⟩ = some (.int .u32 (ws[j]?.getD 0)) := by
  rw [cell_of_row w g j _ _ _ h.blk]
  exact rowU_get ws (by rw [h.len]; exact hj)
theorem Wide.free {w : World} {g : Nat} {ws : List Int} (h : Wide w g ws) (j : Nat) : w.frozen? ⟨g, j, none⟩ = false := frozen_of_row w g j _ _ h.blk
theorem Wide.set {w : World} {g : Nat} {ws : List Int} (h : Wide w g ws) (j d : Nat) (hd : d < 4294967296) : Wide (w.setCell ⟨g, j, none⟩ (.int .u32 d)) g (ws.set j d) :=
  ⟨by rw [heap_setCell_same w g j _ _ _ h.blk, rowU_set], by rw [List.length_set, h.len], dig_set h.dig j d hd⟩
theorem below_setRow {B : Nat} {a w : World} (h : Below B a w) {g : Nat} (hg : B ≤ g) (cs : Array Value) : Below B a (w.setRow g cs) :=
  ⟨h.os, h.tape, h.output, by rw [size_setRow]; exact h.size, fun k hk => (setRow_other w g k cs (by omega)).trans (h.block k hk)⟩
def zero74 : List Int := List.replicate 74 0
theorem Tryd.info81 : (Tryd.prog.info? 81).map (fun i => (i.zero, i.size)) = some (some (.agg (rowU zero74)), 74) := by kernel_rfl

theorem shl_wrap (x r : Nat) (hx : x < 4294967296) (hr : r < 32) : IntKind.u64.wrap ((x : Int) * 2 ^ r) = ((x * 2 ^ r : Nat) : Int) := by
  have h1 : x * 2 ^ r < 4294967296 * 2 ^ 32 := Nat.lt_of_lt_of_le (Nat.mul_lt_mul_of_pos_right hx (Nat.pow_pos (by decide))) (Nat.mul_le_mul_left _ (Nat.pow_le_pow_right (by decide) (by omega)))
  have e : ((x : Int) * 2 ^ r) = ((x * 2 ^ r : Nat) : Int) := by push_cast; rfl
  rw [e, IntKind.wrap_u64]
  omega
theorem or_lo (p x r : Nat) (hx : x < 4294967296) (hr : r < 32) (hp : p < 2 ^ r) (hs : p + x * 2 ^ r % 4294967296 < 4294967296) :
    bits .or .u32 (p : Int) (IntKind.u64.wrap ((x : Int) * 2 ^ r) % 4294967296) = ((p + x * 2 ^ r % 4294967296 : Nat) : Int) := by
  have e1 : ((x * 2 ^ r : Nat) : Int) % 4294967296 = ((x * 2 ^ r % 4294967296 : Nat) : Int) := by omega
  have h3 : x * 2 ^ r % 4294967296 % 2 ^ r = 0 := by
    have e : (4294967296 : Nat) = 2 ^ r * 2 ^ (32 - r) := by rw [← Nat.pow_add, show r + (32 - r) = 32 by omega]
    conv => lhs; rw [e, Nat.mul_comm x]
    rw [Nat.mul_mod_mul_left]
    exact Nat.mul_mod_right _ _
  rw [shl_wrap x r hx hr, e1, u32_or_nat _ _ (by omega) (by omega), Nat.or_comm, nat_join r _ _ h3 hp, Nat.add_comm]
theorem or_hi (x r : Nat) (hx : x < 4294967296) (hr : r < 32) (hs : x * 2 ^ r / 4294967296 < 4294967296) :
    bits .or .u32 0 (IntKind.u64.wrap ((x : Int) * 2 ^ r) / 4294967296 % 4294967296) = ((x * 2 ^ r / 4294967296 : Nat) : Int) := by
  have e1 : ((x * 2 ^ r : Nat) : Int) / 4294967296 % 4294967296 = ((x * 2 ^ r / 4294967296 : Nat) : Int) := by omega
  rw [shl_wrap x r hx hr, e1]
  have := u32_or_nat 0 (x * 2 ^ r / 4294967296) (by decide) hs
  simpa using this
set_option maxHeartbeats 1600000 in
set_option maxRecDepth 100000 in
/-- dyad.widen. -/
theorem widen_any (w : World) (lo hi : Nat) (s : Bool) (A : Option Addr) (n c : Nat) (xs : List Int) (ex k : Nat) (hX : Ints w lo hi .u32 A n xs) (hhi : hi ≤ w.heap.size) (hd : Dig 4294967296 xs) (hn : n ≤ 40) (_he : ex ≤ 2000) (hk : k ≤ 1024) (kk : Int) (hkk : kk = (ex : Int) + k) :
    Calls Tryd.prog 64 #[.agg #[.bool s, .slice A n c, .int .i64 ex], .int .i64 kk] w fun e w' => ∃ ws, e = .returned (.agg (rowU ws)) ∧ Below w.heap.size w w' ∧ ws.length = 74 ∧ Dig 4294967296 ws ∧ num 4294967296 ws = num 4294967296 xs * 2 ^ k := by
  subst hkk
  have hL := Lib.hid hX.len
  obtain ⟨hz, hi81⟩ := zero_of_info Tryd.info81
  have hI := Lib.hid hi81
  clear hi81
  have hek : (ex : Int) + k - ex = k := by omega
  have hzz : (num 4294967296 zero74 = 0) ∧ zero74.length = 74 ∧ Dig 4294967296 zero74 := ⟨num_zeros _ _, by simp [zero74], fun x hx => by have := List.eq_of_mem_replicate hx; omega⟩
  have HZ := Lib.hid hzz
  clear hzz
  go_enter Tryd.func64, Tryd.ntmps64
  go_wp2
  go_loopw [6, 7, 8, 16] (fun _ _ _ iv wr => ∃ i : Nat, ∃ ws : List Int, iv = .int .i64 i ∧ i ≤ n ∧ Below w.heap.size w wr ∧ Wide wr (w.heap.size + 1) ws ∧ Hid (num 4294967296 ws = num 4294967296 (xs.take i) * 2 ^ k)) (fun _ _ _ iv _ => n - (intOf iv).toNat)
  case atStart =>
    exact ⟨0, zero74, rfl, Nat.zero_le _, ((Below.refl _ _).alloc (Nat.le_refl _) _).alloc (by simp) _, ⟨heap_alloc2_new _ _ _, HZ.out.2.1, HZ.out.2.2⟩, by rw [Hid, HZ.out.1]; simp [num]⟩
  case round =>
    obtain ⟨i, ws, rfl, hin, hb, hW, hnum⟩ := hrel
    by_cases hlt : i < n
    · obtain ⟨b, off, rfl, hcell⟩ := get (hX.below hb hhi) (by omega)
      have g1 := hcell i hlt
      obtain ⟨x, hx, hx2⟩ := dig_get (by decide) hd i
      rw [hx] at g1
      obtain ⟨p, hp, hp2⟩ := dig_get (by decide) hW.dig (i + k / 32)
      obtain ⟨l1, l2, l3, l4, l5, l6⟩ := wide_law hW.dig hd (by rw [hW.len]; omega) hnum.out hx hp
      have c1 := hW.cell (j := i + k / 32) (by omega)
      have c2 := hW.cell (j := i + k / 32 + 1) (by omega)
      have f1 := hW.free (i + k / 32)
      have f2 := hW.free (i + k / 32 + 1)
      rw [hp] at c1
      rw [l2] at c2
      have HX := Lib.hid hx
      have HP := Lib.hid hp
      have L2 := Lib.hid l2
      clear hcell hx hp l2
      go_wp2
      go_roundw
      case rel =>
        have E1 := or_lo p x (k % 32) hx2 (Nat.mod_lt _ (by decide)) l1 l3
        have E2 := or_hi x (k % 32) hx2 (Nat.mod_lt _ (by decide)) l4
        rw [E1, E2]
        exact ⟨i + 1, (ws.set (i + k / 32) ((p + x * 2 ^ (k % 32) % 4294967296 : Nat) : Int)).set (i + k / 32 + 1) ((x * 2 ^ (k % 32) / 4294967296 : Nat) : Int), by go_num, by omega, (hb.setCell (by simp) _).setCell (by simp) _, (hW.set _ _ l3).set _ _ l4, Lib.hid l6⟩
      case measure => simp [intOf]; omega
    · obtain rfl : i = n := by omega
      have hend := hnum.out
      rw [List.take_of_length_le (by rw [hL.out]; exact Nat.le_refl _)] at hend
      have HE := Lib.hid hend
      have hsz : (rowU ws).size = 74 := by rw [rowU_size, hW.len]
      have hsz2 := hI.out
      rw [← hsz] at hsz2
      have hblk := hW.blk
      have hone := rowU_one ws
      have HS := Lib.hid hsz
      have HS2 := Lib.hid hsz2
      have HB := Lib.hid hblk
      have HO := Lib.hid hone
      clear hend hsz hsz2 hblk hone hnum
      go_wp2_with (first
        | (refine wpList_load_row rfl 81 (.tmp 4) rfl (w.heap.size + 1) rfl _ _ _ _ HB.out Tryd.underlying81 rfl HS2.out ?_)
        | (refine wpList_store_row rfl 81 (.tmp 4) (.tmp 49) rfl (w.heap.size + 1) (rowU ws) rfl rfl _ _ HB.out HS2.out rfl HO.out ?_))
      have hblk2 := setRow_heap wr (w.heap.size + 1) (rowU ws) (rowU ws) _ _ HB.out
      refine bodyPost_ret (v := .agg (rowU ws)) (results_cell_row Tryd.results64 _ _ (w.heap.size + 1) _ _ _ _ rfl hblk2 Tryd.underlying81 rfl HS2.out) rfl ⟨ws, rfl, ?_, hW.len, hW.dig, HE.out⟩
      exact below_setRow hb (by omega) _
end Dy
end Go.Proofs.YtlbkepiflhchdaaDoor
