/- Lists of parts among the arguments. -/
/- What the law PastNames needs: lists of parts of nothing, made and numbered. -/
/- The law PastNames: a walk (printed by a program of mine). -/
import Derived.Test.YtbbnbgllgomolaaBz13
import Derived.Laws.OwnMore
namespace Go.Proofs.Ytbbnbgllgomolaa
open Go.ChangeShapes Go.WideShapes Go.ChangeAt Go.RowKit Go.Joins Go.Deep
section
variable {H : Type} {enc : TypeId × Value → H} {W : World}
instance : Inhabited Ma.Pv := ⟨Ma.ZPv⟩
set_option maxRecDepth 100000 in
/-- A list of parts among the arguments. -/
theorem parts_open {r : Reach} {b0 : Nat} {v : Value} {d : DataW H} {p : List MemPlace}
  (hval : Value.okWide Try.prog W r b0 73 v) (h : DataW.Trod enc Try.prog W 0 (fun _ => true) true 73 v d p) (hfz : ∀ b off, MemPlace.cell b off ∈ p → W.frozen? ⟨b, off, none⟩ = false) (hlt : ∀ q ∈ p, q.block < W.heap.size) :
  ∃ A n c ps, v = .slice A n c ∧ n ≤ c ∧ c ≤ maxLen ∧ Ma.LPs W 0 W.heap.size A n ps := by
 obtain ⟨A, n, c, rfl⟩ := okWide_slice Try.underlying73 hval
 obtain ⟨fuel, hf⟩ := h
 simp only [Value.cells] at hf
 generalize hx0 : (d, p) = x at hf
 have hp : p = x.2 := by rw [← hx0]
 rw [hp] at hfz hlt
 rcases open_slice Try.underlying73 hf with ⟨hcs, _⟩ | ⟨a, len, cap, m, k, D, Pl, hcs, _, hl, hm, hmm, hx, hi⟩
 · injection hcs with hcs
   exact ⟨none, 0, 0, [], hcs, Nat.le_refl _, by unfold maxLen; omega, ⟨rfl, by decide, fun h0 => absurd h0 (Nat.lt_irrefl 0), fun j hj => absurd hj (Nat.not_lt_zero _)⟩⟩
 · injection hcs with hcs
   simp only [if_true] at hmm
   subst hmm
   have hC : Try.prog.cellsOf 31 = 16 := by kernel_rfl
   have hx2 : x.2 = MemPlace.row a (m * 16) ++ (List.range m).flatMap Pl := by rw [hx, hC]
   have hmem : ∀ i, i < m → ∀ q ∈ Pl i, q ∈ x.2 := fun i hi' q hq => by
    rw [hx2]
    exact List.mem_append_right _ (List.mem_flatMap.2 ⟨i, List.mem_range.2 hi', hq⟩)
   have hV : ∀ i, i < m → ∃ q : Ma.Pv, (∀ k, k < 16 → W.cell? ((a.add (i * 16)).add k) = (Ma.cells16 q)[k]?) ∧ Ma.PRows W 0 W.heap.size q := fun i hi' => by
    obtain ⟨cs', h1, h2⟩ := hi i hi'
    rw [hC] at h1
    obtain ⟨_, _, hcell⟩ := World.cells?_some h1
    obtain ⟨q, e, hq, _⟩ := part_trod h2 (fun b off hm => hfz b off (hmem i hi' _ hm)) (fun q hq => hlt q (hmem i hi' q hq))
    subst e
    exact ⟨q, hcell, hq⟩
   obtain ⟨q, hq⟩ := choose_lt hV
   refine ⟨some a, len, m, (List.range len).map q, hcs, hl, hm, by simp, by unfold maxLen at hm; omega, fun h0 => ?_, fun j hj => ?_⟩
   · obtain ⟨b, off, spot⟩ := a
     have hspot : spot = none := by
      have k := (hq 0 (by omega)).1 0 (by decide)
      have k2 := World.cell?_spot k
      simpa [Addr.add] using k2
     subst hspot
     have hb : b < W.heap.size := hlt _ (by
      rw [hx2]
      exact List.mem_append_left _ (MemPlace.mem_row.2 ⟨0, by omega, rfl⟩) : MemPlace.cell b (off + 0) ∈ x.2)
     refine ⟨b, off, rfl, Nat.zero_le _, hb, fun j hj => ?_⟩
     have hj' : j < len := by simpa using hj
     have e : ((List.range len).map q)[j] = q j := by simp
     rw [e]
     have g := (hq j (by omega)).1
     simp only [add_plain] at g
     exact Ma.pcells_of g
   · have e : ((List.range len).map q)[j] = q j := by simp
     rw [e]
     have hj' : j < len := by simpa using hj
     exact (hq j (by omega)).2
end
end Go.Proofs.Ytbbnbgllgomolaa
namespace Go.Proofs.Ytbbnbgllgomolaa
open Go.RowKit
namespace Ma
open Dp Dy
def ZFv : Fv := ⟨0, ZPv⟩
theorem zero_mayD : Dv.may ⟨false, none, 0, 0, 0, []⟩ := Is.zero.may zero_may
theorem shareZ : ZM.share := ⟨four (p := fun x => Dv.may (ZM.get x)) zero_mayD zero_mayD zero_mayD zero_mayD, rfl, fun _ => rfl⟩
theorem mayPZ (h : Bool) (mn mx : Int) (A : Option Addr) (n c : Nat) (xs : List Int) : mayP ⟨ZM, h, mn, mx, A, n, c, xs⟩ = (mayE h mn mx && decide (Least.checkCode xs = 0)) := by
 unfold mayP
 rw [badS_one.2 shareZ]
 rfl
theorem mayZ : mayP ZPv = true := (mayPZ ..).trans rfl
def seqF (n : Nat) : List Fv := (List.range n).map fun (j : Nat) => (⟨(j : Int), ZPv⟩ : Fv)
theorem seqF_len (n : Nat) : (seqF n).length = n := by simp [seqF]
theorem seqF_at (n j : Nat) (h : j < (seqF n).length) : (seqF n)[j] = ⟨(j : Int), ZPv⟩ := by simp [seqF]
theorem seqF_succ (n : Nat) : seqF (n + 1) = seqF n ++ [⟨(n : Int), ZPv⟩] := by simp [seqF, List.range_succ]
theorem seqF_take {n i : Nat} (h : i ≤ n) : (seqF n).take i = seqF i := by
 refine List.ext_getElem (by simp [seqF_len]; omega) fun j h1 h2 => ?_
 rw [List.getElem_take, seqF_at, seqF_at]
theorem seqF_may : ∀ n, n ≤ 65536 → mayF (-1) (seqF n) = true
 | 0, _ => rfl
 | n + 1, h => by
  rw [seqF_succ]
  refine mayF_snoc (seqF_may n (by omega)) (by omega) (fun j hj => ?_) (by omega) mayZ
  rw [seqF_at]
  have := seqF_len n
  simp only
  omega
theorem seqF_ahead (n : Nat) (h : n ≤ 65536) (z : Int) (hz : (n : Int) ≤ z) : aheadF (seqF n) z = n := by
 refine aheadF_is (seqF_may n h) n (Nat.le_of_eq (seqF_len n).symm) (fun j hj h2 => ?_) (fun j hj h2 => ?_)
 · rw [seqF_at]
   simp only
   omega
 · have := seqF_len n
   omega
theorem seqF_check (n : Nat) (h : n ≤ 1024) : checkF n (seqF n) = 0 := by
 unfold checkF
 rw [if_neg (by omega), if_pos (seqF_may n (by omega))]
theorem seqF_ask (n : Nat) (h : n ≤ 1024) (z : Int) (h0 : 0 ≤ z) (h1 : z ≤ 65535) : askF n (seqF n) z = 0 := by
 unfold askF
 rw [if_neg (by rw [seqF_check n h]; simp), if_neg (by omega)]
theorem nm_full : freezeF 1024 (seqF 1024) 1024 ZPv = 9 := by
 unfold freezeF
 rw [seqF_ask 1024 (by decide) 1024 (by decide) (by decide), seqF_ahead 1024 (by decide) 1024 (by decide), mayZ]
 rfl
theorem nm_ok : freezeF 1023 (seqF 1023) 1023 ZPv = 0 := by
 unfold freezeF
 rw [seqF_ask 1023 (by decide) 1023 (by decide) (by decide), seqF_ahead 1023 (by decide) 1023 (by decide), mayZ]
 rfl
theorem nm_arg : getF 0 [] 65536 = 2 := by simp [getF, askF, checkF, mayF]
theorem nm_none : getF 0 [] 65535 = 6 := by simp [getF, askF, checkF, mayF, aheadF]
theorem nm_bad {p : Pv} (h : ¬ p.M.share) : freezeF 0 [] 0 p = 8 := by
 have hp : mayP p = false := by
  unfold mayP
  rw [badS_yes (List.mem_singleton.2 rfl) h]
  rfl
 simp [freezeF, askF, checkF, mayF, hp]
theorem nm_many (fs : List Fv) (z : Int) : askF 1025 fs z = 4 := by simp [askF, checkF]
theorem nm_one : checkF 1 [⟨1, ZPv⟩] = 0 := by simp [checkF, mayF, mayZ]
theorem nm_two : checkF 2 [⟨3, ZPv⟩, ⟨3, ZPv⟩] = 8 := by simp [checkF, mayF]
theorem nm_edge : mayP ⟨ZM, false, 1, 0, none, 0, 0, []⟩ = false := (mayPZ ..).trans rfl
theorem nm_tags (A : Option Addr) : mayP ⟨ZM, false, 0, 0, A, 2, 2, [2, 1]⟩ = false := (mayPZ ..).trans rfl
theorem made_flat (n : Nat) : (madeCells (Value.cells (.agg #[.int .i64 0, .bool false, .slice none 0 0, .int .i64 0, .bool false, .slice none 0 0, .int .i64 0, .bool false, .slice none 0 0, .int .i64 0, .bool false, .slice none 0 0, .int .i64 0, .bool false, .int .i64 0, .int .i64 0, .slice none 0 0])) (n * 17)).toList = flatF (List.replicate n ZFv) := by
 have hr : ∀ m, (flatF (List.replicate m ZFv)).length = m * 17 := fun m => by rw [flatF_len, List.length_replicate]
 refine List.ext_getElem (by rw [hr]; simp [size_madeCells]) fun i h1 h2 => ?_
 have hi : i < n * 17 := by rw [hr] at h2; exact h2
 have e : (flatF (List.replicate n ZFv))[i]? = (cells17 ZFv)[i % 17]? := by
  have hd : i = i / 17 * 17 + i % 17 := by omega
  have hq : i / 17 < (List.replicate n ZFv).length := by rw [List.length_replicate]; omega
  have := flatF_get (List.replicate n ZFv) (i / 17) (i % 17) hq (Nat.mod_lt _ (by decide))
  rw [← hd, List.getElem_replicate] at this
  exact this
 have e2 := List.getElem?_eq_getElem h2
 rw [e2] at e
 have hm : (madeCells (Value.cells (.agg #[.int .i64 0, .bool false, .slice none 0 0, .int .i64 0, .bool false, .slice none 0 0, .int .i64 0, .bool false, .slice none 0 0, .int .i64 0, .bool false, .slice none 0 0, .int .i64 0, .bool false, .int .i64 0, .int .i64 0, .slice none 0 0])) (n * 17)).toList[i]? = (cells17 ZFv)[i % 17]? := by
  unfold madeCells
  simp only [Array.getElem?_toList, Array.getElem?_map, Array.getElem?_range]
  rw [if_pos hi]
  have hlt : i % 17 < 17 := Nat.mod_lt _ (by decide)
  show some ((#[.int .i64 0, .bool false, .slice none 0 0, .int .i64 0, .bool false, .slice none 0 0, .int .i64 0, .bool false, .slice none 0 0, .int .i64 0, .bool false, .slice none 0 0, .int .i64 0, .bool false, .int .i64 0, .int .i64 0, .slice none 0 0] : Array Value)[i % 17]!) = (cells17 ZFv)[i % 17]?
  generalize i % 17 = j at hlt
  have hj : j = 0 ∨ j = 1 ∨ j = 2 ∨ j = 3 ∨ j = 4 ∨ j = 5 ∨ j = 6 ∨ j = 7 ∨ j = 8 ∨ j = 9 ∨ j = 10 ∨ j = 11 ∨ j = 12 ∨ j = 13 ∨ j = 14 ∨ j = 15 ∨ j = 16 := by omega
  rcases hj with rfl | rfl | rfl | rfl | rfl | rfl | rfl | rfl | rfl | rfl | rfl | rfl | rfl | rfl | rfl | rfl | rfl <;> rfl
 rw [List.getElem?_eq_getElem h1] at hm
 exact Option.some.inj (hm.trans e.symm)
theorem offZ (e : Int) (g : Option Nat) : Fv.off ⟨e, ZPv⟩ g := ⟨fun x hx a h => by
 have hx' : x = 0 ∨ x = 1 ∨ x = 2 ∨ x = 3 := by omega
 rcases hx' with rfl | rfl | rfl | rfl <;> exact absurd h (by simp [ZPv, ZM, Mv.get]), fun a h => absurd h (by simp [ZPv])⟩
theorem make_many (w : World) : ∃ w', (Instr.makeSlice 22 (.int .i64 1025) (.int .i64 1025)).run Try.prog w = .ok (.slice (some ⟨w.heap.size, 0, none⟩) 1025 1025) w' ∧
  OwnF w' w.heap.size (.slice (some ⟨w.heap.size, 0, none⟩) 1025 1025) 1025 (List.replicate 1025 ZFv) ∧ Below w.heap.size w w' := by
 obtain ⟨i0, hi0, hz0, hz1, hz2⟩ := info_parts infoF
 obtain ⟨w', hr, hown, hg⟩ := run_makeSlice_full (P := Try.prog) w w.heap.size 22 68 i0 _ 17 Try.underlying22 hi0 hz0 hz1 .i64 .i64 1025 (by decide) (by rw [hz2]; decide) (by decide) (Nat.le_refl _)
 rw [made_flat] at hown
 refine ⟨w', hr, ⟨hown, List.length_replicate, fun f hf => ?_, fun f hf => ?_⟩, (Below.refl _ _).grown hg (Nat.le_refl _) (fun k hk => absurd hk (by simp))⟩
 · rw [List.eq_of_mem_replicate hf]
   exact rowsZ _ _ _
 · rw [List.eq_of_mem_replicate hf]
   exact offZ _ _
theorem flatF_epoch : ∀ (l : List Fv) (i : Nat) (e : Int) (h : i < l.length), flatF (l.set i ⟨e, l[i].P⟩) = (flatF l).set (i * 17) (.int .i64 e)
 | [], _, _, h => absurd h (Nat.not_lt_zero _)
 | a :: l, 0, e, _ => by simp [flatF, cells17]
 | a :: l, i + 1, e, h => by
  have hi : i < l.length := by simpa using h
  have ih := flatF_epoch l i e hi
  have e2 : (i + 1) * 17 = (cells17 a).length + i * 17 := by simp [cells17]; omega
  show cells17 a ++ flatF (l.set i ⟨e, l[i].P⟩) = (cells17 a ++ flatF l).set ((i + 1) * 17) (.int .i64 e)
  rw [ih, e2, List.set_append_right _ _ (Nat.le_add_right _ _), Nat.add_sub_cancel_left]
theorem OwnF.epoch {w : World} {base g n c : Nat} {fs : List Fv} (h : OwnF w base (.slice (some ⟨g, 0, none⟩) n c) n fs) {i : Nat} (hi : i < fs.length) (e : Int) :
  OwnF (w.setCell ⟨g, i * 17, none⟩ (.int .i64 e)) base (.slice (some ⟨g, 0, none⟩) n c) n (fs.set i ⟨e, fs[i].P⟩) := by
 have hk : ∀ {f : Fv}, PRows w 0 w.heap.size f.P → f.off (some g) → PRows (w.setCell ⟨g, i * 17, none⟩ (.int .i64 e)) 0 (w.setCell ⟨g, i * 17, none⟩ (.int .i64 e)).heap.size f.P := fun hr hf =>
  have b0 := (Below.refl 0 w).setCell (p := ⟨g, i * 17, none⟩) (Nat.zero_le _) (.int .i64 e)
  prows_grown hr ⟨b0.os, b0.tape, b0.output, by simp [World.setCell], fun k _ hk => Below.heap_setCell _ _ _ _ (fun e => hk (by rw [e]))⟩ hf
 refine ⟨by rw [flatF_epoch _ _ _ hi]; exact (World.ownsRow.stored h.own (i * 17) _).1, by simp [h.len], fun f hf => ?_, fun f hf => ?_⟩
 · rcases List.mem_or_eq_of_mem_set hf with hf | rfl
   · exact hk (h.rows f hf) (h.off f hf)
   · exact hk (f := fs[i]) (h.rows _ (List.getElem_mem hi)) (h.off _ (List.getElem_mem hi))
 · rcases List.mem_or_eq_of_mem_set hf with hf | rfl
   · exact h.off f hf
   · exact h.off fs[i] (List.getElem_mem hi)
/-- The list under way: numbered up to i. -/
def wayF (i : Nat) : List Fv := seqF i ++ List.replicate (1025 - i) ZFv
theorem wayF_len (i : Nat) (h : i ≤ 1025) : (wayF i).length = 1025 := by simp [wayF, seqF_len]; omega
theorem wayF_end : wayF 1025 = seqF 1025 := by simp [wayF]
theorem wayF_set (i : Nat) (h : i < 1025) (hl : i < (wayF i).length) : (wayF i).set i ⟨(i : Int), (wayF i)[i].P⟩ = wayF (i + 1) := by
 have e0 : 1025 - i = (1025 - (i + 1)) + 1 := by omega
 have eP : (wayF i)[i].P = ZPv := by
  have hge : (seqF i).length ≤ i := Nat.le_of_eq (seqF_len i)
  simp only [wayF]
  rw [List.getElem_append_right hge, List.getElem_replicate]
  rfl
 rw [eP]
 unfold wayF
 rw [List.set_append_right _ _ (Nat.le_of_eq (seqF_len i)), seqF_len, Nat.sub_self, e0, List.replicate_succ, List.set_cons_zero, seqF_succ, List.append_assoc]
 rfl
/-- Written-out lists in a block. -/
theorem lfs_lit {w : World} {g : Nat} {t : TypeId} {fs : List Fv} (h : w.heap[g]? = some (.cells (flatF fs).toArray t (0, 0))) (hz : ∀ f ∈ fs, f.P = ZPv) (hn : fs.length ≤ 1000000) : LFs w 0 w.heap.size (some ⟨g, 0, none⟩) fs.length fs := by
 refine ⟨rfl, by omega, fun _ => ⟨g, 0, rfl, Nat.zero_le _, lt_of_heap h, fun j hj => fcells_of fun k hk => ?_⟩, fun j hj => ?_⟩
 · rw [cell_of_row w g (0 + j * 17 + k) _ _ _ h, Nat.zero_add, List.getElem?_toArray]
   exact flatF_get fs j k hj hk
 · rw [hz _ (List.getElem_mem hj)]
   exact rowsZ _ _ _
end Ma
end Go.Proofs.Ytbbnbgllgomolaa
namespace Go.Proofs.Ytbbnbgllgomolaa
open Go.RowKit
namespace Ma
open Dp Dy
theorem row_pair {w : World} {g : Nat} {t : TypeId} (h : w.heap[g]? = some (.cells #[.int .u32 2, .int .u32 1] t (0, 0))) : Ints w g (g + 1) .u32 (some ⟨g, 0, none⟩) 2 [2, 1] := by
 refine ⟨rfl, fun y hy => ?_, by decide, fun _ => ⟨g, 0, rfl, Nat.le_refl _, Nat.lt_succ_self _, fun j hj => ?_⟩⟩
 · have hy' : y = 2 ∨ y = 1 := by simpa using hy
   rcases hy' with rfl | rfl <;> decide
 · have hj' : j = 0 ∨ j = 1 := by omega
   rcases hj' with rfl | rfl
   · exact ⟨cell_of_row w g 0 _ _ _ h, frozen_of_row w g 0 _ _ h⟩
   · exact ⟨cell_of_row w g 1 _ _ _ h, frozen_of_row w g 1 _ _ h⟩
theorem small_seq (n : Nat) : SmallF (seqF n) := fun j hj => by
 rw [seqF_at]
 exact smallZ
theorem small_nil : SmallF [] := fun _ h => absurd h (Nat.not_lt_zero _)
theorem wayF_zero : wayF 0 = List.replicate 1025 ZFv := by
 unfold wayF
 rw [show seqF 0 = [] from rfl, List.nil_append]
set_option maxHeartbeats 51200000 in
set_option maxRecDepth 100000 in
theorem pnames_walk (w : World) : Calls Try.prog 6 #[] w fun e w' => e = .returned (.bool true) ∧ Below w.heap.size w w' := by
 obtain ⟨w1, hmk, O0, j1⟩ := make_many w
 rw [← wayF_zero] at O0
 have HO := Lib.hid O0
 clear O0
 go_enter Try.func6, Try.ntmps6
 go_wp2_with fail
 clear hmk
 go_loopw [2] (fun iv wr => ∃ i : Nat, iv = .int .i64 i ∧ i ≤ 1025 ∧ Below w.heap.size w wr ∧ Hid (OwnF wr w.heap.size (.slice (some ⟨w.heap.size, 0, none⟩) 1025 1025) 1025 (wayF i))) (fun iv _ => 1025 - (intOf iv).toNat)
 case atStart => exact ⟨0, rfl, Nat.zero_le _, j1, HO⟩
 case round =>
  clear HO j1
  obtain ⟨i, rfl, hi1, jr, HO⟩ := hrel
  by_cases hi : i < 1025
  · have hl : i < (wayF i).length := by rw [wayF_len i hi1]; exact hi
    have q0 := HO.out.cell0 hl
    have q1 := HO.out.own.frozenAt (i * 17)
    obtain ⟨y, hy⟩ : ∃ y, (wayF i)[i].e = y := ⟨_, rfl⟩
    rw [hy] at q0
    have HO2 := HO.out.epoch hl (i : Int)
    rw [wayF_set i hi hl] at HO2
    replace HO2 := Lib.hid HO2
    have hwrj : IntKind.i64.wrap ((i : Int) + 1) = ((i + 1 : Nat) : Int) := by rw [IntKind.wrap_i64]; omega
    have b1 : (i : Int) < 1025 := by omega
    have jr2 := jr.setCell (p := ⟨w.heap.size, i * 17, none⟩) (Nat.le_refl _) (.int .i64 i)
    clear hy HO
    go_wp2
    go_roundw
    case rel => exact ⟨i + 1, by first | rfl | (congr 1; omega) | go_num, by omega, jr2, HO2⟩
    case measure => first | (simp [intOf]; done) | (simp [intOf]; omega)
  · obtain rfl : i = 1025 := by omega
    have LM : LFs wr 0 wr.heap.size (some ⟨w.heap.size, 0, none⟩) 1025 (seqF 1025) := by
     have := HO.out.lfs
     rw [wayF_end] at this
     exact this
    have L4 : LFs wr 0 wr.heap.size (some ⟨w.heap.size, 0, none⟩) 1024 (seqF 1024) := by
     have := LM.take (i := 1024) (by decide)
     rw [seqF_take (by decide)] at this
     exact this
    have L3 : LFs wr 0 wr.heap.size (some ⟨w.heap.size, 0, none⟩) 1023 (seqF 1023) := by
     have := LM.take (i := 1023) (by decide)
     rw [seqF_take (by decide)] at this
     exact this
    have L1 : LFs wr 0 wr.heap.size (some ⟨w.heap.size, 17, none⟩) 1 [⟨1, ZPv⟩] := by
     obtain ⟨b, off, e, _, hb, hc⟩ := LM.row (by decide)
     injection e with e
     injection e with e1 e2
     subst e1 e2
     have h1 : 1 < (seqF 1025).length := by rw [seqF_len]; decide
     have k := hc 1 h1
     rw [seqF_at] at k
     refine ⟨rfl, by decide, fun _ => ⟨w.heap.size, 17, rfl, Nat.zero_le _, hb, fun j hj => ?_⟩, fun j hj => ?_⟩
     · obtain rfl : j = 0 := by simpa using hj
       exact k
     · obtain rfl : j = 0 := by simpa using hj
       exact rowsZ _ _ _
    clear HO hi hi1
    go_wp2_with fail
    refine (Freeze_any wr (some ⟨w.heap.size, 0, none⟩) 1024 1025 (seqF 1024) L4 1024 ZPv (rowsZ _ _ _) (by decide) (small_seq _) smallZ 9 nm_full).mono ?_
    rintro e' v1 ⟨A1, m1, d1, g1, rfl, _, j2, _, _⟩
    try clear hw
    go_wp2_with fail
    refine (Freeze_any v1 (some ⟨w.heap.size, 0, none⟩) 1023 1025 (seqF 1023) (LFs.on L3 j2) 1023 ZPv (rowsZ _ _ _) (by decide) (small_seq _) smallZ 0 nm_ok).mono ?_
    rintro e' v3 ⟨A2, m2, d2, g2, rfl, t2, j4, O2, _⟩
    try clear hw
    obtain rfl : m2 = 1024 := by
     have h := t2.1
     rw [frozenF_zero, O2.len] at h
     rw [h, List.length_append, seqF_len]
     rfl
    clear t2 O2
    go_wp2_with fail
    refine (Get_any v3 none 0 0 [] (LFs.nil_ _ _ _ _) 65536 small_nil 2 nm_arg).mono ?_
    rintro e' v5 ⟨qX, rfl, _, j6, _⟩
    try clear hw
    obtain ⟨uX, hu_, _, jX, _⟩ := alloc_p v5 qX
    go_upto_region 9 with (first
     | (refine wpList_store_new rfl 31 (.tmp 7) (.tmp 44) rfl _ #[.bool qX.M.S.s, .slice qX.M.S.A qX.M.S.n qX.M.S.c, .int .i64 qX.M.S.e, .bool qX.M.W.s, .slice qX.M.W.A qX.M.W.n qX.M.W.c, .int .i64 qX.M.W.e, .bool qX.M.C.s, .slice qX.M.C.A qX.M.C.n qX.M.C.c, .int .i64 qX.M.C.e, .bool qX.M.A.s, .slice qX.M.A.A qX.M.A.n qX.M.A.c, .int .i64 qX.M.A.e, .bool qX.h, .int .i64 qX.mn, .int .i64 qX.mx, .slice qX.A qX.n qX.c] rfl rfl (by kernel_rfl) rfl (all_oneCell_toArray (cells16_one qX)) ?_))
    try rw [hu_]
    try clear hu_
    go_wp2_with fail
    refine (Get_any uX none 0 0 [] (LFs.nil_ _ _ _ _) 65535 small_nil 6 nm_none).mono ?_
    rintro e' v7 ⟨qY, rfl, _, j8, _⟩
    try clear hw
    obtain ⟨uY, hu_, _, jY, _⟩ := alloc_p v7 qY
    go_upto_region 10 with (first
     | (refine wpList_store_new rfl 31 (.tmp 9) (.tmp 48) rfl _ #[.bool qY.M.S.s, .slice qY.M.S.A qY.M.S.n qY.M.S.c, .int .i64 qY.M.S.e, .bool qY.M.W.s, .slice qY.M.W.A qY.M.W.n qY.M.W.c, .int .i64 qY.M.W.e, .bool qY.M.C.s, .slice qY.M.C.A qY.M.C.n qY.M.C.c, .int .i64 qY.M.C.e, .bool qY.M.A.s, .slice qY.M.A.A qY.M.A.n qY.M.A.c, .int .i64 qY.M.A.e, .bool qY.h, .int .i64 qY.mn, .int .i64 qY.mx, .slice qY.A qY.n qY.c] rfl rfl (by kernel_rfl) rfl (all_oneCell_toArray (cells16_one qY)) ?_))
    try rw [hu_]
    try clear hu_
    go_wp2_with fail
    refine (Of_any uY 1 (by decide) (by decide) false 1 rfl rfl).mono ?_
    rintro e' v9 ⟨Ao, no, rfl, j10, Io⟩
    try clear hw
    have hno : no = 1 := by rw [← Io.len, canon_one 1 (by decide) (by decide)]; rfl
    obtain ⟨co, hco⟩ : ∃ c, canon 4294967296 1 = c := ⟨_, rfl⟩
    rw [hco] at Io
    clear hco
    have hsh : ¬ ((⟨⟨⟨false, Ao, no, no, 0, co⟩, ZM.W, ZM.C, ZM.A⟩, false, 0, 0, none, 0, 0, []⟩ : Pv)).M.share := fun h => by
     have := h.2.2 rfl
     exact absurd (hno.symm.trans this) (by decide)
    have RP : PRows v9 0 v9.heap.size (⟨⟨⟨false, Ao, no, no, 0, co⟩, ZM.W, ZM.C, ZM.A⟩, false, 0, 0, none, 0, 0, []⟩ : Pv) := ⟨⟨Io.more (Nat.zero_le _) (Nat.le_refl _), Ints.nil_ .., Ints.nil_ .., Ints.nil_ ..⟩, Ints.nil_ ..⟩
    have sm : SmallP (⟨⟨⟨false, Ao, no, no, 0, co⟩, ZM.W, ZM.C, ZM.A⟩, false, 0, 0, none, 0, 0, []⟩ : Pv) := ⟨four (p := fun x => (Mv.get ⟨⟨false, Ao, no, no, 0, co⟩, ZM.W, ZM.C, ZM.A⟩ x).n ≤ 1000000) (show no ≤ 1000000 by omega) (Nat.zero_le _) (Nat.zero_le _) (Nat.zero_le _), Nat.zero_le _⟩
    clear hno
    go_wp2_with fail
    refine (Freeze_any v9 none 0 0 [] (LFs.nil_ _ _ _ _) 0 (⟨⟨⟨false, Ao, no, no, 0, co⟩, ZM.W, ZM.C, ZM.A⟩, false, 0, 0, none, 0, 0, []⟩ : Pv) RP (by decide) small_nil sm 8 (nm_bad hsh)).mono ?_
    rintro e' v11 ⟨A3, m3, d3, g3, rfl, _, j12, _, _⟩
    try clear hw
    clear RP sm hsh Io
    go_wp2_with fail
    refine (Before_any v11 (some ⟨w.heap.size, 0, none⟩) 1025 1025 (seqF 1025) (LFs.on LM (later j2 (later j4 (later j6 (later jX (later j8 (later jY (later j10 j12)))))))) (Nat.le_refl _) 3 (small_seq _) 4 (nm_many _ _)).mono ?_
    rintro e' v13 ⟨A4, m4, d4, g4, rfl, _, j14, _, _⟩
    try clear hw
    go_wp2_with fail
    refine (CheckPart_any v13 ⟨ZM, false, 1, 0, none, 0, 0, []⟩ ⟨⟨Ints.nil_ .., Ints.nil_ .., Ints.nil_ .., Ints.nil_ ..⟩, Ints.nil_ ..⟩ false nm_edge).mono ?_
    rintro e' v15 ⟨rfl, j16⟩
    try clear hw
    obtain ⟨u5, hu5⟩ : ∃ U, v15.alloc (.cells #[.int .u32 2, .int .u32 1] 70) = U := ⟨_, rfl⟩
    have ju5 : Below v15.heap.size v15 u5 := by rw [← hu5]; exact (Below.refl _ _).alloc (Nat.le_refl _) _
    have I5 : Ints u5 0 u5.heap.size .u32 (some ⟨v15.heap.size, 0, none⟩) 2 [2, 1] := by rw [← hu5]; exact (row_pair (heap_alloc_last _ _)).more (Nat.zero_le _) (by simp)
    go_wp2_with fail
    refine (CheckPart_any u5 ⟨ZM, false, 0, 0, some ⟨v15.heap.size, 0, none⟩, 2, 2, [2, 1]⟩ ⟨⟨Ints.nil_ .., Ints.nil_ .., Ints.nil_ .., Ints.nil_ ..⟩, I5⟩ false (nm_tags _)).mono ?_
    rintro e' v17 ⟨rfl, j18⟩
    try clear hw
    clear I5
    try clear hu5
    go_wp2_with fail
    refine (CheckPart_any v17 ZPv (rowsZ _ _ _) true mayZ).mono ?_
    rintro e' v19 ⟨rfl, j20⟩
    try clear hw
    go_wp2_with fail
    refine (CheckF_any v19 (some ⟨w.heap.size, 17, none⟩) 1 1024 [⟨1, ZPv⟩] (LFs.on L1 (later j2 (later j4 (later j6 (later jX (later j8 (later jY (later j10 (later j12 (later j14 (later j16 (later ju5 (later j18 j20))))))))))))) 0 nm_one).mono ?_
    rintro e' v21 ⟨rfl, j22⟩
    try clear hw
    obtain ⟨u6, hu6⟩ : ∃ U, v21.alloc (.cells #[.int .i64 3, .bool false, .slice none 0 0, .int .i64 0, .bool false, .slice none 0 0, .int .i64 0, .bool false, .slice none 0 0, .int .i64 0, .bool false, .slice none 0 0, .int .i64 0, .bool false, .int .i64 0, .int .i64 0, .slice none 0 0, .int .i64 3, .bool false, .slice none 0 0, .int .i64 0, .bool false, .slice none 0 0, .int .i64 0, .bool false, .slice none 0 0, .int .i64 0, .bool false, .slice none 0 0, .int .i64 0, .bool false, .int .i64 0, .int .i64 0, .slice none 0 0] 68) = U := ⟨_, rfl⟩
    have ju6 : Below v21.heap.size v21 u6 := by rw [← hu6]; exact (Below.refl _ _).alloc (Nat.le_refl _) _
    have L6 : LFs u6 0 u6.heap.size (some ⟨v21.heap.size, 0, none⟩) 2 [⟨3, ZPv⟩, ⟨3, ZPv⟩] := by
     have h : u6.heap[v21.heap.size]? = some (.cells (flatF [⟨3, ZPv⟩, ⟨3, ZPv⟩]).toArray 68 (0, 0)) := by rw [← hu6]; exact heap_alloc_last _ _
     exact lfs_lit h (fun f hf => by
      have : f = ⟨3, ZPv⟩ := by simpa using hf
      rw [this]) (by simp)
    go_wp2_with fail
    refine (CheckF_any u6 (some ⟨v21.heap.size, 0, none⟩) 2 2 [⟨3, ZPv⟩, ⟨3, ZPv⟩] L6 8 nm_two).mono ?_
    rintro e' v23 ⟨rfl, j24⟩
    try clear hw
    clear L6
    try clear hu6
    go_wp2_with fail
    refine (alive20_any v23).mono ?_
    rintro e' v25 ⟨rfl, j26⟩
    try clear hw
    go_wp2
    go_ret
    exact ⟨rfl, (later jr (later j2 (later j4 (later j6 (later jX (later j8 (later jY (later j10 (later j12 (later j14 (later j16 (later ju5 (later j18 (later j20 (later j22 (later ju6 (later j24 j26)))))))))))))))))⟩
end Ma
end Go.Proofs.Ytbbnbgllgomolaa