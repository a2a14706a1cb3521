/- The ratio package's long numbers: length, one, next. -/
/- A range over a function whose iterator keeps state of its own in a cell, and makes memory between two rounds: the rounds say which blocks are theirs. -/
/- RangeSep's law once more: a round that leaves the loop says, too, which blocks are its own. -/
/- A region that draws its order, in the round of a range over a function, under the wide fence: the plain walk's orders serve. No program in sight. -/
/- RegionE's way through a region that draws its order inside the round of a range over a function. No program in sight. -/
/- RegionE's way through a region that draws its order, for the body of an iterator (inside a wide fence): a call of yield may be met. No program in sight. -/
/- ratio.digits: the iterator over a number's bits. -/
/- A limb of a number that is shifted to the right: walks. -/
import Derived.Test.YtmbppgjhdcmckaaGreatDoorBi02
import Derived.RangeFuncNested
import Derived.RangeFuncBound
import Derived.RangeFuncCalls
import Derived.RangeFuncLeaves
import Derived.Test.YtmbppgjhdcmckaaGreatDoorBi01
import Derived.RangeFuncBox
import Derived.Shelf.Abstract
import Derived.Shelf.RegionOpen
import Derived.OwnWalkIn
import Derived.TacticsInMore
import Derived.LoopNIn
import Derived.LoopIn
import Derived.RegionIn
import Derived.Deep.RegionHeld3
import Derived.OrdersIn
import Derived.CallsIn
namespace Go.Proofs.YtmbppgjhdcmckaaGreatDoor
open Go.RowKit
namespace Dy
open Dp
theorem WideR.of_heap {w w' : World} {g : Nat} {ws : List Int} (h : WideR w g ws) (hh : w'.heap[g]? = w.heap[g]?) : WideR w' g ws := ⟨hh.trans h.blk, h.len, h.dig⟩
theorem WideR.lt {w : World} {g : Nat} {ws : List Int} (h : WideR w g ws) : g < w.heap.size := (Array.getElem?_eq_some_iff.1 h.blk).1
set_option maxHeartbeats 1600000 in
set_option maxRecDepth 100000 in
/-- (*ratio.wide).length. -/
theorem lengthR_any (w : World) (g : Nat) (ws : List Int) (hW : WideR w g ws) :
  Calls Tryz.prog 174 #[.pointer (some ⟨g, 0, none⟩)] w fun e w' => ∃ n : Nat, e = .returned (.int .i64 n) ∧ IsLen (num 4294967296 ws) n ∧ n ≤ 2432 ∧ w' = w := by
 go_enter Tryz.func174, Tryz.ntmps174
 go_wp2
 go_loopw [3] (fun iv wr => ∃ k : Nat, iv = .int .i64 ((k : Int) - 1) ∧ k ≤ 76 ∧ Hid (num 4294967296 (ws.drop k) = 0) ∧ wr = w) (fun iv _ => (intOf iv + 1).toNat)
 case atStart => exact ⟨76, rfl, Nat.le_refl _, by rw [Hid, List.drop_eq_nil_of_le (by rw [hW.len]; exact Nat.le_refl _)]; rfl, rfl⟩
 case round =>
  obtain ⟨k, rfl, hk, h0, rfl⟩ := hrel
  rcases k with _ | k
  · have e0 : num 4294967296 ws = 0 := by simpa using h0.out
    have E0 := Lib.hid e0
    clear e0
    go_wp2
    go_ret
    exact ⟨0, rfl, .inl ⟨E0.out, rfl⟩, by omega, rfl⟩
  · have ej : ((k + 1 : Nat) : Int) - 1 = (k : Int) := by omega
    obtain ⟨x, hx, hx2⟩ := dig_get (by decide) hW.dig k
    have g1 := hW.cell (j := k) (by omega)
    rw [hx] at g1
    rw [ej]
    have hk0 : (0 : Int) ≤ k := by omega
    have hk1 : (k : Int) < 76 := by omega
    have HX := Lib.hid hx
    clear hx ej
    by_cases hx0 : x = 0
    · have hne : ((x : Int) != 0) = false := by simp [hx0]
      have HN := Lib.hid (len_none (by rw [hW.len]; omega) h0.out HX.out hx0)
      clear hx0
      go_wp2
      go_roundw
      case rel => exact ⟨k, rfl, by omega, HN, by first | rfl | trivial⟩
      case measure => first | (simp [intOf]; done) | (simp [intOf]; omega)
    · have hne : ((x : Int) != 0) = true := by simpa using (show ¬ (x : Int) = 0 by omega)
      obtain ⟨y1, y2, y3, y4⟩ := len_bounds x hx0 hx2
      have HN := Lib.hid (len_top hW.dig (by rw [hW.len]; omega) h0.out HX.out y1 y2 y3)
      clear hx0 y2 y3
      go_wp2_with fail
      refine (Len32_any _ x (by omega) (by omega)).mono ?_
      rintro e w2 ⟨rfl, rfl⟩
      rw [Int.toNat_natCast]
      obtain ⟨b, hb⟩ : ∃ b, Lib.bitLen x = b := ⟨_, rfl⟩
      rw [hb] at y1 y4 HN ⊢
      clear hb
      go_wp2
      go_ret
      exact ⟨32 * k + b, by first | (congr 2; done) | (congr 2; push_cast; first | rfl | omega), HN.out, by omega, rfl⟩
set_option maxHeartbeats 3200000 in
set_option maxRecDepth 100000 in
/-- (*ratio.wide).one. -/
theorem oneR_any (w : World) (g : Nat) (ws : List Int) (hW : WideR w g ws) (v : Nat) (hv : num 4294967296 ws + 1 = v) (hlt : v < 4294967296 ^ 76) :
  Calls Tryz.prog 134 #[.pointer (some ⟨g, 0, none⟩)] w fun e w' => e = .returned (.tuple #[]) ∧ OnlyAt g w w' ∧ ∃ vs, WideR w' g vs ∧ num 4294967296 vs = v := by
 have HLT := Lib.hid hlt
 have HV := Lib.hid hv
 clear hlt hv
 go_enter Tryz.func134, Tryz.ntmps134
 go_wp2
 go_loopw [2, 3] (fun _ iv wr => ∃ (i : Nat) (cur : List Int), iv = .int .i64 i ∧ i ≤ 76 ∧ WideR wr g cur ∧ OnlyAt g w wr ∧ Hid (num 4294967296 cur + 4294967296 ^ i = v)) (fun _ iv _ => 76 - (intOf iv).toNat)
 case atStart => exact ⟨0, ws, rfl, by omega, hW, OnlyAt.refl _ _, by rw [Hid, Nat.pow_zero]; exact HV.out⟩
 case round =>
  obtain ⟨i, cur, rfl, hi, hC, hO, hN⟩ := hrel
  by_cases hlt : i < 76
  · obtain ⟨x, hx, hx2⟩ := dig_get (by decide) hC.dig i
    have c1 := hC.cell hlt
    have f1 := hC.free i
    rw [hx] at c1
    have hk0 : (0 : Int) ≤ i := by omega
    have hk1 : (i : Int) < 76 := by omega
    obtain ⟨q1, q2⟩ := one_step (by rw [hC.len]; exact hlt) hx v hN.out
    clear hx
    by_cases hxe : x + 1 = 4294967296
    · have hy : ((x : Int) + 1) % 4294967296 = 0 := by omega
      have Q := Lib.hid (q2 hxe)
      clear q1 q2
      have hC2 := hC.set i 0 (by decide)
      have d1 := hC2.cell (j := i) hlt
      have e1 : (cur.set i ((0 : Nat) : Int))[i]?.getD 0 = 0 := by simp [hC.len, hlt]
      rw [e1] at d1
      clear e1
      go_wp2_with fail
      go_region
      all_goals go_wp2
      all_goals go_roundw
      case rel => exact ⟨i + 1, cur.set i 0, by go_num, by omega, (hC.set i 0 (by decide)).of_heap rfl, (hO.setCell _).drew, Q⟩
      case measure => first | (simp [intOf]; done) | (simp [intOf]; omega)
    · have hy : ((x : Int) + 1) % 4294967296 = ((x + 1 : Nat) : Int) := by omega
      have hyn : (((x + 1 : Nat) : Int) != 0) = true := by simpa using (show ¬ ((x + 1 : Nat) : Int) = 0 by omega)
      have Q := Lib.hid (q1 (by omega))
      clear q1 q2
      go_wp2_with fail
      go_region
      all_goals go_wp2
      all_goals refine bodyPost_ret (results_none rfl _ _ _) rfl ?_
      all_goals exact ⟨rfl, (hO.setCell _).drew, cur.set i ((x + 1 : Nat) : Int), (hC.set i (x + 1) (by omega)).of_heap rfl, Q.out⟩
  · obtain rfl : i = 76 := by omega
    exfalso
    have h1 := hN.out
    have h2 := HLT.out
    generalize 4294967296 ^ 76 = b at *
    omega
/-- Doubled, and one more bit. -/
theorem or_bit (x c : Nat) (_hx : x < 4294967296) (hc : c ≤ 1) : bits .or .u32 ((2 * x % 4294967296 : Nat) : Int) (c : Int) = ((2 * x % 4294967296 + c : Nat) : Int) := by
 rw [u32_or_nat _ _ (by omega) (by omega)]
 have h3 : 2 * x % 4294967296 % 2 ^ 1 = 0 := by omega
 rw [nat_join 1 (2 * x % 4294967296) c h3 (by omega)]
set_option maxHeartbeats 6400000 in
set_option maxRecDepth 100000 in
/-- (*ratio.wide).next. -/
theorem nextR_any (w : World) (g g' : Nat) (hne : g ≠ g') (ws us : List Int) (hW : WideR w g ws) (hU : WideR w g' us) (d : Nat) (hd : d ≤ 1) (s : Nat) (hs : 2 * num 4294967296 ws + d = s) (hlt : s < 4294967296 ^ 76) (q r : Nat) (hq : (if num 4294967296 us ≤ s then 1 else 0) = q) (hr : (if num 4294967296 us ≤ s then s - num 4294967296 us else s) = r) :
  Calls Tryz.prog 198 #[.pointer (some ⟨g, 0, none⟩), .int .u32 d, .pointer (some ⟨g', 0, none⟩)] w fun e w' => e = .returned (.int .u32 q) ∧ OnlyAt g w w' ∧ ∃ vs, WideR w' g vs ∧ num 4294967296 vs = r := by
 have HS := Lib.hid hs
 have HLT := Lib.hid hlt
 have HQ := Lib.hid hq
 have HR := Lib.hid hr
 have hwl := Lib.hid hW.len
 have hul := Lib.hid hU.len
 have hud := Lib.hid hU.dig
 have hlt' := hW.lt
 have hgt' := hU.lt
 clear hs hlt hq hr
 go_enter Tryz.func198, Tryz.ntmps198
 go_wp2
 go_loopw [1, 7, 10] (fun dv _ iv wr => ∃ (i c : Nat) (cur : List Int), dv = .int .u32 c ∧ iv = .int .i64 i ∧ c ≤ 1 ∧ i ≤ 76 ∧ WideR wr g cur ∧ OnlyAt g w wr ∧ Hid (cur.drop i = ws.drop i) ∧ Hid (num 4294967296 (cur.take i) + 4294967296 ^ i * c = 2 * num 4294967296 (ws.take i) + d)) (fun _ _ iv _ => 76 - (intOf iv).toNat)
 case atStart => exact ⟨0, d, ws, rfl, rfl, hd, by omega, hW, OnlyAt.refl _ _, rfl, by simp [Hid, num]⟩
 case round =>
  obtain ⟨i, c, cur, rfl, rfl, hc, hi, hC, hO, hdr, hnm⟩ := hrel
  by_cases hlt : i < 76
  · obtain ⟨x, hx, hx2⟩ := dig_get (by decide) hC.dig i
    have c1 := hC.cell hlt
    have f1 := hC.free i
    rw [hx] at c1
    have hk0 : (0 : Int) ≤ i := by omega
    have hk1 : (i : Int) < 76 := by omega
    obtain ⟨p1, p2, p3⟩ := shl_step (ys := cur) ((drop_at hdr.out).symm.trans hx) hx2 hc hnm.out (by rw [hC.len]; exact hlt)
    have P3 := Lib.hid p3
    have DR := fun v : Int => drop_on (v := v) (by rw [hC.len]; exact hlt) hdr.out
    replace DR := Lib.hid DR
    clear hx p3
    have e2 : (x : Int) / 2147483648 = ((x / 2147483648 : Nat) : Int) := by omega
    have e3 := or_bit x c hx2 hc
    rw [show ((2 * x % 4294967296 : Nat) : Int) = (x : Int) * 2 % 4294967296 by omega] at e3
    obtain ⟨y, hy⟩ : ∃ y, 2 * x % 4294967296 + c = y := ⟨_, rfl⟩
    obtain ⟨t, ht⟩ : ∃ t, x / 2147483648 = t := ⟨_, rfl⟩
    rw [hy] at e3 p1 P3
    rw [ht] at e2 p2 P3
    clear hy ht
    go_wp2_with fail
    go_region
    all_goals go_wp2
    all_goals go_roundw
    case rel => exact ⟨i + 1, t, cur.set i (y : Int), rfl, by go_num, p2, by omega, (hC.set i y p1).of_heap rfl, (hO.setCell _).drew, DR.out _, P3⟩
    case measure => first | (simp [intOf]; done) | (simp [intOf]; omega)
  · obtain rfl : i = 76 := by omega
    have hcs : Hid (num 4294967296 cur = s) := Lib.hid (by
     have h1 := hnm.out
     rw [List.take_of_length_le (by rw [hC.len]; exact Nat.le_refl _), List.take_of_length_le (by rw [hwl.out]; exact Nat.le_refl _), HS.out] at h1
     have h2 := HLT.out
     generalize 4294967296 ^ 76 = b at *
     have hc0 : c = 0 ∨ c = 1 := by omega
     rcases hc0 with rfl | rfl <;> omega)
    clear hdr hnm
    have hU1 : WideR wr g' us := hU.of_heap (hO.block g' hgt' (Ne.symm hne))
    by_cases hle : num 4294967296 us ≤ s
    · have hq1 : q = 1 := by rw [← HQ.out, if_pos hle]
      have hr1 := HR.out
      rw [if_pos hle] at hr1
      subst hq1
      have HR1 := Lib.hid hr1
      have HLE := Lib.hid hle
      have hbl : decide (num 4294967296 cur < num 4294967296 us) = false := by rw [hcs.out]; simpa using hle
      have HBL := Lib.hid hbl
      clear hr1 hle hbl HQ HR
      obtain ⟨w1, hw1⟩ : ∃ W : World, W = wr := ⟨_, rfl⟩
      subst hw1
      go_wp2_with fail
      refine (belowR_any w1 g 0 g' 0 cur us hC.row hU1.row false HBL.out).mono ?_
      rintro e w2 ⟨rfl, m, rfl⟩
      have hC2 := hC.of_heap (w' := w1.drewN m) rfl
      have hU2 := hU1.of_heap (w' := w1.drewN m) rfl
      have hO2 := hO.drewN m
      clear hC hU1 hO
      generalize w1.drewN m = w3 at *
      go_wp2_with fail
      go_loopw [8, 9, 35] (fun cv _ iv wr => ∃ i c : Nat, ∃ now : List Int, cv = .int .u32 c ∧ iv = .int .i64 i ∧ c ≤ 1 ∧ i ≤ 76 ∧ WideR wr g now ∧ WideR wr g' us ∧ OnlyAt g w wr ∧ Hid (now.drop i = cur.drop i) ∧ Hid (num 4294967296 (cur.take i) + 4294967296 ^ i * c = num 4294967296 (now.take i) + num 4294967296 (us.take i))) (fun _ _ iv _ => 76 - (intOf iv).toNat)
      case atStart => exact ⟨0, 0, cur, rfl, rfl, by omega, by omega, hC2, hU2, hO2, rfl, by simp [Hid, num]⟩
      case round =>
       have hcl := Lib.hid hC2.len
       have hcd := Lib.hid hC2.dig
       clear hC2 hU2 hO2
       obtain ⟨i, cc, now, rfl, rfl, hc1, hi, hN, hUr, hOr, hdrop, hnum⟩ := hrel
       by_cases hlt : i < 76
       · obtain ⟨x, hx, hx2⟩ := dig_get (by decide) hN.dig i
         obtain ⟨y, hy, hy2⟩ := dig_get (by decide) hud.out i
         have c1 := hN.cell hlt
         have c2 := hUr.cell hlt
         have f1 := hN.free i
         rw [hx] at c1
         rw [hy] at c2
         have hk0 : (0 : Int) ≤ i := by omega
         have hk1 : (i : Int) < 76 := by omega
         have HX := Lib.hid hx
         have HY := Lib.hid hy
         clear hx hy
         obtain ⟨d2, b, hd2, hb, hdb⟩ := borrow_ex x y cc hx2 hy2 hc1
         have HD := Lib.hid hdb
         clear hdb
         go_wp2
         go_region_law (first
          | (go_simp; go_at_call 209; refine (Sub32_any _ x y cc d2 b hx2 hy2 hd2 hc1 hb HD.out).mono ?_; rintro e w' ⟨rfl, rfl⟩))
         all_goals go_wp2
         all_goals go_roundw
         all_goals first
          | exact ⟨i + 1, b, now.set i (d2 : Int), rfl, by go_num, hb, by omega, (hN.set i d2 hd2).of_heap rfl, (hUr.of_heap (heap_setCell_other _ _ _ _ (by simp; omega))).of_heap rfl, (hOr.setCell _).drew,
            drop_on (by rw [hN.len]; exact hlt) hdrop.out, by rw [Hid]; exact diff_law (by rw [hN.len]; exact hlt) hnum.out ((drop_at hdrop.out).symm.trans HX.out) HY.out HD.out⟩
          | (simp [intOf]; omega)
       · obtain rfl : i = 76 := by omega
         have hend := diff_end (by decide) hN.dig hN.len hcl.out hul.out hnum.out (by rw [hcs.out]; exact HLE.out)
         rw [hcs.out, HR1.out] at hend
         have HE := Lib.hid hend
         clear hend hnum hdrop
         go_wp2
         go_ret
         exact ⟨rfl, hOr, now, hN, HE.out⟩
    · have hq0 : q = 0 := by rw [← HQ.out, if_neg hle]
      have hr1 := HR.out
      rw [if_neg hle] at hr1
      subst hq0
      have HR1 := Lib.hid (hcs.out.trans hr1)
      have hbl : decide (num 4294967296 cur < num 4294967296 us) = true := by rw [hcs.out]; simpa using (show s < num 4294967296 us by omega)
      have HBL := Lib.hid hbl
      clear hr1 hle hbl HQ HR
      go_wp2_with fail
      refine (belowR_any wr g 0 g' 0 cur us hC.row hU1.row true HBL.out).mono ?_
      rintro e w2 ⟨rfl, m, rfl⟩
      go_wp2
      go_ret
      exact ⟨rfl, hO.drewN m, cur, hC.of_heap rfl, HR1.out⟩
end Dy
end Go.Proofs.YtmbppgjhdcmckaaGreatDoor
namespace Go.Proofs.YtmbppgjhdcmckaaGreatDoor
open Go.RowKit
/-- But for the blocks of O, cells that lay in W lie in W' as they lay; what O' has and O has not is new. -/
structure Gain (O O' : Nat → Prop) (W W' : World) : Prop where
 size : W.heap.size ≤ W'.heap.size
 same : ∀ k cs t z, ¬ O k → W.heap[k]? = some (.cells cs t z) → W'.heap[k]? = some (.cells cs t z)
 new : ∀ k, O' k → O k ∨ (W.heap.size ≤ k ∧ k < W'.heap.size)
theorem Gain.refl (O : Nat → Prop) (W : World) : Gain O O W W := ⟨Nat.le_refl _, fun _ _ _ _ _ h => h, fun _ h => .inl h⟩
theorem Gain.trans {O O' O'' : Nat → Prop} {A B C : World} (h : Gain O O' A B) (k : Gain O' O'' B C) : Gain O O'' A C where
 size := Nat.le_trans h.size k.size
 same i cs t z hi hA := by
  refine k.same i cs t z (fun hO => ?_) (h.same i cs t z hi hA)
  rcases h.new i hO with h1 | h1
  · exact hi h1
  · have := (Array.getElem?_eq_some_iff.1 hA).1
    omega
 new i hi := by
  rcases k.new i hi with h1 | h1
  · rcases h.new i h1 with h2 | h2
    · exact .inl h2
    · exact .inr ⟨h2.1, Nat.lt_of_lt_of_le h2.2 k.size⟩
  · exact .inr ⟨Nat.le_trans h.size h1.1, h1.2⟩
theorem Gain.put (O : Nat → Prop) {W : World} {l : Nat} {o : Obj} (o' : Obj) (hl : W.heap[l]? = some o) (ho : o.isCells = false) : Gain O O W (W.putObj l o') where
 size := by simp
 same k cs t z _ hk := (World.putObj_heap_other (fun e => by subst e; rw [hl] at hk; cases hk; cases ho)).trans hk
 new _ h := .inl h
/-- J stands whatever is laid anew, and whatever becomes of block g. -/
def Loose {β : Type} (g : Nat) (J : β → (Nat → Prop) → World → Prop) : Prop := ∀ s O W W' row, J s O W → W.grownBy W' row → (∀ r, row = some r → r = g) → J s O W'
/-- The two blocks of a loop's own. -/
def Book (D : Nat) (r : Loop) (W : World) : Prop := W.heap[D + 1]? = some (.loop r) ∧ W.heap[D]? = some (.deferred (some []))
theorem Book.lt {D : Nat} {r : Loop} {W : World} (h : Book D r W) : D + 1 < W.heap.size := (Array.getElem?_eq_some_iff.1 h.1).1
theorem Book.grown {D : Nat} {r : Loop} {W W' : World} {row : Option Nat} (h : Book D r W) (hg : W.grownBy W' row) (hr : ∀ k, row = some k → k < D) : Book D r W' := by
 have hl := h.lt
 exact ⟨(hg.block _ hl (fun e => by have := hr _ e.symm; omega)).trans h.1, (hg.block _ (by omega) (fun e => by have := hr _ e.symm; omega)).trans h.2⟩
theorem Book.put {D : Nat} {r : Loop} {W : World} (h : Book D r W) (r' : Loop) : Book D r' (W.putObj (D + 1) (.loop r')) :=
 ⟨World.putObj_heap_same h.lt, (World.putObj_heap_other (by omega)).trans h.2⟩
theorem Book.keeps {D : Nat} {r : Loop} {W W' : World} (h : Book D r W) (hk : KeepsFrom D W W') : Book D r W' :=
 ⟨hk.same _ _ (by omega) h.1 rfl, hk.same _ _ (Nat.le_refl _) h.2 rfl⟩
variable {F : Fence} {n : Nat} {P : Program}
/-- The end of a round: the record is turned, all else stands. -/
theorem round_end {D : Nat} {r : Loop} {W : World} (h : Book D r W) (jump : Option Code) :
  (Instr.endRound (D + 1) jump).run P W = .ok (.bool jump.isNone) (W.putObj (D + 1) (.loop { r with state := if jump.isNone then .ready else .done, pending := jump })) := run_endRound jump h.1
end Go.Proofs.YtmbppgjhdcmckaaGreatDoor
namespace Go.Proofs.YtmbppgjhdcmckaaGreatDoor
open Go.RowKit
/-- What an iterator gives that writes block g between two rounds: the blocks of Prot are none of the rounds' own. -/
def SeqSep2 {α : Type} (G : List α → α → Prop) (F : Fence) (n : Nat) (P : Program) (f : Nat) (lb : Array Value) (encs : α → Array Value) (S Sp : List α → Prop) (N : Nat) (Prot : Nat → Prop) (g : Nat) (w : World) : Prop :=
 ∀ (l : Nat) (J Jx : List α → (Nat → Prop) → World → Prop) (O0 : Nat → Prop) (W : World), Below w.heap.size w W → Loose g J → Loose g Jx → (∀ k, Prot k → ¬ O0 k) → (∀ k, O0 k → k < W.heap.size) →
  (∀ pre x O W1, G pre x → J pre O W1 → pre.length < N → YieldAt F (n - 1) P l (encs x) W1 fun e W' =>
   (e = .returned (.bool true) ∧ ∃ O', J (pre ++ [x]) O' W' ∧ Gain O O' W1 W') ∨ (e = .returned (.bool false) ∧ ∃ O', Jx (pre ++ [x]) O' W' ∧ Gain O O' W1 W')) →
  J [] O0 W →
  CallsIn F n P f (#[.func (.yield l) #[] #[]] ++ lb) W fun e W' => (∃ v, e = .returned v) ∧ ((∃ xs O, S xs ∧ J xs O W') ∨ (∃ pre O, Sp pre ∧ Jx pre O W'))
/-- How a round's body may be left. -/
def sepPost2 {α : Type} (B : Nat) (I : List α → (Nat → Prop) → World → Prop) (Ix : Code → List α → (Nat → Prop) → World → Prop) (xs : List α) (O : Nat → Prop) (W : World) : Exit → Act → World → Prop
 | .normal, _, W' => KeepsFrom B W W' ∧ ∃ O', Gain O O' W W' ∧ I xs O' W'
 | .ret, _, W' => KeepsFrom B W W' ∧ ∃ O', Gain O O' W W' ∧ Ix .ret xs O' W'
 | .exit id, _, W' => KeepsFrom B W W' ∧ ∃ O', Gain O O' W W' ∧ Ix (.exit id) xs O' W'
 | .goto t, _, W' => KeepsFrom B W W' ∧ ∃ O', Gain O O' W W' ∧ Ix (.goto t) xs O' W'
 | .panic _, _, _ => False
 | .outgrown, _, _ => False
variable {F : Fence} {n : Nat} {P : Program}
theorem wpIn_rangeFunc_sep2 {α : Type} {gop : Operand} {ps : Array Tmp} {assign body : Code} {Q : Exit → Act → World → Prop} {a : Act} {w : World}
  (hro : F.round = none) (h1 : 1 ≤ n) {gf : Nat} {lb : Array Value} (hg : a.eval gop = .func (.func gf) #[] lb) (hFg : F.fn gf) (eg : ∀ args w, (callFunc gf args).run P w = .ok (.enter gf args) w)
  {encs : α → Array Value} {S Sp : List α → Prop} {N : Nat} {Prot : Nat → Prop} {g : Nat} {G : List α → α → Prop} (hseq : SeqSep2 G F (n - 1) P gf lb encs S Sp N Prot g w) (hgl : g < w.heap.size) (hps : ∀ x, (encs x).size = ps.size)
  (I : List α → (Nat → Prop) → World → Prop) (Ix : Code → List α → (Nat → Prop) → World → Prop) (hI : ∀ O, OwnFrom w.heap.size (fun s W => I s O W)) (hIx : ∀ c O, OwnFrom w.heap.size (fun s W => Ix c s O W)) (hIg : Loose g I) (hIxg : ∀ c, Loose g (Ix c))
  (O0 : Nat → Prop) (hO0 : ∀ k, Prot k → ¬ O0 k) (hOl : ∀ k, O0 k → k < w.heap.size) (h0 : I [] O0 w) (Ax : α → Act → World → Prop) (hAx : ∀ x a', OwnFrom w.heap.size (fun (_ : Unit) W => Ax x a' W))
  (hassign : ∀ (l : Nat) (pre : List α) (x : α) (O : Nat → Prop) (W : World) (K : Act → World → Prop), G pre x → w.heap.size < W.heap.size → I pre O W → (∀ a' W', KeepsFrom w.heap.size W W' → Gain O O W W' → I pre O W' → Ax x a' W' → K a' W') →
   assign.wpIn (F.inRound l) (n - 1 - 1) P (Exit.then K (fun _ _ _ => False)) { tmps := (ps.zip (encs x)).foldl (fun t (p, v) => t.setIfInBounds p v) a.tmps, defers := [] } W)
  (hbody : ∀ (l : Nat) (pre : List α) (x : α) (O : Nat → Prop) (a' : Act) (W : World), G pre x → w.heap.size < W.heap.size → I pre O W → Ax x a' W → pre.length < N → body.wpIn (F.inRound l) (n - 1 - 1) P (sepPost2 w.heap.size I Ix (pre ++ [x]) O W) a' W)
  (hdone : ∀ (D : Nat) (xs : List α) (O : Nat → Prop) (W : World), w.heap.size ≤ D → S xs → I xs O W → W.heap[D]? = some (.deferred (some [])) → Q .normal { a with defers := { target := .collected D, args := #[] } :: a.defers } W)
  (hstop : ∀ (D : Nat) (c : Code) (pre : List α) (O : Nat → Prop) (W : World), w.heap.size ≤ D → Sp pre → Ix c pre O W → W.heap[D]? = some (.deferred (some [])) → c.wpIn F n P Q { a with defers := { target := .collected D, args := #[] } :: a.defers } W) :
  (Code.rangeFunc gop ps assign body).wpIn F n P Q a w := by
 refine wpIn_rangeFunc fun fn hfn => ?_
 rw [hro]
 obtain ⟨D, hD⟩ : ∃ D, w.heap.size = D := ⟨_, rfl⟩
 obtain ⟨rec, hrec⟩ : ∃ rec : LoopState → Option Code → Loop, rec = fun st pe => { state := st, pending := pe, fn, tmps := a.tmps, params := ps, assign, body, defers := D } := ⟨_, rfl⟩
 obtain ⟨W1, hW1⟩ : ∃ W1, (w.alloc (.deferred (some []))).alloc (.loop (rec .ready none)) = W1 := ⟨_, rfl⟩
 have hbk : Book D (rec .ready none) W1 := by
  refine ⟨?_, ?_⟩
  · have := World.alloc_heap_new (w.alloc (.deferred (some []))) (.loop (rec .ready none))
    rw [World.size_alloc, hD, hW1] at this
    exact this
  · rw [← hW1, ← hD]
    exact (Below.heap_alloc _ _ _ (by simp)).trans (World.alloc_heap_new w _)
 have hI1 : I [] O0 W1 := by
  rw [← hW1]
  exact (hI O0).alloc _ ((hI O0).alloc _ h0)
 have hb1 : Below w.heap.size w W1 := by
  rw [← hW1]
  exact ((Below.refl _ w).alloc (Nat.le_refl _) _).alloc (by simp) _
 have hs1 := hb1.size
 have henter := run_enterLoop_outer (P := P) (w := w) fn a.tmps ps assign body
 rw [hD] at henter
 refine ⟨D + 1, [{ target := .collected D, args := #[] }], W1, { target := .fn (.func gf) lb, args := #[.func (.yield (D + 1)) #[] #[]] }, W1, gf,
  #[.func (.yield (D + 1)) #[] #[]] ++ lb, W1, ?_, ?_, ?_, ?_, fun _ => h1, ?_⟩
 · rw [henter, ← hW1, hrec]
 · simp only [resolve, hg]
   simp [go_sem]
 · intro f' hf'
   simp [Target.leads] at hf'
   subst hf'
   exact hFg
 · simp [invoke, go_sem, eg]
 · refine (hseq (D + 1) (fun pre O W => I pre O W ∧ Book D (rec .ready none) W) (fun pre O W => ∃ c, Ix c pre O W ∧ Book D (rec .done (some c)) W) O0 W1 hb1
     (fun s O A B row hs hg' hr => ⟨hIg s O A B row hs.1 hg' hr, hs.2.grown hg' (fun k e => by have := hr k e; omega)⟩)
     (fun s O A B row hs hg' hr => by
      obtain ⟨c, hc, hk⟩ := hs
      exact ⟨c, hIxg c s O A B row hc hg' hr, hk.grown hg' (fun k e => by have := hr k e; omega)⟩)
     hO0 (fun k hk => Nat.lt_of_lt_of_le (hOl k hk) hs1) ?_ ⟨hI1, hbk⟩).mono ?_
   · rintro pre x O W hgx ⟨hi, hk⟩ hlen
     have hy := run_yield (P := P) (args := encs x) hk.1 (by rw [hrec]; exact hps x)
     rw [hrec] at hy
     refine ⟨fn, _, assign, body, hy, roundIn_of_wpIn hfn (hassign _ pre x O W _ hgx (by have := hk.lt; omega) hi ?_)⟩
     clear hy
     intro a' Wa hka hga hia hax
     rw [hD] at hka
     have hk := hk.keeps hka
     refine ⟨_, run_beginRound hk.1 (by rw [hrec]), ?_⟩
     have hk2 := hk.put { rec .ready none with state := .busy }
     have hg2 : Gain O O W (Wa.putObj (D + 1) (.loop { rec .ready none with state := .busy })) := hga.trans (Gain.put O _ hk.1 rfl)
     have hlt := hk.lt
     refine wpIn_mono (hbody _ pre x O a' _ hgx (by simp; omega) ((hI O).putObj _ hia (by omega) hk.1 rfl) ((hAx x a').putObj (s := ()) _ hax (by omega) hk.1 rfl) hlen) ?_
     rw [hD]
     have hrd : ∀ jump : Option Code, { { rec .ready none with state := .busy } with state := if jump.isNone then .ready else .done, pending := jump } = rec (if jump.isNone then .ready else .done) jump := by
      intro jump
      rw [hrec]
     rintro e a3 W3 hp
     cases e with
     | normal =>
      obtain ⟨hk3, O', hg3, hi3⟩ := hp
      have hb3 := hk2.keeps hk3
      have hr := round_end (P := P) hb3 none
      rw [hrd] at hr
      exact ⟨_, _, hr, .inl ⟨rfl, O', ⟨(hI O').putObj _ hi3 (by omega) hb3.1 rfl, hb3.put _⟩, (hg2.trans hg3).trans (Gain.put O' _ hb3.1 rfl)⟩⟩
     | ret =>
      obtain ⟨hk3, O', hg3, hi3⟩ := hp
      have hb3 := hk2.keeps hk3
      have hr := round_end (P := P) hb3 (some .ret)
      rw [hrd] at hr
      exact ⟨_, _, hr, .inr ⟨rfl, O', ⟨.ret, (hIx _ O').putObj _ hi3 (by omega) hb3.1 rfl, hb3.put _⟩, (hg2.trans hg3).trans (Gain.put O' _ hb3.1 rfl)⟩⟩
     | exit id =>
      obtain ⟨hk3, O', hg3, hi3⟩ := hp
      have hb3 := hk2.keeps hk3
      have hr := round_end (P := P) hb3 (some (.exit id))
      rw [hrd] at hr
      exact ⟨_, _, hr, .inr ⟨rfl, O', ⟨.exit id, (hIx _ O').putObj _ hi3 (by omega) hb3.1 rfl, hb3.put _⟩, (hg2.trans hg3).trans (Gain.put O' _ hb3.1 rfl)⟩⟩
     | goto t =>
      obtain ⟨hk3, O', hg3, hi3⟩ := hp
      have hb3 := hk2.keeps hk3
      have hr := round_end (P := P) hb3 (some (.goto t))
      rw [hrd] at hr
      exact ⟨_, _, hr, .inr ⟨rfl, O', ⟨.goto t, (hIx _ O').putObj _ hi3 (by omega) hb3.1 rfl, hb3.put _⟩, (hg2.trans hg3).trans (Gain.put O' _ hb3.1 rfl)⟩⟩
     | panic ch => exact hp.elim
     | outgrown => exact hp.elim
   · rintro e W2 ⟨⟨v, rfl⟩, (⟨xs, O, hS, hi, hk⟩ | ⟨pre, O, hSp, c, hi, hk⟩)⟩
     · exact ⟨none, _, by have := run_endLoop (P := P) hk.1 (by rw [hrec]; simp); rw [hrec] at this; exact this, hdone D xs O _ (by omega) hS ((hI O).putObj _ hi (by omega) hk.1 rfl) (hk.put _).2⟩
     · exact ⟨some c, _, by have := run_endLoop (P := P) hk.1 (by rw [hrec]; simp); rw [hrec] at this; exact this, hstop D c pre O _ (by omega) hSp ((hIx c O).putObj _ hi (by omega) hk.1 rfl) (hk.put _).2⟩
end Go.Proofs.YtmbppgjhdcmckaaGreatDoor
namespace Go.Proofs.YtmbppgjhdcmckaaGreatDoor
open Go.RowKit
def opPlain (o : Oper) : Bool := match o.op with
 | .defer _ => false
 | _ => true
theorem opPlain_spec {o : Oper} (h : opPlain o = true) : ∀ c, o.op ≠ .defer c := by
 intro c e
 unfold opPlain at h
 rw [e] at h
 cases h
section
variable {P : Program} {ops : Array Oper} {Q : Exit → Act → World → Prop} {md : Region.Mode} {l n : Nat}
theorem operIn_of_oper {o : Oper} {a : Act} {w : World} {K : Act → World → Prop} (hnd : opPlain o = true) (h : o.wp P a w K Q) : o.wpIn (Fence.wide.inRound l) n P a w K Q := by
 refine ⟨fun _ _ => trivial, ?_⟩
 unfold Oper.wp at h
 rw [Oper.semAt_eq _ _ _ (opPlain_spec hnd)]
 generalize (execOp a.eval o).run P w = r at h ⊢
 cases r with
 | ok x w' =>
  cases x with
  | value v => exact h
  | skip => exact h
  | defer d => exact h
  | enter f args => exact ⟨(fun e => by cases e), CallsIn.inRound l (callsIn_wide.2 h)⟩
  | row row args =>
   refine ⟨(fun e => by cases e), fun c cs _ => ?_⟩
   obtain ⟨v, w'', r, s⟩ := h c cs
   exact ⟨v, w'', r, stepsIn_wide.2 s⟩
  | _ => exact h.elim
 | halt x w' =>
  cases x <;> first | exact h | exact h.elim
theorem opIn_of_op {i : Nat} {a : Act} {w : World} {K K' : Act → World → Prop} (hnd : ops.all opPlain = true) (hQ : ∀ a w, ¬ Q .outgrown a w) (hK : ∀ a w, K a w → K' a w) (h : wpOp P ops Q i K a w) : wpOpIn (Fence.wide.inRound l) n P ops Q i K' a w := by
 unfold wpOp at h
 unfold wpOpIn
 cases ho : ops[i]? with
 | none =>
  rw [ho] at h
  exact hK _ _ h
 | some o =>
  rw [ho] at h
  have hp : opPlain o = true := by
   obtain ⟨hi, he⟩ := Array.getElem?_eq_some_iff.1 ho
   rw [← he]
   exact (Array.all_eq_true.1 hnd) i hi
  by_cases hw : Region.wanted o (yielded ops a.tmps) = true
  · simp only [hw, if_true] at h ⊢
    rcases h with h | ⟨_, a', w', hq⟩
    · exact Oper.wpIn_mono hK (operIn_of_oper hp h)
    · exact absurd hq (hQ a' w')
  · simp only [hw] at h ⊢
    exact ⟨fun _ _ => trivial, hK _ _ h⟩
theorem anyIn_of_any (hnd : ops.all opPlain = true) (hQ : ∀ a w, ¬ Q .outgrown a w) : ∀ (fuel : Nat) (listed : Array Bool) (a : Act) (w : World),
  wpAny P md ops Q fuel listed a w → wpAnyIn (Fence.wide.inRound l) n P md ops Q fuel listed a w
 | 0, _, _, _, h => h
 | fuel + 1, _, _, _, h => ⟨h.1, fun i hi => opIn_of_op hnd hQ (fun a' w' h' => anyIn_of_any hnd hQ fuel _ a' w' h') (h.2 i hi)⟩
end
section
variable {P : Program} {ops : Array Oper} {os : List Oper} {Q : Exit → Act → World → Prop} {md : Region.Mode} {S : World → Prop} {k : Nat}
/-- Number k waits for number i. -/
def waits (md : Region.Mode) (ops : Array Oper) (k i : Nat) : Bool := match ops[k]? with
 | none => true
 | some o => o.after.any fun e => Region.binds md e && e.on == i
end
end Go.Proofs.YtmbppgjhdcmckaaGreatDoor
namespace Go.Proofs.YtmbppgjhdcmckaaGreatDoor
open Go.RowKit
section
variable {P : Program} {os : List Oper} {Q : Exit → Act → World → Prop} {l n : Nat}
theorem roundRegion_E (S : World → Prop) (E : List Nat) {id m : Nat} {L : Array Bool} {a : Act} {w : World} (hm : P.follows .mixedOrders = true) (hnd : os.toArray.all opPlain = true) (hQ : ∀ a w, ¬ Q .outgrown a w) (hsz : os.length = m) (hL : Array.replicate m false = L)
  (h : wpAnyE P .any os.toArray Q S E m L a w.drew) : (Code.region id os.toArray true).wpIn (Fence.wide.inRound l) n P Q a w := by
 subst hsz
 subst hL
 exact wpIn_region_any hm (anyIn_of_any hnd hQ _ _ _ _ (any_of_E _ _ _ _ h))
end
end Go.Proofs.YtmbppgjhdcmckaaGreatDoor
namespace Go.Proofs.YtmbppgjhdcmckaaGreatDoor
open Go.RowKit
section
variable {P : Program} {ops : Array Oper} {os : List Oper} {Q : Exit → Act → World → Prop} {md : Region.Mode} {S : World → Prop} {nf : Nat} {E : List Nat}
theorem opIn_putIf {j : Nat} {oi oj : Oper} {v : Value} (hj : ops[j]? = some oj) (hap : oi.apart ops oj = true)
  (hsi : ∀ cs b, oi.op ≠ .select cs b) (hsj : ∀ cs b, oj.op ≠ .select cs b)
  (hQ : ∀ c a w, Q (.panic c) (a.put oi.dst v) w → Q (.panic c) a w) {K : Act → World → Prop} {a : Act} {w : World}
  (hy : YieldsIf P ops S oi v a) (h : wpOpIn Fence.wide nf P ops Q j K (a.put oi.dst v) w) :
  wpOpIn Fence.wide nf P ops Q j (fun a' w' => YieldsIf P ops S oi v a' ∧ K (a'.put oi.dst v) w') a w := by
 obtain ⟨h1, h2, h3⟩ := Oper.apart_spec hap
 have keep : ∀ (a : Act), YieldsIf P ops S oi v a → ∀ u, YieldsIf P ops S oi v (a.put oj.dst u) := fun a hy u =>
  hy.of_same (execOp_put oi hsi a oj.dst u h3) (wanted_put oi a oj.dst u h3)
 have keepD : ∀ d, YieldsIf P ops S oi v { a with defers := d :: a.defers } := fun d => hy.of_same rfl rfl
 unfold wpOpIn at *
 simp only [hj] at *
 rw [wanted_put oj a oi.dst v h1] at h
 split
 · rename_i hw
   simp only [hw, if_true] at h
   unfold Oper.wpIn at *
   refine ⟨fun _ _ => trivial, ?_⟩
   have h := h.2
   rw [show Fence.wide.round = none from rfl, Oper.semAt_none, execOp_put oj hsj a oi.dst v h1] at h
   rw [show Fence.wide.round = none from rfl, Oper.semAt_none]
   generalize (execOp a.eval oj).run P w = r at *
   cases r with
   | ok x w' =>
    cases x <;> simp only [Oper.uponIn] at h ⊢
    case value u => exact ⟨keep a hy u, by rw [← Act.put_comm a v u h2]; exact h⟩
    case skip => exact ⟨keep a hy _, by rw [← Act.put_comm a v undef h2]; exact h⟩
    case defer d =>
     refine ⟨keep _ (keepD d) _, ?_⟩
     rw [← Act.put_comm _ v undef h2, ← Act.put_defers]
     exact h
    case enter f args =>
     refine ⟨h.1, CallsIn.mono h.2 fun e w'' he => ?_⟩
     cases e with
     | returned u => exact ⟨keep a hy u, by rw [← Act.put_comm a v u h2]; exact he⟩
     | panicked c => exact hQ _ _ _ he
     | outgrown => exact he
    case row row args => exact ⟨h.1, RowsIn.mono h.2 fun u w'' he => ⟨keep a hy u, by rw [← Act.put_comm a v u h2]; exact he⟩⟩
    case round l f tmps assign body =>
     refine ⟨h.1, RoundIn.mono h.2 fun e w'' he => ?_⟩
     cases e with
     | returned u => exact ⟨keep a hy u, by rw [← Act.put_comm a v u h2]; exact he⟩
     | panicked c => exact hQ _ _ _ he
     | outgrown => exact he
   | halt x w' =>
    cases x <;> simp only [Oper.uponIn] at h ⊢
    case panic u => exact hQ _ _ _ h
 · rename_i hw
   simp only [hw] at h
   exact ⟨fun _ _ => trivial, keep a hy _, by rw [← Act.put_comm a v undef h2]; exact h.2⟩
theorem opIn_take {i : Nat} {o : Oper} {v : Value} {a : Act} (hi : ops[i]? = some o) (hy : YieldsIf P ops S o v a)
  {K : Act → World → Prop} {w : World} (hS : S w) (h : K (a.put o.dst v) w) : wpOpIn Fence.wide nf P ops Q i K a w := by
 unfold wpOpIn
 simp only [hi]
 rcases hy with ⟨hw, hv⟩ | ⟨hw, rfl⟩
 · simp only [hw, if_true, Oper.wpIn, show Fence.wide.round = none from rfl, Oper.semAt_none, hv w hS, Oper.uponIn]
   exact ⟨fun _ _ => trivial, h⟩
 · simp only [hw, Bool.false_eq_true, if_false]
   exact ⟨fun _ _ => trivial, h⟩
/-- Whatever order is picked, S holds behind each operation but those of E. -/
def wpAnyJ (nf : Nat) (P : Program) (md : Region.Mode) (ops : Array Oper) (Q : Exit → Act → World → Prop) (S : World → Prop) (E : List Nat) : Nat → Array Bool → Act → World → Prop
 | 0, L, a, w => Region.ready md ops L = [] ∧ Q .normal a w
 | n + 1, L, a, w => (Region.ready md ops L = [] → Q .normal a w) ∧ ∀ i ∈ Region.ready md ops L, wpOpIn Fence.wide nf P ops Q i (fun a' w' => (E.contains i = false → S w → S w') ∧ wpAnyJ nf P md ops Q S E n (L.setIfInBounds i true) a' w') a w
theorem any_of_J : ∀ (n : Nat) (L : Array Bool) (a : Act) (w : World), wpAnyJ nf P md ops Q S E n L a w → wpAnyIn Fence.wide nf P md ops Q n L a w
 | 0, _, _, _, h => h
 | n + 1, _, _, _, h => ⟨h.1, fun i hi => wpOpIn_mono (fun a' w' h' => any_of_J n _ a' w' h'.2) (h.2 i hi)⟩
theorem getD_set_true {L : Array Bool} {j k : Nat} (h : L.getD k true = true) : (L.setIfInBounds j true).getD k true = true := by
 by_cases e : j = k
 · subst e
   rcases Nat.lt_or_ge j L.size with h' | h'
   · simp [h']
   · rw [Array.setIfInBounds_eq_of_size_le h']
     exact h
 · rw [getD_set_ne true e]
   exact h
theorem firstJ {i : Nat} {oi : Oper} {v : Value} (hi : ops[i]? = some oi) (hsel : ∀ (j : Nat) (o : Oper) cs b, ops[j]? = some o → o.op ≠ .select cs b)
  (hQ : ∀ c a w, Q (.panic c) (a.put oi.dst v) w → Q (.panic c) a w) :
  ∀ (n : Nat) (L : Array Bool) (a : Act) (w : World), (∀ k, E.contains k = true → L.getD k true = true ∨ waitsE md ops k i = true) →
   (∀ j oj, ops[j]? = some oj → j ≠ i → L.getD j true = false → (∀ e ∈ oj.after, Region.binds md e = true → e.on ≠ i) → oi.apart ops oj = true) →
   i ∈ Region.ready md ops L → YieldsIf P ops S oi v a → S w → wpAnyJ nf P md ops Q S E n (L.setIfInBounds i true) (a.put oi.dst v) w → wpAnyJ nf P md ops Q S E (n + 1) L a w := by
 intro n
 induction n with
 | zero =>
  intro L a w _ _ hr hy hS H
  refine ⟨fun h => (by rw [h] at hr; cases hr), fun j hj => ?_⟩
  by_cases hji : j = i
  · subst hji
    exact opIn_take hi hy hS ⟨fun _ h => h, H⟩
  · have := ready_mono hj hji
    rw [H.1] at this
    cases this
 | succ n ih =>
  intro L a w hw hfree hr hy hS H
  refine ⟨fun h => (by rw [h] at hr; cases hr), fun j hj => ?_⟩
  by_cases hji : j = i
  · subst hji
    exact opIn_take hi hy hS ⟨fun _ h => h, H⟩
  · have h1 := H.2 j (ready_mono hj hji)
    obtain ⟨hjun, oj, hoj, hall⟩ := mem_ready.1 hj
    have hnot := not_afterE hoj hr hj
    have h2 := opIn_putIf hoj (hfree j oj hoj hji hjun hnot) (fun cs b => hsel i oi cs b hi) (fun cs b => hsel j oj cs b hoj) hQ hy h1
    have hjk : E.contains j = false := by
     cases hc : E.contains j
     · rfl
     · rcases hw j hc with k1 | k2
       · rw [hjun] at k1
         cases k1
       · exact absurd hj (not_readyE k2 hr)
    refine wpOpIn_mono (fun a' w' h3 => ⟨h3.2.1, ih (L.setIfInBounds j true) a' w' (fun k hk => (hw k hk).imp getD_set_true id) (fun m om hm hmi hun hno => ?_) (ready_mono hr (Ne.symm hji)) h3.1 (h3.2.1 hjk hS) ?_⟩) h2
    · refine hfree m om hm hmi ?_ hno
      by_cases hjm : j = m
      · subst hjm
        exact hjun
      · rw [getD_set_ne true hjm] at hun
        exact hun
    · rw [Array.setIfInBounds_comm _ _ hji]
      exact h3.2.2
theorem firstU {i : Nat} {oi : Oper} {v : Value} (hi : ops[i]? = some oi) (hsel : ∀ (j : Nat) (o : Oper) cs b, ops[j]? = some o → o.op ≠ .select cs b)
  (hQ : ∀ c a w, Q (.panic c) (a.put oi.dst v) w → Q (.panic c) a w) :
  ∀ (n : Nat) (L : Array Bool) (a : Act) (w : World),
   (∀ j oj, ops[j]? = some oj → j ≠ i → L.getD j true = false → (∀ e ∈ oj.after, Region.binds md e = true → e.on ≠ i) → oi.apart ops oj = true) →
   i ∈ Region.ready md ops L → YieldsIf P ops (fun _ => True) oi v a → wpAnyJ nf P md ops Q S E n (L.setIfInBounds i true) (a.put oi.dst v) w → wpAnyJ nf P md ops Q S E (n + 1) L a w := by
 intro n
 induction n with
 | zero =>
  intro L a w _ hr hy H
  refine ⟨fun h => (by rw [h] at hr; cases hr), fun j hj => ?_⟩
  by_cases hji : j = i
  · subst hji
    exact opIn_take (S := fun _ => True) hi hy trivial ⟨fun _ h => h, H⟩
  · have := ready_mono hj hji
    rw [H.1] at this
    cases this
 | succ n ih =>
  intro L a w hfree hr hy H
  refine ⟨fun h => (by rw [h] at hr; cases hr), fun j hj => ?_⟩
  by_cases hji : j = i
  · subst hji
    exact opIn_take (S := fun _ => True) hi hy trivial ⟨fun _ h => h, H⟩
  · have h1 := H.2 j (ready_mono hj hji)
    obtain ⟨hjun, oj, hoj, hall⟩ := mem_ready.1 hj
    have hnot := not_afterE hoj hr hj
    have h2 := opIn_putIf (S := fun _ => True) hoj (hfree j oj hoj hji hjun hnot) (fun cs b => hsel i oi cs b hi) (fun cs b => hsel j oj cs b hoj) hQ hy h1
    refine wpOpIn_mono (fun a' w' h3 => ⟨h3.2.1, ih (L.setIfInBounds j true) a' w' (fun m om hm hmi hun hno => ?_) (ready_mono hr (Ne.symm hji)) h3.1 ?_⟩) h2
    · refine hfree m om hm hmi ?_ hno
      by_cases hjm : j = m
      · subst hjm
        exact hjun
      · rw [getD_set_ne true hjm] at hun
        exact hun
    · rw [Array.setIfInBounds_comm _ _ hji]
      exact h3.2.2
/-- A read: it may be taken first. -/
theorem readJ {i n : Nat} {oi : Oper} {v : Value} {listed L : Array Bool} {a : Act} {w : World} (hi : os[i]? = some oi) (hL : listed.setIfInBounds i true = L)
  (hs : Region.noSelect os.toArray = true) (hf : (Region.free md os.toArray listed i && E.all fun k => listed.getD k true || waitsE md os.toArray k i) = true) (hr : (Region.ready md os.toArray listed).contains i = true)
  (hQ : ∀ c a w, Q (.panic c) (a.put oi.dst v) w → Q (.panic c) a w) (hS : S w) (hw : Region.wanted oi (yielded os.toArray a.tmps) = true) (hy : ∀ w, S w → (execOp a.eval oi).run P w = .ok (.value v) w)
  (h : wpAnyJ nf P md os.toArray Q S E n L (a.put oi.dst v) w) : wpAnyJ nf P md os.toArray Q S E (n + 1) listed a w := by
 have hi' : os.toArray[i]? = some oi := by simpa using hi
 rw [Bool.and_eq_true] at hf
 exact firstJ hi' (Region.noSelect_spec hs) hQ n listed a w (fun k hk => by simpa using List.all_eq_true.1 hf.2 k (by simpa using hk)) (Region.free_spec hi' hf.1) (by simpa using hr) (Or.inl ⟨hw, hy⟩) hS (hL ▸ h)
/-- What yields one value in whatever world: it may be taken first. -/
theorem pureJ {i n : Nat} {oi : Oper} {v : Value} {listed L : Array Bool} {a : Act} {w : World} (hi : os[i]? = some oi) (hL : listed.setIfInBounds i true = L)
  (hs : Region.noSelect os.toArray = true) (hf : Region.free md os.toArray listed i = true) (hr : (Region.ready md os.toArray listed).contains i = true)
  (hQ : ∀ c a w, Q (.panic c) (a.put oi.dst v) w → Q (.panic c) a w) (hw : Region.wanted oi (yielded os.toArray a.tmps) = true) (hy : ∀ w, (execOp a.eval oi).run P w = .ok (.value v) w)
  (h : wpAnyJ nf P md os.toArray Q S E n L (a.put oi.dst v) w) : wpAnyJ nf P md os.toArray Q S E (n + 1) listed a w := by
 have hi' : os.toArray[i]? = some oi := by simpa using hi
 exact firstU hi' (Region.noSelect_spec hs) hQ n listed a w (Region.free_spec hi' hf) (by simpa using hr) (Or.inl ⟨hw, fun w _ => hy w⟩) (hL ▸ h)
/-- An operation whose guard says no. -/
theorem skipJ {i n : Nat} {oi : Oper} {listed L : Array Bool} {a : Act} {w : World} (hi : os[i]? = some oi) (hL : listed.setIfInBounds i true = L)
  (hs : Region.noSelect os.toArray = true) (hf : Region.free md os.toArray listed i = true) (hr : (Region.ready md os.toArray listed).contains i = true)
  (hQ : ∀ c a w, Q (.panic c) (a.put oi.dst undef) w → Q (.panic c) a w) (hw : Region.wanted oi (yielded os.toArray a.tmps) = false)
  (h : wpAnyJ nf P md os.toArray Q S E n L (a.put oi.dst undef) w) : wpAnyJ nf P md os.toArray Q S E (n + 1) listed a w := by
 have hi' : os.toArray[i]? = some oi := by simpa using hi
 exact firstU hi' (Region.noSelect_spec hs) hQ n listed a w (Region.free_spec hi' hf) (by simpa using hr) (Or.inr ⟨hw, rfl⟩) (hL ▸ h)
/-- One alone may come up: it is carried out. -/
theorem stepJ {i n : Nat} {oi : Oper} {listed L : Array Bool} {a : Act} {w : World} (hi : os[i]? = some oi) (hL : listed.setIfInBounds i true = L)
  (hr : Region.ready md os.toArray listed = [i]) (hw : Region.wanted oi (yielded os.toArray a.tmps) = true)
  (h : Oper.wpIn Fence.wide nf P oi a w (fun a' w' => (E.contains i = false → S w → S w') ∧ wpAnyJ nf P md os.toArray Q S E n L a' w') Q) :
  wpAnyJ nf P md os.toArray Q S E (n + 1) listed a w := by
 subst hL
 refine ⟨fun h0 => (by rw [hr] at h0; cases h0), fun j hj => ?_⟩
 rw [hr] at hj
 obtain rfl := List.mem_singleton.1 hj
 refine wpOpIn_step (by simpa using hi) (fun K' hK => ?_)
 rw [if_pos hw]
 exact Oper.wpIn_mono (fun a' w' h' => hK a' w' h') h
theorem stepKJ {i n : Nat} {oi : Oper} {listed L : Array Bool} {a : Act} {w : World} (hi : os[i]? = some oi) (hL : listed.setIfInBounds i true = L)
  (hr : Region.ready md os.toArray listed = [i]) (hw : Region.wanted oi (yielded os.toArray a.tmps) = true)
  (h : ∀ K' : Act → World → Prop, (∀ a w', ((E.contains i = false → S w → S w') ∧ wpAnyJ nf P md os.toArray Q S E n L a w') → K' a w') → Oper.wpIn Fence.wide nf P oi a w K' Q) :
  wpAnyJ nf P md os.toArray Q S E (n + 1) listed a w :=
 stepJ hi hL hr hw (h _ (fun _ _ h => h))
theorem doneJ {L : Array Bool} {a : Act} {w : World} (hr : Region.ready md ops L = []) (h : Q .normal a w) : ∀ n, wpAnyJ nf P md ops Q S E n L a w
 | 0 => ⟨hr, h⟩
 | _ + 1 => ⟨fun _ => h, by rw [hr]; simp⟩
theorem region_J (S : World → Prop) (E : List Nat) {id m : Nat} {L : Array Bool} {a : Act} {w : World} (hm : P.follows .mixedOrders = true) (hsz : os.length = m) (hL : Array.replicate m false = L)
  (h : wpAnyJ nf P .any os.toArray Q S E m L a w.drew) : (Code.region id os.toArray true).wpIn Fence.wide nf P Q a w := by
 subst hsz
 subst hL
 exact wpIn_region_any hm (any_of_J _ _ _ _ h)
end
end Go.Proofs.YtmbppgjhdcmckaaGreatDoor
namespace Go.Proofs.YtmbppgjhdcmckaaGreatDoor
open Go.RowKit
namespace Dy
open Dp
/-- The places from n - 1 down to k. -/
def downs (n k : Nat) : List Nat := (List.range (n - k)).map fun j => n - 1 - j
theorem downs_top (n : Nat) : downs n n = [] := by simp [downs]
theorem downs_len (n k : Nat) : (downs n k).length = n - k := by simp [downs]
theorem downs_next {n k : Nat} (h : k < n) : downs n (k + 1) ++ [k] = downs n k := by
 unfold downs
 have e : n - k = n - (k + 1) + 1 := by omega
 rw [e, List.range_succ, List.map_append]
 congr 1
 simp only [List.map_cons, List.map_nil]
 congr 1
 omega
/-- What comes next. -/
def NextB (n : Nat) (pre : List Nat) (x : Nat) : Prop := x < n ∧ pre = downs n (x + 1)
/-- A bit. -/
def bitN (X i : Nat) : Nat := X / 2 ^ i % 2
/-- What is yielded. -/
def encB (X : Nat) (i : Nat) : Array Value := #[.int .i64 (i : Int), .int .u32 (bitN X i : Int)]
theorem bit_limb {l : List Int} (hd : Dig 4294967296 l) {i p : Nat} (hp : l[i / 32]?.getD 0 = (p : Int)) : p / 2 ^ (i % 32) % 2 = num 4294967296 l / 2 ^ i % 2 := by
 have h := limb_at hd hp
 have e : (2 : Nat) ^ i = 4294967296 ^ (i / 32) * 2 ^ (i % 32) := by
  have e0 : 4294967296 ^ (i / 32) = 2 ^ (32 * (i / 32)) := by rw [Nat.pow_mul]
  rw [e0, ← Nat.pow_add]
  congr 1
  omega
 rw [e, ← Nat.div_div_eq_div_mul, ← h]
 generalize num 4294967296 l / 4294967296 ^ (i / 32) = q
 have hr : i % 32 < 32 := Nat.mod_lt _ (by decide)
 have hb : (4294967296 : Nat) = 2 ^ (i % 32) * (2 * 2 ^ (31 - i % 32)) := by
  rw [← Nat.pow_succ', ← Nat.pow_add, show i % 32 + (31 - i % 32 + 1) = 32 by omega]
 rw [hb, Nat.mod_mul_right_div_self, Nat.mod_mul_right_mod]
theorem and_one (p r b : Nat) (hp : p < 4294967296) (h : p / 2 ^ r % 2 = b) : bits .and .u32 ((p : Int) / 2 ^ r) 1 = (b : Int) := by
 have e : ((p : Int) / 2 ^ r) = ((p / 2 ^ r : Nat) : Int) := by push_cast; rfl
 have hlt : p / 2 ^ r < 4294967296 := Nat.lt_of_le_of_lt (Nat.div_le_self _ _) hp
 rw [e]
 have := u32_and_nat (p / 2 ^ r) 1 hlt (by decide)
 rw [show ((1 : Nat) : Int) = 1 from rfl] at this
 rw [this, Nat.and_one_is_mod, h]
set_option maxHeartbeats 3200000 in
set_option maxRecDepth 100000 in
/-- ratio.digits's closure. -/
theorem digits1_in (m l gx : Nat) (xs : List Int) (n : Nat) (hn : IsLen (num 4294967296 xs) n) (hn2 : n ≤ 2432) (J Jx : List Nat → (Nat → Prop) → World → Prop)
  (hY : ∀ pre x O W1, NextB n pre x → J pre O W1 → pre.length < n → YieldAt Fence.wide (m - 1) Tryz.prog l (encB (num 4294967296 xs) x) W1 fun e W' =>
   (e = .returned (.bool true) ∧ ∃ O', J (pre ++ [x]) O' W' ∧ Gain O O' W1 W') ∨ (e = .returned (.bool false) ∧ ∃ O', Jx (pre ++ [x]) O' W' ∧ Gain O O' W1 W'))
  (O0 : Nat → Prop) (W : World) (hX : WideR W gx xs) (hO : ¬ O0 gx) (h0 : J [] O0 W) :
  CallsIn Fence.wide m Tryz.prog 210 #[.func (.yield l) #[] #[], .pointer (some ⟨gx, 0, none⟩)] W fun e W' => (∃ v, e = .returned v) ∧
   ((∃ ys O, ys = downs n 0 ∧ J ys O W') ∨ (∃ pre O, True ∧ Jx pre O W')) := by
 have HN := Lib.hid hn
 clear hn
 have hxd := Lib.hid hX.dig
 refine callsIn_of_wp Tryz.func210 rfl trivial ?_ rfl
 simp only [Tryz.ntmps210, List.size_toArray, List.length_cons, List.length_nil, Nat.reduceAdd, Nat.reduceSub, Array.replicate_succ, Array.replicate_zero, List.push_toArray, List.append_toArray, List.nil_append, List.cons_append]
 gi_wp2_with fail
 refine ⟨trivial, (fun h => by cases h), (callsIn_wide.2 (lengthR_any W gx xs hX)).mono ?_⟩
 rintro e w2 ⟨n', rfl, hn', _, rfl⟩
 obtain rfl : n' = n := IsLen.uniq hn' HN.out
 clear hn'
 gi_wp2
 gi_loopw [3] (fun iv wr => ∃ (k : Nat) (O : Nat → Prop), iv = .int .i64 ((k : Int) - 1) ∧ k ≤ n' ∧ WideR wr gx xs ∧ Hid (¬ O gx) ∧ J (downs n' k) O wr) (fun iv _ => (intOf iv + 1).toNat)
 case atStart => exact ⟨n', O0, rfl, Nat.le_refl _, hX, Lib.hid hO, by rw [downs_top]; exact h0⟩
 case round =>
  clear hX hO h0
  obtain ⟨k, O, rfl, hk, hX, hO, hJ⟩ := hrel
  rcases k with _ | k
  · gi_wp2
    go_end0
    exact ⟨⟨_, rfl⟩, .inl ⟨_, O, rfl, hJ⟩⟩
  · have ej : ((k + 1 : Nat) : Int) - 1 = (k : Int) := by omega
    rw [ej]
    obtain ⟨p, hp, hp2⟩ := dig_get (by decide) hX.dig (k / 32)
    have g1 := hX.cell (j := k / 32) (by omega)
    rw [hp] at g1
    obtain ⟨b, hb⟩ : ∃ b, bitN (num 4294967296 xs) k = b := ⟨_, rfl⟩
    have hand := and_one p (k % 32) b hp2 ((bit_limb hX.dig hp).trans hb)
    have hk0 : (0 : Int) ≤ k := by omega
    have hk1 : (k : Int) / 32 < 76 := by omega
    have hk2 : (0 : Int) ≤ (k : Int) / 32 := by omega
    obtain ⟨fn, tmps, assign, body, hy, hR⟩ := hY _ k O wr ⟨by omega, rfl⟩ hJ (by rw [downs_len]; omega)
    unfold encB at hy
    rw [hb] at hy
    (try dsimp only at hy)
    have HP := Lib.hid hp
    clear hp hb ej
    gi_wp2
    refine ⟨(fun h => by cases h), hR.mono ?_⟩
    rintro e W3 (⟨rfl, O', hJ3, hG⟩ | ⟨rfl, O', hJx3, _⟩)
    · have hX3 : WideR W3 gx xs := ⟨hG.same _ _ _ _ hO.out hX.blk, hX.len, hX.dig⟩
      have hO3 : Hid (¬ O' gx) := Lib.hid (fun h => by
       rcases hG.new gx h with h1 | h1
       · exact hO.out h1
       · have := hX.lt
         omega)
      rw [downs_next (by omega)] at hJ3
      gi_wp2
      go_roundw
      case rel => exact ⟨k, O', rfl, by omega, hX3, hO3, hJ3⟩
      case measure => first | (simp [intOf]; done) | (simp [intOf]; omega)
    · gi_wp2
      refine bodyPost_ret (results_none rfl _ _ _) rfl ?_
      exact ⟨⟨_, rfl⟩, .inr ⟨_, O', trivial, hJx3⟩⟩
/-- ratio.digits's closure, as the law on ranges asks it. -/
theorem digits_seq (m gx : Nat) (xs : List Int) (n : Nat) (hn : IsLen (num 4294967296 xs) n) (hn2 : n ≤ 2432) (w : World) (hX : WideR w gx xs) :
  SeqSep2 (NextB n) Fence.wide m Tryz.prog 210 #[.pointer (some ⟨gx, 0, none⟩)] (encB (num 4294967296 xs)) (fun ys => ys = downs n 0) (fun _ => True) n (fun k => k = gx) gx w :=
 fun l J Jx O0 W hW _ _ hP _ hY h0 => digits1_in m l gx xs n hn hn2 J Jx hY O0 W (hX.of_heap (hW.block gx hX.lt)) (hP _ rfl) h0
/-- ratio.digits. -/
theorem digits_any (w : World) (xs : List Int) : Calls Tryz.prog 199 #[.agg (rowU xs)] w fun e w' => e = .returned (.func (.func 210) #[] #[.pointer (some ⟨w.heap.size, 0, none⟩)]) ∧ w' = w.alloc (.cells (rowU xs) 157) := by
 have hmf : ∀ (fn : Fn) (first cap : Array Value) (w : World), (Instr.makeFunc fn first cap).run Tryz.prog w = .ok (.func fn first cap) w := fun _ _ _ _ => rfl
 go_enter Tryz.func199, Tryz.ntmps199
 go_wp2
 go_ret
 exact ⟨rfl, rfl⟩
end Dy
end Go.Proofs.YtmbppgjhdcmckaaGreatDoor
namespace Go.Proofs.YtmbppgjhdcmckaaGreatDoor
open Go.RowKit
namespace Dy
open Dp
set_option maxRecDepth 100000 in
/-- (*dyad.sum).at$1. -/
theorem at1_any (w : World) (b g : Nat) (ws : List Int) (hb : w.cell? ⟨b, 0, none⟩ = some (.pointer (some ⟨g, 0, none⟩))) (hR : Row w g 3 ws) (i : Nat) (ii : Int) (hii : ii = i) (hi : i ≤ 100000) (d : Nat) (hd : ws[i]?.getD 0 = (d : Int)) :
  Calls Tryz.prog 202 #[.int .i64 ii, .pointer (some ⟨b, 0, none⟩)] w fun e w' => e = .returned (.int .u64 d) ∧ w' = w := by
 subst hii
 by_cases hlt : i < 74
 · have c1 := hR.cell i hlt
   rw [hd] at c1
   have hd2 : d < 4294967296 := by
    obtain ⟨d', h1, h2⟩ := dig_get (by decide) hR.dig i
    rw [hd] at h1
    rw [Int.ofNat.inj h1]
    exact h2
   clear hd
   go_enter Tryz.func202, Tryz.ntmps202
   go_wp2
   go_ret
   exact ⟨rfl, rfl⟩
 · have h0 : d = 0 := by
     rw [List.getElem?_eq_none (by rw [hR.len]; omega)] at hd
     exact (Int.ofNat.inj hd).symm
   subst h0
   clear hd
   go_enter Tryz.func202, Tryz.ntmps202
   go_wp2
   go_ret
   exact ⟨rfl, rfl⟩
theorem cast_dm0 (M r c : Nat) : (M : Int) / 2 ^ r % (c : Int) = ((M / 2 ^ r % c : Nat) : Int) := by push_cast; rfl
theorem cast_dm (M r : Nat) : (M : Int) / 2 ^ r % 4294967296 = ((M / 2 ^ r % 4294967296 : Nat) : Int) := cast_dm0 M r 4294967296
set_option maxHeartbeats 800000 in
set_option maxRecDepth 100000 in
/-- (*dyad.sum).at. -/
theorem at_any (w : World) (g : Nat) (hg : g < w.heap.size) (ws : List Int) (hR : Row w g 3 ws) (i k : Nat) (ii kk : Int) (hii : ii = i) (hkk : kk = k) (hi : i ≤ 100) (hk : k ≤ 3000) (d : Nat) (hd : num 4294967296 ws / 2 ^ k / 4294967296 ^ i % 4294967296 = d) :
  Calls Tryz.prog 180 #[.pointer (some ⟨g, 0, none⟩), .int .i64 ii, .int .i64 kk] w fun e w' => e = .returned (.int .u32 d) ∧ w' = w.alloc (.cells #[.pointer (some ⟨g, 0, none⟩)] 163) := by
 subst hii hkk
 have hmf : ∀ (fn : Fn) (first cap : Array Value) (w : World), (Instr.makeFunc fn first cap).run Tryz.prog w = .ok (.func fn first cap) w := fun _ _ _ _ => rfl
 obtain ⟨x, hx, hx2⟩ := dig_get (by decide) hR.dig (i + k / 32 + 1)
 obtain ⟨y, hy, hy2⟩ := dig_get (by decide) hR.dig (i + k / 32)
 have hlaw := at_limb hR.dig i k x y hx hy
 rw [hd] at hlaw
 have HX := Lib.hid hx
 have HY := Lib.hid hy
 have HL := Lib.hid hlaw
 clear hx hy hlaw hd
 have hR2 := hR.keep (w' := w.alloc (.cells #[.pointer (some ⟨g, 0, none⟩)] 163)) fun j _ => ⟨World.cell?_alloc_lt _ _ _ hg, World.frozen?_alloc_past _ _ _ hg⟩
 go_enter Tryz.func180, Tryz.ntmps180
 go_wp2_with fail
 refine (at1_any _ _ g ws (by simp) hR2 (i + k / 32 + 1) _ (by omega) (by omega) x HX.out).mono ?_
 rintro e w1 ⟨rfl, rfl⟩
 go_wp2_with fail
 refine (at1_any _ _ g ws (by simp) hR2 (i + k / 32) _ (by omega) (by omega) y HY.out).mono ?_
 rintro e w1 ⟨rfl, rfl⟩
 go_wp2
 go_ret
 refine ⟨ret_int ?_, rfl⟩
 have e1 : bits BinOp.or IntKind.u64 ((x : Int) * 4294967296) (y : Int) = ((x * 4294967296 + y : Nat) : Int) := by
  have := u64_or_nat (x * 4294967296) y (by omega) (by omega)
  rw [nat_join 32 _ _ (by omega) (by omega)] at this
  rw [← this]
  congr 1
 have h2 := HL.out
 rw [e1]
 rw [cast_dm, h2]
end Dy
end Go.Proofs.YtmbppgjhdcmckaaGreatDoor