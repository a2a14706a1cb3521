/- query: above, two, ends: walks (printed by a program of mine). -/
import Derived.Test.YtmbppgjhdcmckaaGreatDoorQuBase
import Derived.Test.YtmbppgjhdcmckaaGreatDoorQuGs
namespace Go.Proofs.YtmbppgjhdcmckaaGreatDoor
open Go.RowKit
namespace Ma
open Dp Dy
set_option maxHeartbeats 3200000 in
set_option maxRecDepth 100000 in
/-- query.above. -/
theorem above_any (w : World) (d : Dv) (b : Bool) (hb : aboveV d = b) :
    Calls Tryz.prog 71 #[.agg #[.bool d.s, .slice d.A d.n d.c, .int .i64 d.e]] w fun e w' => e = .returned (.bool b) ∧ Below w.heap.size w w' := by
  obtain ⟨w1, hw, bQ, j1, S1⟩ := alloc_q w d
  obtain ⟨k0, k1, k2⟩ := (boxD bQ).1
  obtain ⟨f0, f1, f2⟩ := (boxD bQ).2
  obtain ⟨s, hs⟩ : ∃ s, d.s = s := ⟨_, rfl⟩
  rw [hs] at k0
  have HB := Lib.hid hb
  have HS := Lib.hid hs
  rw [hs] at hw
  clear hb
  rw [hs]
  clear hs
  cases s
  · by_cases h0 : 0 < d.n
    · have hb' : b = true := by rw [← HB.out, aboveV, HS.out, decide_eq_true h0]; rfl
      subst hb'
      clear HB HS
      go_enter Tryz.func71, Tryz.ntmps71
      go_wp2
      go_ret
      exact ⟨by simp [h0], j1⟩
    · have hb' : b = false := by rw [← HB.out, aboveV, HS.out, decide_eq_false h0]; rfl
      subst hb'
      clear HB HS
      go_enter Tryz.func71, Tryz.ntmps71
      go_wp2
      go_ret
      exact ⟨by simp [h0], j1⟩
  · have hb' : b = false := by rw [← HB.out, aboveV, HS.out]; rfl
    subst hb'
    clear HB HS
    go_enter Tryz.func71, Tryz.ntmps71
    go_wp2
    go_ret
    exact ⟨rfl, j1⟩
set_option maxHeartbeats 6400000 in
set_option maxRecDepth 100000 in
/-- query.two[int]. -/
theorem two_int (w : World) (a b : Int) (ha : -9223372036854775808 ≤ a ∧ a ≤ 9223372036854775807) (hb : -9223372036854775808 ≤ b ∧ b ≤ 9223372036854775807) :
    Calls Tryz.prog 78 #[.int .i64 a, .int .i64 b] w fun e w' => ∃ (x y : Dv) (B : Nat), e = .returned (.agg #[.bool x.s, .slice x.A x.n x.c, .int .i64 x.e, .bool y.s, .slice y.A y.n y.c, .int .i64 y.e]) ∧ Is (whole a) x ∧ Is (whole b) y ∧ Below w.heap.size w w' ∧ w.heap.size ≤ B ∧ B ≤ w'.heap.size ∧ DRow w' w.heap.size B x ∧ DRow w' B w'.heap.size y := by
  obtain ⟨w1, hw, bT, j1, S1⟩ := alloc_zt w
  obtain ⟨sa, hsa⟩ : ∃ s, decide (a < 0) = s := ⟨_, rfl⟩
  obtain ⟨sb, hsb⟩ : ∃ s, decide (b < 0) = s := ⟨_, rfl⟩
  have HA := Lib.hid hsa
  have HB := Lib.hid hsb
  clear hsa hsb
  go_enter Tryz.func78, Tryz.ntmps78
  go_wp2_with fail
  refine (Of_any w1 a ha.1 ha.2 sa a.natAbs HA.out rfl).mono ?_
  rintro e' w2 ⟨A1, n1, rfl, j2, I1⟩
  go_wp2_with fail
  refine (Of_any w2 b hb.1 hb.2 sb b.natAbs HB.out rfl).mono ?_
  rintro e' w3 ⟨A2, n2, rfl, j3, I2⟩
  obtain ⟨x, hx⟩ : ∃ x : Dv, x = ⟨sa, A1, n1, n1, 0, canon 4294967296 a.natAbs⟩ := ⟨_, rfl⟩
  obtain ⟨y, hy⟩ : ∃ y : Dv, y = ⟨sb, A2, n2, n2, 0, canon 4294967296 b.natAbs⟩ := ⟨_, rfl⟩
  have s1 := j1.size
  have s2 := j2.size
  have s3 := j3.size
  have ia : Is (whole a) x := by rw [hx, whole, HA.out]; exact ⟨rfl, rfl, rfl⟩
  have ib : Is (whole b) y := by rw [hy, whole, HB.out]; exact ⟨rfl, rfl, rfl⟩
  have rx : DRow w3 (w.heap.size + 1) w2.heap.size x := by rw [hx]; exact (I1.below j3 (Nat.le_refl _)).more (by omega) (Nat.le_refl _)
  have ry : DRow w3 w2.heap.size w3.heap.size y := by rw [hy]; exact I2
  have bT3 : TBox w3 w.heap.size ZDv ZDv := (j3.block _ (by omega)).trans ((j2.block _ S1).trans bT)
  have b3 := (j1.trans (j2.mono (by omega))).trans (j3.mono (by omega))
  clear I1 I2 HA HB
  obtain ⟨U, hU, bU, hb_, hf_, l1, l2⟩ := told_into bT3 x y
  have th := TBox.there bT3
  rw [hx, hy] at hU
  replace hU : w3.setCells w.heap.size 0 (#[.bool sa, .slice A1 n1 n1, .int .i64 0, .bool sb, .slice A2 n2 n2, .int .i64 0] : Array Value).toList = U := hU
  have HU := Lib.hid hU
  clear hU
  go_wp2_with (first
    | (refine wpList_store_mid rfl 32 (.tmp 4) (.tmp 9) rfl w.heap.size 0 #[.bool sa, .slice A1 n1 n1, .int .i64 0, .bool sb, .slice A2 n2 n2, .int .i64 0] rfl rfl th (by kernel_rfl) (all_oneCell_toArray (cells6D_one ⟨sa, A1, n1, n1, 0, []⟩ ⟨sb, A2, n2, n2, 0, []⟩)) ?_; rw [HU.out]))
  have fin := hb_ _ _ b3 (Nat.le_refl _)
  have rx' := (intsR rx (w' := U) fun b h1 h2 => hf_ b (by omega)).more (lo' := w.heap.size) (hi' := w2.heap.size) (by omega) (Nat.le_refl _)
  have ry' := (intsR ry (w' := U) fun b h1 h2 => hf_ b (by omega)).more (lo' := w2.heap.size) (hi' := U.heap.size) (Nat.le_refl _) (by omega)
  exact bodyPost_ret (results_cell_row Tryz.results78 _ _ w.heap.size 32 #[.bool x.s, .slice x.A x.n x.c, .int .i64 x.e, .bool y.s, .slice y.A y.n y.c, .int .i64 y.e] (0, 0) _ rfl bU Tryz.underlying32 rfl (by kernel_rfl)) rfl ⟨x, y, w2.heap.size, rfl, ia, ib, fin, by omega, by omega, rx', ry'⟩
set_option maxHeartbeats 6400000 in
set_option maxRecDepth 100000 in
/-- query.two[int64]. -/
theorem two_i64 (w : World) (a b : Int) (ha : -9223372036854775808 ≤ a ∧ a ≤ 9223372036854775807) (hb : -9223372036854775808 ≤ b ∧ b ≤ 9223372036854775807) :
    Calls Tryz.prog 81 #[.int .i64 a, .int .i64 b] w fun e w' => ∃ (x y : Dv) (B : Nat), e = .returned (.agg #[.bool x.s, .slice x.A x.n x.c, .int .i64 x.e, .bool y.s, .slice y.A y.n y.c, .int .i64 y.e]) ∧ Is (whole a) x ∧ Is (whole b) y ∧ Below w.heap.size w w' ∧ w.heap.size ≤ B ∧ B ≤ w'.heap.size ∧ DRow w' w.heap.size B x ∧ DRow w' B w'.heap.size y := by
  obtain ⟨w1, hw, bT, j1, S1⟩ := alloc_zt w
  obtain ⟨sa, hsa⟩ : ∃ s, decide (a < 0) = s := ⟨_, rfl⟩
  obtain ⟨sb, hsb⟩ : ∃ s, decide (b < 0) = s := ⟨_, rfl⟩
  have HA := Lib.hid hsa
  have HB := Lib.hid hsb
  clear hsa hsb
  go_enter Tryz.func81, Tryz.ntmps81
  go_wp2_with fail
  refine (Of_any w1 a ha.1 ha.2 sa a.natAbs HA.out rfl).mono ?_
  rintro e' w2 ⟨A1, n1, rfl, j2, I1⟩
  go_wp2_with fail
  refine (Of_any w2 b hb.1 hb.2 sb b.natAbs HB.out rfl).mono ?_
  rintro e' w3 ⟨A2, n2, rfl, j3, I2⟩
  obtain ⟨x, hx⟩ : ∃ x : Dv, x = ⟨sa, A1, n1, n1, 0, canon 4294967296 a.natAbs⟩ := ⟨_, rfl⟩
  obtain ⟨y, hy⟩ : ∃ y : Dv, y = ⟨sb, A2, n2, n2, 0, canon 4294967296 b.natAbs⟩ := ⟨_, rfl⟩
  have s1 := j1.size
  have s2 := j2.size
  have s3 := j3.size
  have ia : Is (whole a) x := by rw [hx, whole, HA.out]; exact ⟨rfl, rfl, rfl⟩
  have ib : Is (whole b) y := by rw [hy, whole, HB.out]; exact ⟨rfl, rfl, rfl⟩
  have rx : DRow w3 (w.heap.size + 1) w2.heap.size x := by rw [hx]; exact (I1.below j3 (Nat.le_refl _)).more (by omega) (Nat.le_refl _)
  have ry : DRow w3 w2.heap.size w3.heap.size y := by rw [hy]; exact I2
  have bT3 : TBox w3 w.heap.size ZDv ZDv := (j3.block _ (by omega)).trans ((j2.block _ S1).trans bT)
  have b3 := (j1.trans (j2.mono (by omega))).trans (j3.mono (by omega))
  clear I1 I2 HA HB
  obtain ⟨U, hU, bU, hb_, hf_, l1, l2⟩ := told_into bT3 x y
  have th := TBox.there bT3
  rw [hx, hy] at hU
  replace hU : w3.setCells w.heap.size 0 (#[.bool sa, .slice A1 n1 n1, .int .i64 0, .bool sb, .slice A2 n2 n2, .int .i64 0] : Array Value).toList = U := hU
  have HU := Lib.hid hU
  clear hU
  go_wp2_with (first
    | (refine wpList_store_mid rfl 32 (.tmp 4) (.tmp 9) rfl w.heap.size 0 #[.bool sa, .slice A1 n1 n1, .int .i64 0, .bool sb, .slice A2 n2 n2, .int .i64 0] rfl rfl th (by kernel_rfl) (all_oneCell_toArray (cells6D_one ⟨sa, A1, n1, n1, 0, []⟩ ⟨sb, A2, n2, n2, 0, []⟩)) ?_; rw [HU.out]))
  have fin := hb_ _ _ b3 (Nat.le_refl _)
  have rx' := (intsR rx (w' := U) fun b h1 h2 => hf_ b (by omega)).more (lo' := w.heap.size) (hi' := w2.heap.size) (by omega) (Nat.le_refl _)
  have ry' := (intsR ry (w' := U) fun b h1 h2 => hf_ b (by omega)).more (lo' := w2.heap.size) (hi' := U.heap.size) (Nat.le_refl _) (by omega)
  exact bodyPost_ret (results_cell_row Tryz.results81 _ _ w.heap.size 32 #[.bool x.s, .slice x.A x.n x.c, .int .i64 x.e, .bool y.s, .slice y.A y.n y.c, .int .i64 y.e] (0, 0) _ rfl bU Tryz.underlying32 rfl (by kernel_rfl)) rfl ⟨x, y, w2.heap.size, rfl, ia, ib, fin, by omega, by omega, rx', ry'⟩
end Ma
end Go.Proofs.YtmbppgjhdcmckaaGreatDoor
