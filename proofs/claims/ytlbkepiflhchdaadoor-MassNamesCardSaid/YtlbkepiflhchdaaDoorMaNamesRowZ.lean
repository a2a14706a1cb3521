/- The law MassNames: a walk (printed by a program of mine). -/
/- The statement MassNames is proved, tied to the program's text: for every input the law answers true and leaves it as it was. No conditions. -/
import Derived.Test.YtlbkepiflhchdaaDoorBn23
import Derived.Test.YtlbkepiflhchdaaDoorBn25
import Derived.Test.YtlbkepiflhchdaaDoorBn09
import Derived.Test.YtlbkepiflhchdaaDoorBn24
import Derived.Test.YtlbkepiflhchdaaDoorCards
import Derived.Test.YtlbkepiflhchdaaDoorTie
import Derived.SevenTiedAt
namespace Go.Proofs.YtlbkepiflhchdaaDoor
open Go.RowKit
namespace Ma
open Dp Dy
theorem make_mass : ∃ arr, ∀ W : World, (Instr.makeSlice 36 (.int .i64 4097) (.int .i64 4097)).run Tryd.prog W = .ok (.slice (some ⟨W.heap.size, 0, none⟩) 4097 4097) (W.alloc (.cells arr 39)) := by
  obtain ⟨i0, hi0, hz0, hz1, hz2⟩ := info_parts infoM
  exact ⟨_, fun W => run_make (P := Tryd.prog) W 36 39 i0 (.agg #[.bool false, .slice none 0 0, .int .i64 0, .bool false, .slice none 0 0, .int .i64 0, .bool false, .slice none 0 0, .int .i64 0, .bool false, .slice none 0 0, .int .i64 0]) Tryd.underlying36 hi0 hz0 .i64 .i64 4097 4097 (by omega) (Int.le_refl _) (by rw [hz2]; omega) (by omega)⟩
theorem MSeed_badm (w : World) (x : Int) (h : x < -2147483647 ∨ 2147483647 < x) (first : Bool) :
    Calls Tryd.prog 56 #[.int .i64 x, .bool first] w fun e w' => ∃ m : Mv, e = .returned (.tuple #[.agg #[.bool m.S.s, .slice m.S.A m.S.n m.S.c, .int .i64 m.S.e, .bool m.W.s, .slice m.W.A m.W.n m.W.c, .int .i64 m.W.e, .bool m.C.s, .slice m.C.A m.C.n m.C.c, .int .i64 m.C.e, .bool m.A.s, .slice m.A.A m.A.n m.A.c, .int .i64 m.A.e], .int .i64 2]) ∧ Below w.heap.size w w' ∧ IsM zR m ∧ MRows w' w.heap.size w'.heap.size m :=
  (MSeed_bad w x h first).mono fun e w' ⟨h1, h2⟩ => ⟨ZM, h1, h2, IsM.zero, ZM_rows ..⟩
theorem MSum_manym (w : World) (A : Option Addr) (n c : Nat) (hn : 4096 < n) :
    Calls Tryd.prog 30 #[.slice A n c] w fun e w' => ∃ m : Mv, e = .returned (.tuple #[.agg #[.bool m.S.s, .slice m.S.A m.S.n m.S.c, .int .i64 m.S.e, .bool m.W.s, .slice m.W.A m.W.n m.W.c, .int .i64 m.W.e, .bool m.C.s, .slice m.C.A m.C.n m.C.c, .int .i64 m.C.e, .bool m.A.s, .slice m.A.A m.A.n m.A.c, .int .i64 m.A.e], .int .i64 4]) ∧ Below w.heap.size w w' ∧ IsM zR m ∧ MRows w' w.heap.size w'.heap.size m :=
  (MSum_many w A n c hn).mono fun e w' ⟨h1, h2⟩ => ⟨ZM, h1, h2, IsM.zero, ZM_rows ..⟩
theorem tiny_half : halfD ⟨false, 1, 1024⟩ = (Dn.zero, 10) := by
  have h : strip 1025 1 = (1, 1025) := by simp [strip]
  unfold halfD formed
  simp only [h]
  simp
theorem zero_mayV : Dv.may ⟨false, none, 0, 0, 0, []⟩ := Is.zero.may zero_may
theorem tiny_split (A : Option Addr) : splitM ⟨⟨false, none, 0, 0, 0, []⟩, ⟨false, A, 1, 1, 1024, [1]⟩, ⟨false, none, 0, 0, 0, []⟩, ⟨false, none, 0, 0, 0, []⟩⟩ = ((zR, zR), 10) ∧ Mv.may ⟨⟨false, none, 0, 0, 0, []⟩, ⟨false, A, 1, 1, 1024, [1]⟩, ⟨false, none, 0, 0, 0, []⟩, ⟨false, none, 0, 0, 0, []⟩⟩ := by
  have m1 : Dn.May ⟨false, 1, 1024⟩ := may_small _ _ _ (by decide) (by decide) (by decide) (by decide)
  have i1 : Is ⟨false, 1, 1024⟩ ⟨false, A, 1, 1, 1024, [1]⟩ := ⟨rfl, rfl, (canon_one 1 (by decide) (by decide)).symm⟩
  have hm : Mv.may ⟨⟨false, none, 0, 0, 0, []⟩, ⟨false, A, 1, 1, 1024, [1]⟩, ⟨false, none, 0, 0, 0, []⟩, ⟨false, none, 0, 0, 0, []⟩⟩ := four zero_mayV (i1.may m1) zero_mayV zero_mayV
  refine ⟨?_, hm⟩
  have e1 := (i1.half m1).trans tiny_half
  unfold splitM
  rw [if_pos hm, if_neg fun k => ?_]
  have := k.2
  rw [e1] at this
  exact absurd this (by decide)
theorem sum_nil : sumM [] = (zR, 0) := by
  unfold sumM
  rw [if_neg (by simp), if_neg (by simp)]
  rfl
theorem add_bad (m : Mv) : addM m ⟨⟨false, none, 0, 0, 0, []⟩, ⟨false, none, 0, 0, 0, []⟩, ⟨false, none, 0, 0, 1, []⟩, ⟨false, none, 0, 0, 0, []⟩⟩ = (zR, 8) := by
  unfold addM
  rw [if_neg]
  intro k
  have h := k.2 2 (by decide)
  exact absurd (h.2.2.2.1 rfl).1 (by decide)
set_option maxHeartbeats 51200000 in
set_option maxRecDepth 100000 in
theorem names_walk (w : World) (hT : Tab w) :
    Calls Tryd.prog 13 #[] w (Yes w) := by
  have a_ : Amid w w := ⟨Below.refl _ _, hT⟩
  have g0 := hT.lt
  obtain ⟨arr, hmk⟩ := make_mass
  go_enter Tryd.func13, Tryd.ntmps13
  go_wp2_with fail
  refine (MSeed_badm w (-2147483648) (.inl (by decide)) false).mono ?_
  rintro e' w_1 ⟨p, rfl, hB, hp, rp⟩
  have lw_1 : w.heap.size ≤ w_1.heap.size := hB.size
  replace a_ := Amid.on a_ hB
  clear hp rp
  clear hB
  have hB := (Below.refl w_1.heap.size w_1).alloc (Nat.le_refl _) (.cells #[.bool p.S.s, .slice p.S.A p.S.n p.S.c, .int .i64 p.S.e, .bool p.W.s, .slice p.W.A p.W.n p.W.c, .int .i64 p.W.e, .bool p.C.s, .slice p.C.A p.C.n p.C.c, .int .i64 p.C.e, .bool p.A.s, .slice p.A.A p.A.n p.A.c, .int .i64 p.A.e] 39)
  have hMp : MBox (w_1.alloc (.cells #[.bool p.S.s, .slice p.S.A p.S.n p.S.c, .int .i64 p.S.e, .bool p.W.s, .slice p.W.A p.W.n p.W.c, .int .i64 p.W.e, .bool p.C.s, .slice p.C.A p.C.n p.C.c, .int .i64 p.C.e, .bool p.A.s, .slice p.A.A p.A.n p.A.c, .int .i64 p.A.e] 39)) w_1.heap.size p := heap_alloc_last _ _
  have mw_2 : w_1.heap.size < (w_1.alloc (.cells #[.bool p.S.s, .slice p.S.A p.S.n p.S.c, .int .i64 p.S.e, .bool p.W.s, .slice p.W.A p.W.n p.W.c, .int .i64 p.W.e, .bool p.C.s, .slice p.C.A p.C.n p.C.c, .int .i64 p.C.e, .bool p.A.s, .slice p.A.A p.A.n p.A.c, .int .i64 p.A.e] 39)).heap.size := by simp
  generalize hww_2 : w_1.alloc (.cells #[.bool p.S.s, .slice p.S.A p.S.n p.S.c, .int .i64 p.S.e, .bool p.W.s, .slice p.W.A p.W.n p.W.c, .int .i64 p.W.e, .bool p.C.s, .slice p.C.A p.C.n p.C.c, .int .i64 p.C.e, .bool p.A.s, .slice p.A.A p.A.n p.A.c, .int .i64 p.A.e] 39) = w_2 at *
  have lw_2 : w_1.heap.size ≤ w_2.heap.size := hB.size
  replace a_ := Amid.on a_ hB
  clear hB
  go_wp2_with fail
  refine (MSeed_ok w_2 (-2147483647) (by decide) (by decide) false).mono ?_
  rintro e' w_3 ⟨m, rfl, hB, hm⟩
  have lw_3 : w_2.heap.size ≤ w_3.heap.size := hB.size
  replace hMp := box_on hMp hB (by omega)
  replace a_ := Amid.on a_ hB
  try clear hww_2
  have Rm := MRows.more (rows_res hm) (Nat.zero_le _) (Nat.le_refl _)
  have Hm := Lib.hid (show IsM (seedD (-2147483647) false) m from fun x hx => (hm x hx).is)
  clear hm
  clear hB
  have hB := (Below.refl w_3.heap.size w_3).alloc (Nat.le_refl _) (.cells #[.bool m.S.s, .slice m.S.A m.S.n m.S.c, .int .i64 m.S.e, .bool m.W.s, .slice m.W.A m.W.n m.W.c, .int .i64 m.W.e, .bool m.C.s, .slice m.C.A m.C.n m.C.c, .int .i64 m.C.e, .bool m.A.s, .slice m.A.A m.A.n m.A.c, .int .i64 m.A.e] 39)
  have hMm : MBox (w_3.alloc (.cells #[.bool m.S.s, .slice m.S.A m.S.n m.S.c, .int .i64 m.S.e, .bool m.W.s, .slice m.W.A m.W.n m.W.c, .int .i64 m.W.e, .bool m.C.s, .slice m.C.A m.C.n m.C.c, .int .i64 m.C.e, .bool m.A.s, .slice m.A.A m.A.n m.A.c, .int .i64 m.A.e] 39)) w_3.heap.size m := heap_alloc_last _ _
  have mw_4 : w_3.heap.size < (w_3.alloc (.cells #[.bool m.S.s, .slice m.S.A m.S.n m.S.c, .int .i64 m.S.e, .bool m.W.s, .slice m.W.A m.W.n m.W.c, .int .i64 m.W.e, .bool m.C.s, .slice m.C.A m.C.n m.C.c, .int .i64 m.C.e, .bool m.A.s, .slice m.A.A m.A.n m.A.c, .int .i64 m.A.e] 39)).heap.size := by simp
  generalize hww_4 : w_3.alloc (.cells #[.bool m.S.s, .slice m.S.A m.S.n m.S.c, .int .i64 m.S.e, .bool m.W.s, .slice m.W.A m.W.n m.W.c, .int .i64 m.W.e, .bool m.C.s, .slice m.C.A m.C.n m.C.c, .int .i64 m.C.e, .bool m.A.s, .slice m.A.A m.A.n m.A.c, .int .i64 m.A.e] 39) = w_4 at *
  have lw_4 : w_3.heap.size ≤ w_4.heap.size := hB.size
  replace hMp := box_on hMp hB (by omega)
  replace Rm := MRows.on Rm hB
  replace a_ := Amid.on a_ hB
  clear hB
  go_wp2_with fail
  try clear hww_4
  generalize hww_5 : (w_4.alloc (.cells #[.int .u32 1] 52)).alloc (.cells #[.bool false, .slice none 0 0, .int .i64 0, .bool false, .slice (some ⟨w_4.heap.size, 0, none⟩) 1 1, .int .i64 1024, .bool false, .slice none 0 0, .int .i64 0, .bool false, .slice none 0 0, .int .i64 0] 39) = w_5 at *
  obtain ⟨X1, X2, hB, low_5, hiw_5⟩ := boxes2 w_4 _ _ hww_5
  replace hB : Below w_4.heap.size w_4 w_5 := hB
  have lw_5 : w_4.heap.size ≤ w_5.heap.size := hB.size
  replace hMp := box_on hMp hB (by omega)
  replace hMm := box_on hMm hB (by omega)
  replace Rm := MRows.on Rm hB
  replace a_ := Amid.on a_ hB
  obtain ⟨T, hTe⟩ : ∃ T : Mv, T = ⟨⟨false, none, 0, 0, 0, []⟩, ⟨false, some ⟨w_4.heap.size, 0, none⟩, 1, 1, 1024, [1]⟩, ⟨false, none, 0, 0, 0, []⟩, ⟨false, none, 0, 0, 0, []⟩⟩ := ⟨_, rfl⟩
  have hMt : MBox w_5 (w_4.heap.size + 1) T := by rw [hTe]; exact X2
  have I1 : Ints w_5 0 w_5.heap.size .u32 (some ⟨w_4.heap.size, 0, none⟩) 1 [1] := ⟨rfl, by decide, by decide, fun _ => ⟨_, 0, rfl, Nat.zero_le _, by omega, fun j hj => by
    obtain rfl : j = 0 := by omega
    exact ⟨cell_of_row _ _ 0 _ _ _ X1, frozen_of_row _ _ 0 _ _ X1⟩⟩⟩
  have Rt : MRows w_5 0 w_5.heap.size T := by rw [hTe]; exact ⟨Ints.nil_ .., I1, Ints.nil_ .., Ints.nil_ ..⟩
  have hsp := tiny_split (some ⟨w_4.heap.size, 0, none⟩)
  rw [← hTe] at hsp
  have HSP := Lib.hid hsp.1
  have HCK := Lib.hid (chk_may hsp.2)
  have HTE := Lib.hid hTe
  clear hsp hTe hB X1 X2 I1
  refine (MSplit_num w_5 ⟨⟨false, none, 0, 0, 0, []⟩, ⟨false, some ⟨w_4.heap.size, 0, none⟩, 1, 1, 1024, [1]⟩, ⟨false, none, 0, 0, 0, []⟩, ⟨false, none, 0, 0, 0, []⟩⟩ (by rw [← HTE.out]; exact Rt) a_.tab zR zR 10 (by rw [← HTE.out]; exact HSP.out)).mono ?_
  rintro e' w_6 ⟨k, s, rfl, hB, hsC, hsI, hkI, B, lb1, lb2, rS, rK⟩
  have lw_6 : w_5.heap.size ≤ w_6.heap.size := hB.size
  replace hMp := box_on hMp hB (by omega)
  replace hMm := box_on hMm hB (by omega)
  replace hMt := box_on hMt hB (by omega)
  replace Rm := MRows.on Rm hB
  replace Rt := MRows.on Rt hB
  replace a_ := Amid.on a_ hB
  try clear hww_5
  clear hsC hsI hkI rS rK
  clear hB
  generalize hww_7 : (w_6.alloc (.cells #[.bool k.S.s, .slice k.S.A k.S.n k.S.c, .int .i64 k.S.e, .bool k.W.s, .slice k.W.A k.W.n k.W.c, .int .i64 k.W.e, .bool k.C.s, .slice k.C.A k.C.n k.C.c, .int .i64 k.C.e, .bool k.A.s, .slice k.A.A k.A.n k.A.c, .int .i64 k.A.e] 39)).alloc (.cells #[.bool s.S.s, .slice s.S.A s.S.n s.S.c, .int .i64 s.S.e, .bool s.W.s, .slice s.W.A s.W.n s.W.c, .int .i64 s.W.e, .bool s.C.s, .slice s.C.A s.C.n s.C.c, .int .i64 s.C.e, .bool s.A.s, .slice s.A.A s.A.n s.A.c, .int .i64 s.A.e] 39) = w_7 at *
  obtain ⟨hMk, hMs, hB, low_7, hiw_7⟩ := boxes2 w_6 _ _ hww_7
  replace hB : Below w_6.heap.size w_6 w_7 := hB
  have lw_7 : w_6.heap.size ≤ w_7.heap.size := hB.size
  replace hMp := box_on hMp hB (by omega)
  replace hMm := box_on hMm hB (by omega)
  replace hMt := box_on hMt hB (by omega)
  replace Rm := MRows.on Rm hB
  replace Rt := MRows.on Rt hB
  replace a_ := Amid.on a_ hB
  replace hMk : MBox w_7 w_6.heap.size k := hMk
  replace hMs : MBox w_7 (w_6.heap.size + 1) s := hMs
  clear hB
  go_wp2_with fail
  try clear hww_7
  have hB := (Below.refl w_7.heap.size w_7).alloc (Nat.le_refl _) (.cells arr 39)
  generalize hww_8 : w_7.alloc (.cells arr 39) = w_8 at *
  have lw_8 : w_7.heap.size ≤ w_8.heap.size := hB.size
  replace hMp := box_on hMp hB (by omega)
  replace hMm := box_on hMm hB (by omega)
  replace hMt := box_on hMt hB (by omega)
  replace hMk := box_on hMk hB (by omega)
  replace hMs := box_on hMs hB (by omega)
  replace Rm := MRows.on Rm hB
  replace Rt := MRows.on Rt hB
  replace a_ := Amid.on a_ hB
  clear hB
  refine (MSum_manym w_8 (some ⟨w_7.heap.size, 0, none⟩) 4097 4097 (by decide)).mono ?_
  rintro e' w_9 ⟨q, rfl, hB, hq, rq⟩
  have lw_9 : w_8.heap.size ≤ w_9.heap.size := hB.size
  replace hMp := box_on hMp hB (by omega)
  replace hMm := box_on hMm hB (by omega)
  replace hMt := box_on hMt hB (by omega)
  replace hMk := box_on hMk hB (by omega)
  replace hMs := box_on hMs hB (by omega)
  replace Rm := MRows.on Rm hB
  replace Rt := MRows.on Rt hB
  replace a_ := Amid.on a_ hB
  try clear hww_8
  clear hq rq
  clear hB
  have hB := (Below.refl w_9.heap.size w_9).alloc (Nat.le_refl _) (.cells #[.bool q.S.s, .slice q.S.A q.S.n q.S.c, .int .i64 q.S.e, .bool q.W.s, .slice q.W.A q.W.n q.W.c, .int .i64 q.W.e, .bool q.C.s, .slice q.C.A q.C.n q.C.c, .int .i64 q.C.e, .bool q.A.s, .slice q.A.A q.A.n q.A.c, .int .i64 q.A.e] 39)
  have hMq : MBox (w_9.alloc (.cells #[.bool q.S.s, .slice q.S.A q.S.n q.S.c, .int .i64 q.S.e, .bool q.W.s, .slice q.W.A q.W.n q.W.c, .int .i64 q.W.e, .bool q.C.s, .slice q.C.A q.C.n q.C.c, .int .i64 q.C.e, .bool q.A.s, .slice q.A.A q.A.n q.A.c, .int .i64 q.A.e] 39)) w_9.heap.size q := heap_alloc_last _ _
  have mw_10 : w_9.heap.size < (w_9.alloc (.cells #[.bool q.S.s, .slice q.S.A q.S.n q.S.c, .int .i64 q.S.e, .bool q.W.s, .slice q.W.A q.W.n q.W.c, .int .i64 q.W.e, .bool q.C.s, .slice q.C.A q.C.n q.C.c, .int .i64 q.C.e, .bool q.A.s, .slice q.A.A q.A.n q.A.c, .int .i64 q.A.e] 39)).heap.size := by simp
  generalize hww_10 : w_9.alloc (.cells #[.bool q.S.s, .slice q.S.A q.S.n q.S.c, .int .i64 q.S.e, .bool q.W.s, .slice q.W.A q.W.n q.W.c, .int .i64 q.W.e, .bool q.C.s, .slice q.C.A q.C.n q.C.c, .int .i64 q.C.e, .bool q.A.s, .slice q.A.A q.A.n q.A.c, .int .i64 q.A.e] 39) = w_10 at *
  have lw_10 : w_9.heap.size ≤ w_10.heap.size := hB.size
  replace hMp := box_on hMp hB (by omega)
  replace hMm := box_on hMm hB (by omega)
  replace hMt := box_on hMt hB (by omega)
  replace hMk := box_on hMk hB (by omega)
  replace hMs := box_on hMs hB (by omega)
  replace Rm := MRows.on Rm hB
  replace Rt := MRows.on Rt hB
  replace a_ := Amid.on a_ hB
  clear hB
  go_wp2_with fail
  refine (MSum_any w_10 none 0 0 [] ⟨rfl, by decide, fun h => absurd h (by decide), fun j hj => absurd hj (Nat.not_lt_zero _)⟩ (by decide) a_.tab zR 0 sum_nil).mono ?_
  rintro e' w_11 ⟨z, rfl, hB, hz, rz⟩
  have lw_11 : w_10.heap.size ≤ w_11.heap.size := hB.size
  replace hMp := box_on hMp hB (by omega)
  replace hMm := box_on hMm hB (by omega)
  replace hMt := box_on hMt hB (by omega)
  replace hMk := box_on hMk hB (by omega)
  replace hMs := box_on hMs hB (by omega)
  replace hMq := box_on hMq hB (by omega)
  replace Rm := MRows.on Rm hB
  replace Rt := MRows.on Rt hB
  replace a_ := Amid.on a_ hB
  try clear hww_10
  have Rz := MRows.more rz (Nat.zero_le _) (Nat.le_refl _)
  clear rz
  replace hz := Lib.hid hz
  clear hB
  have hB := (Below.refl w_11.heap.size w_11).alloc (Nat.le_refl _) (.cells #[.bool z.S.s, .slice z.S.A z.S.n z.S.c, .int .i64 z.S.e, .bool z.W.s, .slice z.W.A z.W.n z.W.c, .int .i64 z.W.e, .bool z.C.s, .slice z.C.A z.C.n z.C.c, .int .i64 z.C.e, .bool z.A.s, .slice z.A.A z.A.n z.A.c, .int .i64 z.A.e] 39)
  have hMz : MBox (w_11.alloc (.cells #[.bool z.S.s, .slice z.S.A z.S.n z.S.c, .int .i64 z.S.e, .bool z.W.s, .slice z.W.A z.W.n z.W.c, .int .i64 z.W.e, .bool z.C.s, .slice z.C.A z.C.n z.C.c, .int .i64 z.C.e, .bool z.A.s, .slice z.A.A z.A.n z.A.c, .int .i64 z.A.e] 39)) w_11.heap.size z := heap_alloc_last _ _
  have mw_12 : w_11.heap.size < (w_11.alloc (.cells #[.bool z.S.s, .slice z.S.A z.S.n z.S.c, .int .i64 z.S.e, .bool z.W.s, .slice z.W.A z.W.n z.W.c, .int .i64 z.W.e, .bool z.C.s, .slice z.C.A z.C.n z.C.c, .int .i64 z.C.e, .bool z.A.s, .slice z.A.A z.A.n z.A.c, .int .i64 z.A.e] 39)).heap.size := by simp
  generalize hww_12 : w_11.alloc (.cells #[.bool z.S.s, .slice z.S.A z.S.n z.S.c, .int .i64 z.S.e, .bool z.W.s, .slice z.W.A z.W.n z.W.c, .int .i64 z.W.e, .bool z.C.s, .slice z.C.A z.C.n z.C.c, .int .i64 z.C.e, .bool z.A.s, .slice z.A.A z.A.n z.A.c, .int .i64 z.A.e] 39) = w_12 at *
  have lw_12 : w_11.heap.size ≤ w_12.heap.size := hB.size
  replace hMp := box_on hMp hB (by omega)
  replace hMm := box_on hMm hB (by omega)
  replace hMt := box_on hMt hB (by omega)
  replace hMk := box_on hMk hB (by omega)
  replace hMs := box_on hMs hB (by omega)
  replace hMq := box_on hMq hB (by omega)
  replace Rm := MRows.on Rm hB
  replace Rt := MRows.on Rt hB
  replace Rz := MRows.on Rz hB
  replace a_ := Amid.on a_ hB
  clear hB
  obtain ⟨⟨q_13_0, q_13_1, q_13_2, q_13_3, q_13_4, q_13_5, q_13_6, q_13_7, q_13_8, q_13_9, q_13_10, q_13_11⟩, q_13f⟩ := MBox.cells hMm
  go_wp2_with fail
  refine (MAdd_num w_12 m ⟨⟨false, none, 0, 0, 0, []⟩, ⟨false, none, 0, 0, 0, []⟩, ⟨false, none, 0, 0, 1, []⟩, ⟨false, none, 0, 0, 0, []⟩⟩ Rm ⟨Ints.nil_ .., Ints.nil_ .., Ints.nil_ .., Ints.nil_ ..⟩ a_.tab zR 8 (add_bad m)).mono ?_
  rintro e' w_14 ⟨j, rfl, hB, hj, rj⟩
  clear q_13_0 q_13_1 q_13_2 q_13_3 q_13_4 q_13_5 q_13_6 q_13_7 q_13_8 q_13_9 q_13_10 q_13_11 q_13f
  have lw_14 : w_12.heap.size ≤ w_14.heap.size := hB.size
  replace hMp := box_on hMp hB (by omega)
  replace hMm := box_on hMm hB (by omega)
  replace hMt := box_on hMt hB (by omega)
  replace hMk := box_on hMk hB (by omega)
  replace hMs := box_on hMs hB (by omega)
  replace hMq := box_on hMq hB (by omega)
  replace hMz := box_on hMz hB (by omega)
  replace Rm := MRows.on Rm hB
  replace Rt := MRows.on Rt hB
  replace Rz := MRows.on Rz hB
  replace a_ := Amid.on a_ hB
  try clear hww_12
  clear hj rj
  clear hB
  have hB := (Below.refl w_14.heap.size w_14).alloc (Nat.le_refl _) (.cells #[.bool j.S.s, .slice j.S.A j.S.n j.S.c, .int .i64 j.S.e, .bool j.W.s, .slice j.W.A j.W.n j.W.c, .int .i64 j.W.e, .bool j.C.s, .slice j.C.A j.C.n j.C.c, .int .i64 j.C.e, .bool j.A.s, .slice j.A.A j.A.n j.A.c, .int .i64 j.A.e] 39)
  have hMj : MBox (w_14.alloc (.cells #[.bool j.S.s, .slice j.S.A j.S.n j.S.c, .int .i64 j.S.e, .bool j.W.s, .slice j.W.A j.W.n j.W.c, .int .i64 j.W.e, .bool j.C.s, .slice j.C.A j.C.n j.C.c, .int .i64 j.C.e, .bool j.A.s, .slice j.A.A j.A.n j.A.c, .int .i64 j.A.e] 39)) w_14.heap.size j := heap_alloc_last _ _
  have mw_15 : w_14.heap.size < (w_14.alloc (.cells #[.bool j.S.s, .slice j.S.A j.S.n j.S.c, .int .i64 j.S.e, .bool j.W.s, .slice j.W.A j.W.n j.W.c, .int .i64 j.W.e, .bool j.C.s, .slice j.C.A j.C.n j.C.c, .int .i64 j.C.e, .bool j.A.s, .slice j.A.A j.A.n j.A.c, .int .i64 j.A.e] 39)).heap.size := by simp
  generalize hww_15 : w_14.alloc (.cells #[.bool j.S.s, .slice j.S.A j.S.n j.S.c, .int .i64 j.S.e, .bool j.W.s, .slice j.W.A j.W.n j.W.c, .int .i64 j.W.e, .bool j.C.s, .slice j.C.A j.C.n j.C.c, .int .i64 j.C.e, .bool j.A.s, .slice j.A.A j.A.n j.A.c, .int .i64 j.A.e] 39) = w_15 at *
  have lw_15 : w_14.heap.size ≤ w_15.heap.size := hB.size
  replace hMp := box_on hMp hB (by omega)
  replace hMm := box_on hMm hB (by omega)
  replace hMt := box_on hMt hB (by omega)
  replace hMk := box_on hMk hB (by omega)
  replace hMs := box_on hMs hB (by omega)
  replace hMq := box_on hMq hB (by omega)
  replace hMz := box_on hMz hB (by omega)
  replace Rm := MRows.on Rm hB
  replace Rt := MRows.on Rt hB
  replace Rz := MRows.on Rz hB
  replace a_ := Amid.on a_ hB
  clear hB
  go_wp2_with fail
  refine (aliveM_any w_15 a_.tab).mono ?_
  rintro e' w_16 ⟨rfl, hB⟩
  have lw_16 : w_15.heap.size ≤ w_16.heap.size := hB.size
  replace hMp := box_on hMp hB (by omega)
  replace hMm := box_on hMm hB (by omega)
  replace hMt := box_on hMt hB (by omega)
  replace hMk := box_on hMk hB (by omega)
  replace hMs := box_on hMs hB (by omega)
  replace hMq := box_on hMq hB (by omega)
  replace hMz := box_on hMz hB (by omega)
  replace hMj := box_on hMj hB (by omega)
  replace Rm := MRows.on Rm hB
  replace Rt := MRows.on Rt hB
  replace Rz := MRows.on Rz hB
  replace a_ := Amid.on a_ hB
  try clear hww_15
  clear hB
  have v1 : m.S.s = true := (Hm.out 0 (by decide)).1
  have v2 : m.C.n = 0 := by
    have a1 := (MRows.get Rm 2).len
    have a2 : m.C.xs = [] := (Hm.out 2 (by decide)).2.2
    have a3 : m.C.xs.length = m.C.n := a1
    rw [a2] at a3
    exact a3.symm
  obtain ⟨⟨q_17_0, q_17_1, q_17_2, q_17_3, q_17_4, q_17_5, q_17_6, q_17_7, q_17_8, q_17_9, q_17_10, q_17_11⟩, q_17f⟩ := MBox.cells hMm
  obtain ⟨⟨q_18_0, q_18_1, q_18_2, q_18_3, q_18_4, q_18_5, q_18_6, q_18_7, q_18_8, q_18_9, q_18_10, q_18_11⟩, q_18f⟩ := MBox.cells hMz
  go_wp2_with fail
  refine (MSame_any w_16 z ZM Rz (ZM_rows ..) true (hz.out.same IsM.zero)).mono ?_
  rintro e' w_19 ⟨rfl, hB⟩
  clear q_17_0 q_17_1 q_17_2 q_17_3 q_17_4 q_17_5 q_17_6 q_17_7 q_17_8 q_17_9 q_17_10 q_17_11 q_17f q_18_0 q_18_1 q_18_2 q_18_3 q_18_4 q_18_5 q_18_6 q_18_7 q_18_8 q_18_9 q_18_10 q_18_11 q_18f
  have lw_19 : w_16.heap.size ≤ w_19.heap.size := hB.size
  replace hMp := box_on hMp hB (by omega)
  replace hMm := box_on hMm hB (by omega)
  replace hMt := box_on hMt hB (by omega)
  replace hMk := box_on hMk hB (by omega)
  replace hMs := box_on hMs hB (by omega)
  replace hMq := box_on hMq hB (by omega)
  replace hMz := box_on hMz hB (by omega)
  replace hMj := box_on hMj hB (by omega)
  replace Rm := MRows.on Rm hB
  replace Rt := MRows.on Rt hB
  replace Rz := MRows.on Rz hB
  replace a_ := Amid.on a_ hB
  clear hB
  obtain ⟨⟨q_20_0, q_20_1, q_20_2, q_20_3, q_20_4, q_20_5, q_20_6, q_20_7, q_20_8, q_20_9, q_20_10, q_20_11⟩, q_20f⟩ := MBox.cells hMt
  go_wp2_with fail
  refine (MCheck_any w_19 T Rt 0 HCK.out).mono ?_
  rintro e' w_21 ⟨rfl, hB⟩
  clear q_20_0 q_20_1 q_20_2 q_20_3 q_20_4 q_20_5 q_20_6 q_20_7 q_20_8 q_20_9 q_20_10 q_20_11 q_20f
  have lw_21 : w_19.heap.size ≤ w_21.heap.size := hB.size
  replace hMp := box_on hMp hB (by omega)
  replace hMm := box_on hMm hB (by omega)
  replace hMt := box_on hMt hB (by omega)
  replace hMk := box_on hMk hB (by omega)
  replace hMs := box_on hMs hB (by omega)
  replace hMq := box_on hMq hB (by omega)
  replace hMz := box_on hMz hB (by omega)
  replace hMj := box_on hMj hB (by omega)
  replace Rm := MRows.on Rm hB
  replace Rt := MRows.on Rt hB
  replace Rz := MRows.on Rz hB
  replace a_ := Amid.on a_ hB
  clear hB
  go_wp2
  go_ret
  exact ⟨rfl, a_.below⟩
end Ma
end Go.Proofs.YtlbkepiflhchdaaDoor

namespace Go.Proofs.YtlbkepiflhchdaaDoor
open Go.ChangeShapes Go.WideShapes Go.ChangeAt Go.RowKit

set_option maxRecDepth 100000 in
theorem massNames_lifted (os : Os) (started : os.Started) (H : Type) (enc : TypeId × Value → H) :
    ReturnsInHanded {} Tryd.checked os 13 .any (fun w args => (Rows.massNamesSpec.pre enc Tryd.prog Tryd.f13 [] false w args ∧ laidMetH Tryd.prog Dy.laidT w) ∧ sizedMet enc Tryd.prog Tryd.f13 (OpenSpec.ofChange Rows.massNamesSpec) false w args)
      (Rows.massNamesSpec.post enc Tryd.prog Tryd.f13 false true false false) := by
  refine returnsInHanded_of_change_and (C := Tryd.checked) (X := fun w _ => laidMetH Tryd.prog Dy.laidT w) (fun _ _ _ hh h => h.of_heap hh) Dy.ownKnob_ started (by kernel_rfl) Tryd.func13
    (ChangeSpec.witness_shaped (enc := enc) (C := Tryd.checked) (os := os) (X := fun w _ => laidMetH Tryd.prog Dy.laidT w) false (World.doorLaid Tryd.prog 400 os) #[] 8 rfl (Dy.door_shaped os _) (by kernel_rfl) (by kernel_rfl) (by kernel_rfl) (Dy.door_met os _)) ?_
  intro W base args ds gs before hval0 hW _ _ hL _
  have hval : ∀ (j : Nat) t v, Tryd.f13.params[j]? = some t → args[j]? = some v → Value.okWide Tryd.prog W .any base t v := hval0
  have hW' := hW
  obtain ⟨p, q, hA0, hV, rfl, hfz, hnd⟩ := hW
  have hlt := hW'.lt
  have hA : DataW.TrodAll enc Tryd.prog W 0 (fun _ => true) true Tryd.f13.params.toList args.toList ds p := hA0
  rw [Tryd.params13] at hA hval
  obtain ⟨rfl, rfl, rfl⟩ := trodAll_none hA
  obtain ⟨rfl, rfl⟩ := trodVars_none hV
  exact (Ma.names_walk W  (Dy.tab_of_laid hL)).mono fun e W' ⟨he, hb⟩ => ⟨_, he, law_post hW' rfl Tryd.laidOut (by kernel_rfl) (tb := 4) (by kernel_rfl) Tryd.underlying4 rfl rfl rfl hb⟩

theorem massNames_row : Rows.MassNamesSaid :=
  OpenClaim.holds_of_wide 13 Tryd.f13 rfl rfl rfl rfl rfl rfl rfl ⟨rfl, rfl, rfl, rfl, rfl⟩ rfl rfl rfl rfl rfl (by kernel_rfl) Tryd.func13 (by kernel_rfl)
    (of_decide_eq_true (by kernel_rfl)) (by unfold Func.isWrapper; first | (rw [if_pos (by decide +kernel)]; kernel_rfl) | (rw [if_neg (by decide +kernel)]; exact ⟨rfl, rfl⟩))
    (fun os started H enc _ => massNames_lifted os started H enc)
theorem massNames_holds : Rows.MassNamesCardSaid :=
  Claim7.holds_tied_plain_at .later [] [.data] true Rows.massNamesCard.stood.harness false
    massNames_row (fun _ h => by cases h) (by kernel_rfl) (fun _ h => by cases h) massNames_row_tie rfl ⟨rfl, rfl⟩ (by kernel_rfl) rfl
    (fun f fn hf hfn => by
      obtain rfl : f = 13 := Option.some.inj ((show Tryd.prog.funcNamed "headcount/headcountlaw06.MassNames" = some 13 by kernel_rfl).symm.trans hf) |>.symm
      obtain rfl : fn = Tryd.f13 := (Option.some.inj (Tryd.func13.symm.trans hfn)).symm
      exact ⟨by kernel_rfl, fun j t ht => by
        rw [Tryd.params13] at ht
        simp at ht⟩)
    (by kernel_rfl)
#print axioms massNames_holds
end Go.Proofs.YtlbkepiflhchdaaDoor
