/- The law MassGroup: a walk (printed by a program of mine). -/
/- The statement MassGroup is proved, tied to the program's text: for every input the law answers true and leaves it as it was. No conditions. -/
import Derived.Test.YtlbkepiflhchdaaDoorBn23
import Derived.Test.YtlbkepiflhchdaaDoorBn25
import Derived.Test.YtlbkepiflhchdaaDoorBn09
import Derived.Test.YtlbkepiflhchdaaDoorBn24
import Derived.Test.YtlbkepiflhchdaaDoorCards
import Derived.Test.YtlbkepiflhchdaaDoorTie
import Derived.SevenTiedAt
namespace Go.Proofs.YtlbkepiflhchdaaDoor
open Go.RowKit
namespace Ma
open Dp Dy
theorem lms_three (w : World) (a b c : Mv) (ha : MRows w 0 w.heap.size a) (hb : MRows w 0 w.heap.size b) (hc : MRows w 0 w.heap.size c) {W : World} (hW : w.alloc (.cells #[.bool a.S.s, .slice a.S.A a.S.n a.S.c, .int .i64 a.S.e, .bool a.W.s, .slice a.W.A a.W.n a.W.c, .int .i64 a.W.e, .bool a.C.s, .slice a.C.A a.C.n a.C.c, .int .i64 a.C.e, .bool a.A.s, .slice a.A.A a.A.n a.A.c, .int .i64 a.A.e, .bool b.S.s, .slice b.S.A b.S.n b.S.c, .int .i64 b.S.e, .bool b.W.s, .slice b.W.A b.W.n b.W.c, .int .i64 b.W.e, .bool b.C.s, .slice b.C.A b.C.n b.C.c, .int .i64 b.C.e, .bool b.A.s, .slice b.A.A b.A.n b.A.c, .int .i64 b.A.e, .bool c.S.s, .slice c.S.A c.S.n c.S.c, .int .i64 c.S.e, .bool c.W.s, .slice c.W.A c.W.n c.W.c, .int .i64 c.W.e, .bool c.C.s, .slice c.C.A c.C.n c.C.c, .int .i64 c.C.e, .bool c.A.s, .slice c.A.A c.A.n c.A.c, .int .i64 c.A.e] 39) = W) :
    LMs W 0 W.heap.size (some ⟨w.heap.size, 0, none⟩) 3 [a, b, c] := by
  subst hW
  have hB := (Below.refl w.heap.size w).alloc (Nat.le_refl _) (.cells #[.bool a.S.s, .slice a.S.A a.S.n a.S.c, .int .i64 a.S.e, .bool a.W.s, .slice a.W.A a.W.n a.W.c, .int .i64 a.W.e, .bool a.C.s, .slice a.C.A a.C.n a.C.c, .int .i64 a.C.e, .bool a.A.s, .slice a.A.A a.A.n a.A.c, .int .i64 a.A.e, .bool b.S.s, .slice b.S.A b.S.n b.S.c, .int .i64 b.S.e, .bool b.W.s, .slice b.W.A b.W.n b.W.c, .int .i64 b.W.e, .bool b.C.s, .slice b.C.A b.C.n b.C.c, .int .i64 b.C.e, .bool b.A.s, .slice b.A.A b.A.n b.A.c, .int .i64 b.A.e, .bool c.S.s, .slice c.S.A c.S.n c.S.c, .int .i64 c.S.e, .bool c.W.s, .slice c.W.A c.W.n c.W.c, .int .i64 c.W.e, .bool c.C.s, .slice c.C.A c.C.n c.C.c, .int .i64 c.C.e, .bool c.A.s, .slice c.A.A c.A.n c.A.c, .int .i64 c.A.e] 39)
  have hX := heap_alloc_last w (.cells #[.bool a.S.s, .slice a.S.A a.S.n a.S.c, .int .i64 a.S.e, .bool a.W.s, .slice a.W.A a.W.n a.W.c, .int .i64 a.W.e, .bool a.C.s, .slice a.C.A a.C.n a.C.c, .int .i64 a.C.e, .bool a.A.s, .slice a.A.A a.A.n a.A.c, .int .i64 a.A.e, .bool b.S.s, .slice b.S.A b.S.n b.S.c, .int .i64 b.S.e, .bool b.W.s, .slice b.W.A b.W.n b.W.c, .int .i64 b.W.e, .bool b.C.s, .slice b.C.A b.C.n b.C.c, .int .i64 b.C.e, .bool b.A.s, .slice b.A.A b.A.n b.A.c, .int .i64 b.A.e, .bool c.S.s, .slice c.S.A c.S.n c.S.c, .int .i64 c.S.e, .bool c.W.s, .slice c.W.A c.W.n c.W.c, .int .i64 c.W.e, .bool c.C.s, .slice c.C.A c.C.n c.C.c, .int .i64 c.C.e, .bool c.A.s, .slice c.A.A c.A.n c.A.c, .int .i64 c.A.e] 39)
  have hk : ∀ k v, (#[.bool a.S.s, .slice a.S.A a.S.n a.S.c, .int .i64 a.S.e, .bool a.W.s, .slice a.W.A a.W.n a.W.c, .int .i64 a.W.e, .bool a.C.s, .slice a.C.A a.C.n a.C.c, .int .i64 a.C.e, .bool a.A.s, .slice a.A.A a.A.n a.A.c, .int .i64 a.A.e, .bool b.S.s, .slice b.S.A b.S.n b.S.c, .int .i64 b.S.e, .bool b.W.s, .slice b.W.A b.W.n b.W.c, .int .i64 b.W.e, .bool b.C.s, .slice b.C.A b.C.n b.C.c, .int .i64 b.C.e, .bool b.A.s, .slice b.A.A b.A.n b.A.c, .int .i64 b.A.e, .bool c.S.s, .slice c.S.A c.S.n c.S.c, .int .i64 c.S.e, .bool c.W.s, .slice c.W.A c.W.n c.W.c, .int .i64 c.W.e, .bool c.C.s, .slice c.C.A c.C.n c.C.c, .int .i64 c.C.e, .bool c.A.s, .slice c.A.A c.A.n c.A.c, .int .i64 c.A.e] : Array Value)[k]? = some v → (w.alloc (.cells #[.bool a.S.s, .slice a.S.A a.S.n a.S.c, .int .i64 a.S.e, .bool a.W.s, .slice a.W.A a.W.n a.W.c, .int .i64 a.W.e, .bool a.C.s, .slice a.C.A a.C.n a.C.c, .int .i64 a.C.e, .bool a.A.s, .slice a.A.A a.A.n a.A.c, .int .i64 a.A.e, .bool b.S.s, .slice b.S.A b.S.n b.S.c, .int .i64 b.S.e, .bool b.W.s, .slice b.W.A b.W.n b.W.c, .int .i64 b.W.e, .bool b.C.s, .slice b.C.A b.C.n b.C.c, .int .i64 b.C.e, .bool b.A.s, .slice b.A.A b.A.n b.A.c, .int .i64 b.A.e, .bool c.S.s, .slice c.S.A c.S.n c.S.c, .int .i64 c.S.e, .bool c.W.s, .slice c.W.A c.W.n c.W.c, .int .i64 c.W.e, .bool c.C.s, .slice c.C.A c.C.n c.C.c, .int .i64 c.C.e, .bool c.A.s, .slice c.A.A c.A.n c.A.c, .int .i64 c.A.e] 39)).cell? ⟨w.heap.size, k, none⟩ = some v := fun k v hk => by
    simp only [World.cell?, hX]
    simpa using hk
  refine ⟨rfl, by decide, fun _ => ⟨w.heap.size, 0, rfl, Nat.zero_le _, by simp, fun j hj => ?_⟩, fun j hj => ?_⟩
  · match j, hj with
    | 0, _ => exact ⟨hk _ _ rfl, hk _ _ rfl, hk _ _ rfl, hk _ _ rfl, hk _ _ rfl, hk _ _ rfl, hk _ _ rfl, hk _ _ rfl, hk _ _ rfl, hk _ _ rfl, hk _ _ rfl, hk _ _ rfl⟩
    | 1, _ => exact ⟨hk _ _ rfl, hk _ _ rfl, hk _ _ rfl, hk _ _ rfl, hk _ _ rfl, hk _ _ rfl, hk _ _ rfl, hk _ _ rfl, hk _ _ rfl, hk _ _ rfl, hk _ _ rfl, hk _ _ rfl⟩
    | 2, _ => exact ⟨hk _ _ rfl, hk _ _ rfl, hk _ _ rfl, hk _ _ rfl, hk _ _ rfl, hk _ _ rfl, hk _ _ rfl, hk _ _ rfl, hk _ _ rfl, hk _ _ rfl, hk _ _ rfl, hk _ _ rfl⟩
  · match j, hj with
    | 0, _ => exact ha.on hB
    | 1, _ => exact hb.on hB
    | 2, _ => exact hc.on hB
set_option maxHeartbeats 51200000 in
set_option maxRecDepth 100000 in
theorem group_walk (w : World) (a : Mv) (hA : MRows w 0 w.heap.size a) (b : Mv) (hBb : MRows w 0 w.heap.size b) (c : Mv) (hC : MRows w 0 w.heap.size c) (hT : Tab w) :
    Calls Tryd.prog 14 #[.agg #[.bool a.S.s, .slice a.S.A a.S.n a.S.c, .int .i64 a.S.e, .bool a.W.s, .slice a.W.A a.W.n a.W.c, .int .i64 a.W.e, .bool a.C.s, .slice a.C.A a.C.n a.C.c, .int .i64 a.C.e, .bool a.A.s, .slice a.A.A a.A.n a.A.c, .int .i64 a.A.e], .agg #[.bool b.S.s, .slice b.S.A b.S.n b.S.c, .int .i64 b.S.e, .bool b.W.s, .slice b.W.A b.W.n b.W.c, .int .i64 b.W.e, .bool b.C.s, .slice b.C.A b.C.n b.C.c, .int .i64 b.C.e, .bool b.A.s, .slice b.A.A b.A.n b.A.c, .int .i64 b.A.e], .agg #[.bool c.S.s, .slice c.S.A c.S.n c.S.c, .int .i64 c.S.e, .bool c.W.s, .slice c.W.A c.W.n c.W.c, .int .i64 c.W.e, .bool c.C.s, .slice c.C.A c.C.n c.C.c, .int .i64 c.C.e, .bool c.A.s, .slice c.A.A c.A.n c.A.c, .int .i64 c.A.e]] w (Yes w) := by
  generalize hw1 : ((w.alloc (.cells #[.bool a.S.s, .slice a.S.A a.S.n a.S.c, .int .i64 a.S.e, .bool a.W.s, .slice a.W.A a.W.n a.W.c, .int .i64 a.W.e, .bool a.C.s, .slice a.C.A a.C.n a.C.c, .int .i64 a.C.e, .bool a.A.s, .slice a.A.A a.A.n a.A.c, .int .i64 a.A.e] 39)).alloc (.cells #[.bool b.S.s, .slice b.S.A b.S.n b.S.c, .int .i64 b.S.e, .bool b.W.s, .slice b.W.A b.W.n b.W.c, .int .i64 b.W.e, .bool b.C.s, .slice b.C.A b.C.n b.C.c, .int .i64 b.C.e, .bool b.A.s, .slice b.A.A b.A.n b.A.c, .int .i64 b.A.e] 39)).alloc (.cells #[.bool c.S.s, .slice c.S.A c.S.n c.S.c, .int .i64 c.S.e, .bool c.W.s, .slice c.W.A c.W.n c.W.c, .int .i64 c.W.e, .bool c.C.s, .slice c.C.A c.C.n c.C.c, .int .i64 c.C.e, .bool c.A.s, .slice c.A.A c.A.n c.A.c, .int .i64 c.A.e] 39) = w1
  obtain ⟨hMa, hMb, hMc, hBL, lo1, hi1⟩ := boxes3 w _ _ _ hw1
  replace hMa : MBox w1 w.heap.size a := hMa
  replace hMb : MBox w1 (w.heap.size + 1) b := hMb
  replace hMc : MBox w1 (w.heap.size + 1 + 1) c := hMc
  have a_ : Amid w w1 := Amid.on ⟨Below.refl _ _, hT⟩ hBL
  have Ra : MRows w1 0 w1.heap.size a := hA.on hBL
  have Rb : MRows w1 0 w1.heap.size b := hBb.on hBL
  have Rc : MRows w1 0 w1.heap.size c := hC.on hBL
  have g0 := hT.lt
  obtain ⟨ga, hga⟩ : ∃ g, greatM a = g := ⟨_, rfl⟩
  obtain ⟨gb, hgb⟩ : ∃ g, greatM b = g := ⟨_, rfl⟩
  obtain ⟨gc, hgc⟩ : ∃ g, greatM c = g := ⟨_, rfl⟩
  obtain ⟨X, e, hx⟩ : ∃ X e, addM a b = (X, e) := ⟨_, _, rfl⟩
  have hy : addM b a = (X, e) := by rw [addM_comm]; exact hx
  have HGA := Lib.hid hga
  have HGB := Lib.hid hgb
  have HGC := Lib.hid hgc
  have HX := Lib.hid hx
  have HY := Lib.hid hy
  have hcs := Lib.hid (addM_codes hx)
  clear hga hgb hgc hx hy hBL
  go_enter Tryd.func14, Tryd.ntmps14
  go_wp2_with fail
  refine (aliveM_any w1 a_.tab).mono ?_
  rintro e' w_1 ⟨rfl, hB⟩
  have lw_1 : w1.heap.size ≤ w_1.heap.size := hB.size
  replace hMa := box_on hMa hB (by omega)
  replace hMb := box_on hMb hB (by omega)
  replace hMc := box_on hMc hB (by omega)
  replace Ra := MRows.on Ra hB
  replace Rb := MRows.on Rb hB
  replace Rc := MRows.on Rc hB
  replace a_ := Amid.on a_ hB
  clear hB
  try clear hw1
  obtain ⟨⟨q_2_0, q_2_1, q_2_2, q_2_3, q_2_4, q_2_5, q_2_6, q_2_7, q_2_8, q_2_9, q_2_10, q_2_11⟩, q_2f⟩ := MBox.cells hMa
  go_wp2_with fail
  refine (RGreat_any w_1 a Ra ga HGA.out).mono ?_
  rintro e' w_3 ⟨rfl, hB⟩
  clear q_2_0 q_2_1 q_2_2 q_2_3 q_2_4 q_2_5 q_2_6 q_2_7 q_2_8 q_2_9 q_2_10 q_2_11 q_2f
  have lw_3 : w_1.heap.size ≤ w_3.heap.size := hB.size
  replace hMa := box_on hMa hB (by omega)
  replace hMb := box_on hMb hB (by omega)
  replace hMc := box_on hMc hB (by omega)
  replace Ra := MRows.on Ra hB
  replace Rb := MRows.on Rb hB
  replace Rc := MRows.on Rc hB
  replace a_ := Amid.on a_ hB
  clear hB
  cases ga
  rotate_left
  · go_wp2
    go_ret
    exact ⟨rfl, a_.below⟩
  · skip
    obtain ⟨⟨q_4_0, q_4_1, q_4_2, q_4_3, q_4_4, q_4_5, q_4_6, q_4_7, q_4_8, q_4_9, q_4_10, q_4_11⟩, q_4f⟩ := MBox.cells hMb
    go_wp2_with fail
    refine (RGreat_any w_3 b Rb gb HGB.out).mono ?_
    rintro e' w_5 ⟨rfl, hB⟩
    clear q_4_0 q_4_1 q_4_2 q_4_3 q_4_4 q_4_5 q_4_6 q_4_7 q_4_8 q_4_9 q_4_10 q_4_11 q_4f
    have lw_5 : w_3.heap.size ≤ w_5.heap.size := hB.size
    replace hMa := box_on hMa hB (by omega)
    replace hMb := box_on hMb hB (by omega)
    replace hMc := box_on hMc hB (by omega)
    replace Ra := MRows.on Ra hB
    replace Rb := MRows.on Rb hB
    replace Rc := MRows.on Rc hB
    replace a_ := Amid.on a_ hB
    clear hB
    cases gb
    rotate_left
    · go_wp2
      go_ret
      exact ⟨rfl, a_.below⟩
    · skip
      obtain ⟨⟨q_6_0, q_6_1, q_6_2, q_6_3, q_6_4, q_6_5, q_6_6, q_6_7, q_6_8, q_6_9, q_6_10, q_6_11⟩, q_6f⟩ := MBox.cells hMc
      go_wp2_with fail
      refine (RGreat_any w_5 c Rc gc HGC.out).mono ?_
      rintro e' w_7 ⟨rfl, hB⟩
      clear q_6_0 q_6_1 q_6_2 q_6_3 q_6_4 q_6_5 q_6_6 q_6_7 q_6_8 q_6_9 q_6_10 q_6_11 q_6f
      have lw_7 : w_5.heap.size ≤ w_7.heap.size := hB.size
      replace hMa := box_on hMa hB (by omega)
      replace hMb := box_on hMb hB (by omega)
      replace hMc := box_on hMc hB (by omega)
      replace Ra := MRows.on Ra hB
      replace Rb := MRows.on Rb hB
      replace Rc := MRows.on Rc hB
      replace a_ := Amid.on a_ hB
      clear hB
      cases gc
      rotate_left
      · go_wp2
        go_ret
        exact ⟨rfl, a_.below⟩
      · skip
        rcases hcs.out with rfl | ⟨rfl, hn, rfl⟩ | ⟨rfl, hn, rfl⟩
        · skip
          obtain ⟨⟨q_8_0, q_8_1, q_8_2, q_8_3, q_8_4, q_8_5, q_8_6, q_8_7, q_8_8, q_8_9, q_8_10, q_8_11⟩, q_8f⟩ := MBox.cells hMa
          obtain ⟨⟨q_9_0, q_9_1, q_9_2, q_9_3, q_9_4, q_9_5, q_9_6, q_9_7, q_9_8, q_9_9, q_9_10, q_9_11⟩, q_9f⟩ := MBox.cells hMb
          go_wp2_with fail
          refine (MAdd_num w_7 a b Ra Rb a_.tab X 0 HX.out).mono ?_
          rintro e' w_10 ⟨x, rfl, hB, hx, rx⟩
          clear q_8_0 q_8_1 q_8_2 q_8_3 q_8_4 q_8_5 q_8_6 q_8_7 q_8_8 q_8_9 q_8_10 q_8_11 q_8f q_9_0 q_9_1 q_9_2 q_9_3 q_9_4 q_9_5 q_9_6 q_9_7 q_9_8 q_9_9 q_9_10 q_9_11 q_9f
          have lw_10 : w_7.heap.size ≤ w_10.heap.size := hB.size
          replace hMa := box_on hMa hB (by omega)
          replace hMb := box_on hMb hB (by omega)
          replace hMc := box_on hMc hB (by omega)
          replace Ra := MRows.on Ra hB
          replace Rb := MRows.on Rb hB
          replace Rc := MRows.on Rc hB
          replace a_ := Amid.on a_ hB
          have Rx := MRows.more rx (Nat.zero_le _) (Nat.le_refl _)
          clear rx
          replace hx := Lib.hid hx
          clear hB
          have hB := (Below.refl w_10.heap.size w_10).alloc (Nat.le_refl _) (.cells #[.bool x.S.s, .slice x.S.A x.S.n x.S.c, .int .i64 x.S.e, .bool x.W.s, .slice x.W.A x.W.n x.W.c, .int .i64 x.W.e, .bool x.C.s, .slice x.C.A x.C.n x.C.c, .int .i64 x.C.e, .bool x.A.s, .slice x.A.A x.A.n x.A.c, .int .i64 x.A.e] 39)
          have hMx : MBox (w_10.alloc (.cells #[.bool x.S.s, .slice x.S.A x.S.n x.S.c, .int .i64 x.S.e, .bool x.W.s, .slice x.W.A x.W.n x.W.c, .int .i64 x.W.e, .bool x.C.s, .slice x.C.A x.C.n x.C.c, .int .i64 x.C.e, .bool x.A.s, .slice x.A.A x.A.n x.A.c, .int .i64 x.A.e] 39)) w_10.heap.size x := heap_alloc_last _ _
          have mw_11 : w_10.heap.size < (w_10.alloc (.cells #[.bool x.S.s, .slice x.S.A x.S.n x.S.c, .int .i64 x.S.e, .bool x.W.s, .slice x.W.A x.W.n x.W.c, .int .i64 x.W.e, .bool x.C.s, .slice x.C.A x.C.n x.C.c, .int .i64 x.C.e, .bool x.A.s, .slice x.A.A x.A.n x.A.c, .int .i64 x.A.e] 39)).heap.size := by simp
          generalize hww_11 : w_10.alloc (.cells #[.bool x.S.s, .slice x.S.A x.S.n x.S.c, .int .i64 x.S.e, .bool x.W.s, .slice x.W.A x.W.n x.W.c, .int .i64 x.W.e, .bool x.C.s, .slice x.C.A x.C.n x.C.c, .int .i64 x.C.e, .bool x.A.s, .slice x.A.A x.A.n x.A.c, .int .i64 x.A.e] 39) = w_11 at *
          have lw_11 : w_10.heap.size ≤ w_11.heap.size := hB.size
          replace hMa := box_on hMa hB (by omega)
          replace hMb := box_on hMb hB (by omega)
          replace hMc := box_on hMc hB (by omega)
          replace Ra := MRows.on Ra hB
          replace Rb := MRows.on Rb hB
          replace Rc := MRows.on Rc hB
          replace Rx := MRows.on Rx hB
          replace a_ := Amid.on a_ hB
          clear hB
          obtain ⟨⟨q_12_0, q_12_1, q_12_2, q_12_3, q_12_4, q_12_5, q_12_6, q_12_7, q_12_8, q_12_9, q_12_10, q_12_11⟩, q_12f⟩ := MBox.cells hMb
          obtain ⟨⟨q_13_0, q_13_1, q_13_2, q_13_3, q_13_4, q_13_5, q_13_6, q_13_7, q_13_8, q_13_9, q_13_10, q_13_11⟩, q_13f⟩ := MBox.cells hMa
          go_wp2_with fail
          refine (MAdd_num w_11 b a Rb Ra a_.tab X 0 HY.out).mono ?_
          rintro e' w_14 ⟨y, rfl, hB, hy, ry⟩
          clear q_12_0 q_12_1 q_12_2 q_12_3 q_12_4 q_12_5 q_12_6 q_12_7 q_12_8 q_12_9 q_12_10 q_12_11 q_12f q_13_0 q_13_1 q_13_2 q_13_3 q_13_4 q_13_5 q_13_6 q_13_7 q_13_8 q_13_9 q_13_10 q_13_11 q_13f
          have lw_14 : w_11.heap.size ≤ w_14.heap.size := hB.size
          replace hMa := box_on hMa hB (by omega)
          replace hMb := box_on hMb hB (by omega)
          replace hMc := box_on hMc hB (by omega)
          replace hMx := box_on hMx hB (by omega)
          replace Ra := MRows.on Ra hB
          replace Rb := MRows.on Rb hB
          replace Rc := MRows.on Rc hB
          replace Rx := MRows.on Rx hB
          replace a_ := Amid.on a_ hB
          try clear hww_11
          have Ry := MRows.more ry (Nat.zero_le _) (Nat.le_refl _)
          clear ry
          replace hy := Lib.hid hy
          clear hB
          have hB := (Below.refl w_14.heap.size w_14).alloc (Nat.le_refl _) (.cells #[.bool y.S.s, .slice y.S.A y.S.n y.S.c, .int .i64 y.S.e, .bool y.W.s, .slice y.W.A y.W.n y.W.c, .int .i64 y.W.e, .bool y.C.s, .slice y.C.A y.C.n y.C.c, .int .i64 y.C.e, .bool y.A.s, .slice y.A.A y.A.n y.A.c, .int .i64 y.A.e] 39)
          have hMy : MBox (w_14.alloc (.cells #[.bool y.S.s, .slice y.S.A y.S.n y.S.c, .int .i64 y.S.e, .bool y.W.s, .slice y.W.A y.W.n y.W.c, .int .i64 y.W.e, .bool y.C.s, .slice y.C.A y.C.n y.C.c, .int .i64 y.C.e, .bool y.A.s, .slice y.A.A y.A.n y.A.c, .int .i64 y.A.e] 39)) w_14.heap.size y := heap_alloc_last _ _
          have mw_15 : w_14.heap.size < (w_14.alloc (.cells #[.bool y.S.s, .slice y.S.A y.S.n y.S.c, .int .i64 y.S.e, .bool y.W.s, .slice y.W.A y.W.n y.W.c, .int .i64 y.W.e, .bool y.C.s, .slice y.C.A y.C.n y.C.c, .int .i64 y.C.e, .bool y.A.s, .slice y.A.A y.A.n y.A.c, .int .i64 y.A.e] 39)).heap.size := by simp
          generalize hww_15 : w_14.alloc (.cells #[.bool y.S.s, .slice y.S.A y.S.n y.S.c, .int .i64 y.S.e, .bool y.W.s, .slice y.W.A y.W.n y.W.c, .int .i64 y.W.e, .bool y.C.s, .slice y.C.A y.C.n y.C.c, .int .i64 y.C.e, .bool y.A.s, .slice y.A.A y.A.n y.A.c, .int .i64 y.A.e] 39) = w_15 at *
          have lw_15 : w_14.heap.size ≤ w_15.heap.size := hB.size
          replace hMa := box_on hMa hB (by omega)
          replace hMb := box_on hMb hB (by omega)
          replace hMc := box_on hMc hB (by omega)
          replace hMx := box_on hMx hB (by omega)
          replace Ra := MRows.on Ra hB
          replace Rb := MRows.on Rb hB
          replace Rc := MRows.on Rc hB
          replace Rx := MRows.on Rx hB
          replace Ry := MRows.on Ry hB
          replace a_ := Amid.on a_ hB
          clear hB
          obtain ⟨⟨q_16_0, q_16_1, q_16_2, q_16_3, q_16_4, q_16_5, q_16_6, q_16_7, q_16_8, q_16_9, q_16_10, q_16_11⟩, q_16f⟩ := MBox.cells hMx
          obtain ⟨⟨q_17_0, q_17_1, q_17_2, q_17_3, q_17_4, q_17_5, q_17_6, q_17_7, q_17_8, q_17_9, q_17_10, q_17_11⟩, q_17f⟩ := MBox.cells hMy
          go_wp2_with fail
          refine (MSame_any w_15 x y Rx Ry true (hx.out.same hy.out)).mono ?_
          rintro e' w_18 ⟨rfl, hB⟩
          clear q_16_0 q_16_1 q_16_2 q_16_3 q_16_4 q_16_5 q_16_6 q_16_7 q_16_8 q_16_9 q_16_10 q_16_11 q_16f q_17_0 q_17_1 q_17_2 q_17_3 q_17_4 q_17_5 q_17_6 q_17_7 q_17_8 q_17_9 q_17_10 q_17_11 q_17f
          have lw_18 : w_15.heap.size ≤ w_18.heap.size := hB.size
          replace hMa := box_on hMa hB (by omega)
          replace hMb := box_on hMb hB (by omega)
          replace hMc := box_on hMc hB (by omega)
          replace hMx := box_on hMx hB (by omega)
          replace hMy := box_on hMy hB (by omega)
          replace Ra := MRows.on Ra hB
          replace Rb := MRows.on Rb hB
          replace Rc := MRows.on Rc hB
          replace Rx := MRows.on Rx hB
          replace Ry := MRows.on Ry hB
          replace a_ := Amid.on a_ hB
          clear hB
          try clear hww_15
          obtain ⟨⟨q_19_0, q_19_1, q_19_2, q_19_3, q_19_4, q_19_5, q_19_6, q_19_7, q_19_8, q_19_9, q_19_10, q_19_11⟩, q_19f⟩ := MBox.cells hMx
          obtain ⟨⟨q_20_0, q_20_1, q_20_2, q_20_3, q_20_4, q_20_5, q_20_6, q_20_7, q_20_8, q_20_9, q_20_10, q_20_11⟩, q_20f⟩ := MBox.cells hMb
          obtain ⟨TT, hsub, hTa⟩ := back_law hA hBb HX.out hx.out
          have HSUB := Lib.hid hsub
          replace hTa := Lib.hid hTa
          clear hsub
          go_wp2_with fail
          refine (MSub_num w_18 x b Rx Rb a_.tab TT 0 HSUB.out).mono ?_
          rintro e' w_21 ⟨back, rfl, hB, hback, rback⟩
          clear q_19_0 q_19_1 q_19_2 q_19_3 q_19_4 q_19_5 q_19_6 q_19_7 q_19_8 q_19_9 q_19_10 q_19_11 q_19f q_20_0 q_20_1 q_20_2 q_20_3 q_20_4 q_20_5 q_20_6 q_20_7 q_20_8 q_20_9 q_20_10 q_20_11 q_20f
          have lw_21 : w_18.heap.size ≤ w_21.heap.size := hB.size
          replace hMa := box_on hMa hB (by omega)
          replace hMb := box_on hMb hB (by omega)
          replace hMc := box_on hMc hB (by omega)
          replace hMx := box_on hMx hB (by omega)
          replace hMy := box_on hMy hB (by omega)
          replace Ra := MRows.on Ra hB
          replace Rb := MRows.on Rb hB
          replace Rc := MRows.on Rc hB
          replace Rx := MRows.on Rx hB
          replace Ry := MRows.on Ry hB
          replace a_ := Amid.on a_ hB
          have Rback := MRows.more rback (Nat.zero_le _) (Nat.le_refl _)
          clear rback
          replace hback := Lib.hid hback
          clear hB
          have hB := (Below.refl w_21.heap.size w_21).alloc (Nat.le_refl _) (.cells #[.bool back.S.s, .slice back.S.A back.S.n back.S.c, .int .i64 back.S.e, .bool back.W.s, .slice back.W.A back.W.n back.W.c, .int .i64 back.W.e, .bool back.C.s, .slice back.C.A back.C.n back.C.c, .int .i64 back.C.e, .bool back.A.s, .slice back.A.A back.A.n back.A.c, .int .i64 back.A.e] 39)
          have hMback : MBox (w_21.alloc (.cells #[.bool back.S.s, .slice back.S.A back.S.n back.S.c, .int .i64 back.S.e, .bool back.W.s, .slice back.W.A back.W.n back.W.c, .int .i64 back.W.e, .bool back.C.s, .slice back.C.A back.C.n back.C.c, .int .i64 back.C.e, .bool back.A.s, .slice back.A.A back.A.n back.A.c, .int .i64 back.A.e] 39)) w_21.heap.size back := heap_alloc_last _ _
          have mw_22 : w_21.heap.size < (w_21.alloc (.cells #[.bool back.S.s, .slice back.S.A back.S.n back.S.c, .int .i64 back.S.e, .bool back.W.s, .slice back.W.A back.W.n back.W.c, .int .i64 back.W.e, .bool back.C.s, .slice back.C.A back.C.n back.C.c, .int .i64 back.C.e, .bool back.A.s, .slice back.A.A back.A.n back.A.c, .int .i64 back.A.e] 39)).heap.size := by simp
          generalize hww_22 : w_21.alloc (.cells #[.bool back.S.s, .slice back.S.A back.S.n back.S.c, .int .i64 back.S.e, .bool back.W.s, .slice back.W.A back.W.n back.W.c, .int .i64 back.W.e, .bool back.C.s, .slice back.C.A back.C.n back.C.c, .int .i64 back.C.e, .bool back.A.s, .slice back.A.A back.A.n back.A.c, .int .i64 back.A.e] 39) = w_22 at *
          have lw_22 : w_21.heap.size ≤ w_22.heap.size := hB.size
          replace hMa := box_on hMa hB (by omega)
          replace hMb := box_on hMb hB (by omega)
          replace hMc := box_on hMc hB (by omega)
          replace hMx := box_on hMx hB (by omega)
          replace hMy := box_on hMy hB (by omega)
          replace Ra := MRows.on Ra hB
          replace Rb := MRows.on Rb hB
          replace Rc := MRows.on Rc hB
          replace Rx := MRows.on Rx hB
          replace Ry := MRows.on Ry hB
          replace Rback := MRows.on Rback hB
          replace a_ := Amid.on a_ hB
          clear hB
          obtain ⟨⟨q_23_0, q_23_1, q_23_2, q_23_3, q_23_4, q_23_5, q_23_6, q_23_7, q_23_8, q_23_9, q_23_10, q_23_11⟩, q_23f⟩ := MBox.cells hMback
          obtain ⟨⟨q_24_0, q_24_1, q_24_2, q_24_3, q_24_4, q_24_5, q_24_6, q_24_7, q_24_8, q_24_9, q_24_10, q_24_11⟩, q_24f⟩ := MBox.cells hMa
          go_wp2_with fail
          refine (MSame_any w_22 back a Rback Ra true (hback.out.same hTa.out)).mono ?_
          rintro e' w_25 ⟨rfl, hB⟩
          clear q_23_0 q_23_1 q_23_2 q_23_3 q_23_4 q_23_5 q_23_6 q_23_7 q_23_8 q_23_9 q_23_10 q_23_11 q_23f q_24_0 q_24_1 q_24_2 q_24_3 q_24_4 q_24_5 q_24_6 q_24_7 q_24_8 q_24_9 q_24_10 q_24_11 q_24f
          have lw_25 : w_22.heap.size ≤ w_25.heap.size := hB.size
          replace hMa := box_on hMa hB (by omega)
          replace hMb := box_on hMb hB (by omega)
          replace hMc := box_on hMc hB (by omega)
          replace hMx := box_on hMx hB (by omega)
          replace hMy := box_on hMy hB (by omega)
          replace hMback := box_on hMback hB (by omega)
          replace Ra := MRows.on Ra hB
          replace Rb := MRows.on Rb hB
          replace Rc := MRows.on Rc hB
          replace Rx := MRows.on Rx hB
          replace Ry := MRows.on Ry hB
          replace Rback := MRows.on Rback hB
          replace a_ := Amid.on a_ hB
          clear hB
          try clear hww_22
          obtain ⟨⟨q_26_0, q_26_1, q_26_2, q_26_3, q_26_4, q_26_5, q_26_6, q_26_7, q_26_8, q_26_9, q_26_10, q_26_11⟩, q_26f⟩ := MBox.cells hMa
          obtain ⟨⟨q_27_0, q_27_1, q_27_2, q_27_3, q_27_4, q_27_5, q_27_6, q_27_7, q_27_8, q_27_9, q_27_10, q_27_11⟩, q_27f⟩ := MBox.cells hMb
          obtain ⟨⟨q_28_0, q_28_1, q_28_2, q_28_3, q_28_4, q_28_5, q_28_6, q_28_7, q_28_8, q_28_9, q_28_10, q_28_11⟩, q_28f⟩ := MBox.cells hMc
          generalize hww_29 : w_25.alloc (.cells #[.bool a.S.s, .slice a.S.A a.S.n a.S.c, .int .i64 a.S.e, .bool a.W.s, .slice a.W.A a.W.n a.W.c, .int .i64 a.W.e, .bool a.C.s, .slice a.C.A a.C.n a.C.c, .int .i64 a.C.e, .bool a.A.s, .slice a.A.A a.A.n a.A.c, .int .i64 a.A.e, .bool b.S.s, .slice b.S.A b.S.n b.S.c, .int .i64 b.S.e, .bool b.W.s, .slice b.W.A b.W.n b.W.c, .int .i64 b.W.e, .bool b.C.s, .slice b.C.A b.C.n b.C.c, .int .i64 b.C.e, .bool b.A.s, .slice b.A.A b.A.n b.A.c, .int .i64 b.A.e, .bool c.S.s, .slice c.S.A c.S.n c.S.c, .int .i64 c.S.e, .bool c.W.s, .slice c.W.A c.W.n c.W.c, .int .i64 c.W.e, .bool c.C.s, .slice c.C.A c.C.n c.C.c, .int .i64 c.C.e, .bool c.A.s, .slice c.A.A c.A.n c.A.c, .int .i64 c.A.e] 39) = w_29 at *
          have hLL := lms_three w_25 a b c Ra Rb Rc hww_29
          have hB : Below w_25.heap.size w_25 w_29 := by rw [← hww_29]; exact (Below.refl _ _).alloc (Nat.le_refl _) _
          have lw_29 : w_25.heap.size ≤ w_29.heap.size := hB.size
          replace hMa := box_on hMa hB (by omega)
          replace hMb := box_on hMb hB (by omega)
          replace hMc := box_on hMc hB (by omega)
          replace hMx := box_on hMx hB (by omega)
          replace hMy := box_on hMy hB (by omega)
          replace hMback := box_on hMback hB (by omega)
          replace Ra := MRows.on Ra hB
          replace Rb := MRows.on Rb hB
          replace Rc := MRows.on Rc hB
          replace Rx := MRows.on Rx hB
          replace Ry := MRows.on Ry hB
          replace Rback := MRows.on Rback hB
          replace a_ := Amid.on a_ hB
          clear hB
          obtain ⟨S, h, hS⟩ : ∃ S h, sumM [a, b, c] = (S, h) := ⟨_, _, rfl⟩
          obtain ⟨T, i, hTT⟩ : ∃ T i, addM x c = (T, i) := ⟨_, _, rfl⟩
          obtain ⟨hhi, hST⟩ := three_law (lo := 0) (hi := w.heap.size) hA hBb hC HX.out hx.out hS hTT
          subst hhi
          replace hST := Lib.hid hST
          have HS := Lib.hid hS
          have HTT := Lib.hid hTT
          clear hS hTT
          go_wp2_with fail
          refine (MSum_any w_29 _ 3 3 [a, b, c] hLL (by decide) a_.tab S h HS.out).mono ?_
          rintro e' w_30 ⟨s, rfl, hB, hs, rs⟩
          clear q_26_0 q_26_1 q_26_2 q_26_3 q_26_4 q_26_5 q_26_6 q_26_7 q_26_8 q_26_9 q_26_10 q_26_11 q_26f q_27_0 q_27_1 q_27_2 q_27_3 q_27_4 q_27_5 q_27_6 q_27_7 q_27_8 q_27_9 q_27_10 q_27_11 q_27f q_28_0 q_28_1 q_28_2 q_28_3 q_28_4 q_28_5 q_28_6 q_28_7 q_28_8 q_28_9 q_28_10 q_28_11 q_28f
          have lw_30 : w_29.heap.size ≤ w_30.heap.size := hB.size
          replace hMa := box_on hMa hB (by omega)
          replace hMb := box_on hMb hB (by omega)
          replace hMc := box_on hMc hB (by omega)
          replace hMx := box_on hMx hB (by omega)
          replace hMy := box_on hMy hB (by omega)
          replace hMback := box_on hMback hB (by omega)
          replace Ra := MRows.on Ra hB
          replace Rb := MRows.on Rb hB
          replace Rc := MRows.on Rc hB
          replace Rx := MRows.on Rx hB
          replace Ry := MRows.on Ry hB
          replace Rback := MRows.on Rback hB
          replace a_ := Amid.on a_ hB
          clear hLL
          have Rs := MRows.more rs (Nat.zero_le _) (Nat.le_refl _)
          clear rs
          replace hs := Lib.hid hs
          try clear hww_29
          clear hB
          have hB := (Below.refl w_30.heap.size w_30).alloc (Nat.le_refl _) (.cells #[.bool s.S.s, .slice s.S.A s.S.n s.S.c, .int .i64 s.S.e, .bool s.W.s, .slice s.W.A s.W.n s.W.c, .int .i64 s.W.e, .bool s.C.s, .slice s.C.A s.C.n s.C.c, .int .i64 s.C.e, .bool s.A.s, .slice s.A.A s.A.n s.A.c, .int .i64 s.A.e] 39)
          have hMs : MBox (w_30.alloc (.cells #[.bool s.S.s, .slice s.S.A s.S.n s.S.c, .int .i64 s.S.e, .bool s.W.s, .slice s.W.A s.W.n s.W.c, .int .i64 s.W.e, .bool s.C.s, .slice s.C.A s.C.n s.C.c, .int .i64 s.C.e, .bool s.A.s, .slice s.A.A s.A.n s.A.c, .int .i64 s.A.e] 39)) w_30.heap.size s := heap_alloc_last _ _
          have mw_31 : w_30.heap.size < (w_30.alloc (.cells #[.bool s.S.s, .slice s.S.A s.S.n s.S.c, .int .i64 s.S.e, .bool s.W.s, .slice s.W.A s.W.n s.W.c, .int .i64 s.W.e, .bool s.C.s, .slice s.C.A s.C.n s.C.c, .int .i64 s.C.e, .bool s.A.s, .slice s.A.A s.A.n s.A.c, .int .i64 s.A.e] 39)).heap.size := by simp
          generalize hww_31 : w_30.alloc (.cells #[.bool s.S.s, .slice s.S.A s.S.n s.S.c, .int .i64 s.S.e, .bool s.W.s, .slice s.W.A s.W.n s.W.c, .int .i64 s.W.e, .bool s.C.s, .slice s.C.A s.C.n s.C.c, .int .i64 s.C.e, .bool s.A.s, .slice s.A.A s.A.n s.A.c, .int .i64 s.A.e] 39) = w_31 at *
          have lw_31 : w_30.heap.size ≤ w_31.heap.size := hB.size
          replace hMa := box_on hMa hB (by omega)
          replace hMb := box_on hMb hB (by omega)
          replace hMc := box_on hMc hB (by omega)
          replace hMx := box_on hMx hB (by omega)
          replace hMy := box_on hMy hB (by omega)
          replace hMback := box_on hMback hB (by omega)
          replace Ra := MRows.on Ra hB
          replace Rb := MRows.on Rb hB
          replace Rc := MRows.on Rc hB
          replace Rx := MRows.on Rx hB
          replace Ry := MRows.on Ry hB
          replace Rback := MRows.on Rback hB
          replace Rs := MRows.on Rs hB
          replace a_ := Amid.on a_ hB
          clear hB
          obtain ⟨⟨q_32_0, q_32_1, q_32_2, q_32_3, q_32_4, q_32_5, q_32_6, q_32_7, q_32_8, q_32_9, q_32_10, q_32_11⟩, q_32f⟩ := MBox.cells hMx
          obtain ⟨⟨q_33_0, q_33_1, q_33_2, q_33_3, q_33_4, q_33_5, q_33_6, q_33_7, q_33_8, q_33_9, q_33_10, q_33_11⟩, q_33f⟩ := MBox.cells hMc
          go_wp2_with fail
          refine (MAdd_num w_31 x c Rx Rc a_.tab T h HTT.out).mono ?_
          rintro e' w_34 ⟨t, rfl, hB, ht, rt⟩
          clear q_32_0 q_32_1 q_32_2 q_32_3 q_32_4 q_32_5 q_32_6 q_32_7 q_32_8 q_32_9 q_32_10 q_32_11 q_32f q_33_0 q_33_1 q_33_2 q_33_3 q_33_4 q_33_5 q_33_6 q_33_7 q_33_8 q_33_9 q_33_10 q_33_11 q_33f
          have lw_34 : w_31.heap.size ≤ w_34.heap.size := hB.size
          replace hMa := box_on hMa hB (by omega)
          replace hMb := box_on hMb hB (by omega)
          replace hMc := box_on hMc hB (by omega)
          replace hMx := box_on hMx hB (by omega)
          replace hMy := box_on hMy hB (by omega)
          replace hMback := box_on hMback hB (by omega)
          replace hMs := box_on hMs hB (by omega)
          replace Ra := MRows.on Ra hB
          replace Rb := MRows.on Rb hB
          replace Rc := MRows.on Rc hB
          replace Rx := MRows.on Rx hB
          replace Ry := MRows.on Ry hB
          replace Rback := MRows.on Rback hB
          replace Rs := MRows.on Rs hB
          replace a_ := Amid.on a_ hB
          have Rt := MRows.more rt (Nat.zero_le _) (Nat.le_refl _)
          clear rt
          replace ht := Lib.hid ht
          try clear hww_31
          clear hB
          have hB := (Below.refl w_34.heap.size w_34).alloc (Nat.le_refl _) (.cells #[.bool t.S.s, .slice t.S.A t.S.n t.S.c, .int .i64 t.S.e, .bool t.W.s, .slice t.W.A t.W.n t.W.c, .int .i64 t.W.e, .bool t.C.s, .slice t.C.A t.C.n t.C.c, .int .i64 t.C.e, .bool t.A.s, .slice t.A.A t.A.n t.A.c, .int .i64 t.A.e] 39)
          have hMt : MBox (w_34.alloc (.cells #[.bool t.S.s, .slice t.S.A t.S.n t.S.c, .int .i64 t.S.e, .bool t.W.s, .slice t.W.A t.W.n t.W.c, .int .i64 t.W.e, .bool t.C.s, .slice t.C.A t.C.n t.C.c, .int .i64 t.C.e, .bool t.A.s, .slice t.A.A t.A.n t.A.c, .int .i64 t.A.e] 39)) w_34.heap.size t := heap_alloc_last _ _
          have mw_35 : w_34.heap.size < (w_34.alloc (.cells #[.bool t.S.s, .slice t.S.A t.S.n t.S.c, .int .i64 t.S.e, .bool t.W.s, .slice t.W.A t.W.n t.W.c, .int .i64 t.W.e, .bool t.C.s, .slice t.C.A t.C.n t.C.c, .int .i64 t.C.e, .bool t.A.s, .slice t.A.A t.A.n t.A.c, .int .i64 t.A.e] 39)).heap.size := by simp
          generalize hww_35 : w_34.alloc (.cells #[.bool t.S.s, .slice t.S.A t.S.n t.S.c, .int .i64 t.S.e, .bool t.W.s, .slice t.W.A t.W.n t.W.c, .int .i64 t.W.e, .bool t.C.s, .slice t.C.A t.C.n t.C.c, .int .i64 t.C.e, .bool t.A.s, .slice t.A.A t.A.n t.A.c, .int .i64 t.A.e] 39) = w_35 at *
          have lw_35 : w_34.heap.size ≤ w_35.heap.size := hB.size
          replace hMa := box_on hMa hB (by omega)
          replace hMb := box_on hMb hB (by omega)
          replace hMc := box_on hMc hB (by omega)
          replace hMx := box_on hMx hB (by omega)
          replace hMy := box_on hMy hB (by omega)
          replace hMback := box_on hMback hB (by omega)
          replace hMs := box_on hMs hB (by omega)
          replace Ra := MRows.on Ra hB
          replace Rb := MRows.on Rb hB
          replace Rc := MRows.on Rc hB
          replace Rx := MRows.on Rx hB
          replace Ry := MRows.on Ry hB
          replace Rback := MRows.on Rback hB
          replace Rs := MRows.on Rs hB
          replace Rt := MRows.on Rt hB
          replace a_ := Amid.on a_ hB
          clear hB
          obtain ⟨⟨q_36_0, q_36_1, q_36_2, q_36_3, q_36_4, q_36_5, q_36_6, q_36_7, q_36_8, q_36_9, q_36_10, q_36_11⟩, q_36f⟩ := MBox.cells hMs
          obtain ⟨⟨q_37_0, q_37_1, q_37_2, q_37_3, q_37_4, q_37_5, q_37_6, q_37_7, q_37_8, q_37_9, q_37_10, q_37_11⟩, q_37f⟩ := MBox.cells hMt
          go_wp2_with fail
          refine (MSame_any w_35 s t Rs Rt true ((hs.out.of_eq fun x hx => (hST.out x hx).symm).same ht.out)).mono ?_
          rintro e' w_38 ⟨rfl, hB⟩
          clear q_36_0 q_36_1 q_36_2 q_36_3 q_36_4 q_36_5 q_36_6 q_36_7 q_36_8 q_36_9 q_36_10 q_36_11 q_36f q_37_0 q_37_1 q_37_2 q_37_3 q_37_4 q_37_5 q_37_6 q_37_7 q_37_8 q_37_9 q_37_10 q_37_11 q_37f
          have lw_38 : w_35.heap.size ≤ w_38.heap.size := hB.size
          replace hMa := box_on hMa hB (by omega)
          replace hMb := box_on hMb hB (by omega)
          replace hMc := box_on hMc hB (by omega)
          replace hMx := box_on hMx hB (by omega)
          replace hMy := box_on hMy hB (by omega)
          replace hMback := box_on hMback hB (by omega)
          replace hMs := box_on hMs hB (by omega)
          replace hMt := box_on hMt hB (by omega)
          replace Ra := MRows.on Ra hB
          replace Rb := MRows.on Rb hB
          replace Rc := MRows.on Rc hB
          replace Rx := MRows.on Rx hB
          replace Ry := MRows.on Ry hB
          replace Rback := MRows.on Rback hB
          replace Rs := MRows.on Rs hB
          replace Rt := MRows.on Rt hB
          replace a_ := Amid.on a_ hB
          clear hB
          try clear hww_35
          go_wp2
          go_ret
          exact ⟨rfl, a_.below⟩
        · skip
          obtain ⟨⟨q_39_0, q_39_1, q_39_2, q_39_3, q_39_4, q_39_5, q_39_6, q_39_7, q_39_8, q_39_9, q_39_10, q_39_11⟩, q_39f⟩ := MBox.cells hMa
          obtain ⟨⟨q_40_0, q_40_1, q_40_2, q_40_3, q_40_4, q_40_5, q_40_6, q_40_7, q_40_8, q_40_9, q_40_10, q_40_11⟩, q_40f⟩ := MBox.cells hMb
          go_wp2_with fail
          refine (MAdd_num w_7 a b Ra Rb a_.tab zR 8 HX.out).mono ?_
          rintro e' w_41 ⟨x, rfl, hB, hx, rx⟩
          clear q_39_0 q_39_1 q_39_2 q_39_3 q_39_4 q_39_5 q_39_6 q_39_7 q_39_8 q_39_9 q_39_10 q_39_11 q_39f q_40_0 q_40_1 q_40_2 q_40_3 q_40_4 q_40_5 q_40_6 q_40_7 q_40_8 q_40_9 q_40_10 q_40_11 q_40f
          have lw_41 : w_7.heap.size ≤ w_41.heap.size := hB.size
          replace hMa := box_on hMa hB (by omega)
          replace hMb := box_on hMb hB (by omega)
          replace hMc := box_on hMc hB (by omega)
          replace Ra := MRows.on Ra hB
          replace Rb := MRows.on Rb hB
          replace Rc := MRows.on Rc hB
          replace a_ := Amid.on a_ hB
          have Rx := MRows.more rx (Nat.zero_le _) (Nat.le_refl _)
          clear rx
          replace hx := Lib.hid hx
          clear hB
          have hB := (Below.refl w_41.heap.size w_41).alloc (Nat.le_refl _) (.cells #[.bool x.S.s, .slice x.S.A x.S.n x.S.c, .int .i64 x.S.e, .bool x.W.s, .slice x.W.A x.W.n x.W.c, .int .i64 x.W.e, .bool x.C.s, .slice x.C.A x.C.n x.C.c, .int .i64 x.C.e, .bool x.A.s, .slice x.A.A x.A.n x.A.c, .int .i64 x.A.e] 39)
          have hMx : MBox (w_41.alloc (.cells #[.bool x.S.s, .slice x.S.A x.S.n x.S.c, .int .i64 x.S.e, .bool x.W.s, .slice x.W.A x.W.n x.W.c, .int .i64 x.W.e, .bool x.C.s, .slice x.C.A x.C.n x.C.c, .int .i64 x.C.e, .bool x.A.s, .slice x.A.A x.A.n x.A.c, .int .i64 x.A.e] 39)) w_41.heap.size x := heap_alloc_last _ _
          have mw_42 : w_41.heap.size < (w_41.alloc (.cells #[.bool x.S.s, .slice x.S.A x.S.n x.S.c, .int .i64 x.S.e, .bool x.W.s, .slice x.W.A x.W.n x.W.c, .int .i64 x.W.e, .bool x.C.s, .slice x.C.A x.C.n x.C.c, .int .i64 x.C.e, .bool x.A.s, .slice x.A.A x.A.n x.A.c, .int .i64 x.A.e] 39)).heap.size := by simp
          generalize hww_42 : w_41.alloc (.cells #[.bool x.S.s, .slice x.S.A x.S.n x.S.c, .int .i64 x.S.e, .bool x.W.s, .slice x.W.A x.W.n x.W.c, .int .i64 x.W.e, .bool x.C.s, .slice x.C.A x.C.n x.C.c, .int .i64 x.C.e, .bool x.A.s, .slice x.A.A x.A.n x.A.c, .int .i64 x.A.e] 39) = w_42 at *
          have lw_42 : w_41.heap.size ≤ w_42.heap.size := hB.size
          replace hMa := box_on hMa hB (by omega)
          replace hMb := box_on hMb hB (by omega)
          replace hMc := box_on hMc hB (by omega)
          replace Ra := MRows.on Ra hB
          replace Rb := MRows.on Rb hB
          replace Rc := MRows.on Rc hB
          replace Rx := MRows.on Rx hB
          replace a_ := Amid.on a_ hB
          clear hB
          obtain ⟨⟨q_43_0, q_43_1, q_43_2, q_43_3, q_43_4, q_43_5, q_43_6, q_43_7, q_43_8, q_43_9, q_43_10, q_43_11⟩, q_43f⟩ := MBox.cells hMb
          obtain ⟨⟨q_44_0, q_44_1, q_44_2, q_44_3, q_44_4, q_44_5, q_44_6, q_44_7, q_44_8, q_44_9, q_44_10, q_44_11⟩, q_44f⟩ := MBox.cells hMa
          go_wp2_with fail
          refine (MAdd_num w_42 b a Rb Ra a_.tab zR 8 HY.out).mono ?_
          rintro e' w_45 ⟨y, rfl, hB, hy, ry⟩
          clear q_43_0 q_43_1 q_43_2 q_43_3 q_43_4 q_43_5 q_43_6 q_43_7 q_43_8 q_43_9 q_43_10 q_43_11 q_43f q_44_0 q_44_1 q_44_2 q_44_3 q_44_4 q_44_5 q_44_6 q_44_7 q_44_8 q_44_9 q_44_10 q_44_11 q_44f
          have lw_45 : w_42.heap.size ≤ w_45.heap.size := hB.size
          replace hMa := box_on hMa hB (by omega)
          replace hMb := box_on hMb hB (by omega)
          replace hMc := box_on hMc hB (by omega)
          replace hMx := box_on hMx hB (by omega)
          replace Ra := MRows.on Ra hB
          replace Rb := MRows.on Rb hB
          replace Rc := MRows.on Rc hB
          replace Rx := MRows.on Rx hB
          replace a_ := Amid.on a_ hB
          try clear hww_42
          have Ry := MRows.more ry (Nat.zero_le _) (Nat.le_refl _)
          clear ry
          replace hy := Lib.hid hy
          clear hB
          have hB := (Below.refl w_45.heap.size w_45).alloc (Nat.le_refl _) (.cells #[.bool y.S.s, .slice y.S.A y.S.n y.S.c, .int .i64 y.S.e, .bool y.W.s, .slice y.W.A y.W.n y.W.c, .int .i64 y.W.e, .bool y.C.s, .slice y.C.A y.C.n y.C.c, .int .i64 y.C.e, .bool y.A.s, .slice y.A.A y.A.n y.A.c, .int .i64 y.A.e] 39)
          have hMy : MBox (w_45.alloc (.cells #[.bool y.S.s, .slice y.S.A y.S.n y.S.c, .int .i64 y.S.e, .bool y.W.s, .slice y.W.A y.W.n y.W.c, .int .i64 y.W.e, .bool y.C.s, .slice y.C.A y.C.n y.C.c, .int .i64 y.C.e, .bool y.A.s, .slice y.A.A y.A.n y.A.c, .int .i64 y.A.e] 39)) w_45.heap.size y := heap_alloc_last _ _
          have mw_46 : w_45.heap.size < (w_45.alloc (.cells #[.bool y.S.s, .slice y.S.A y.S.n y.S.c, .int .i64 y.S.e, .bool y.W.s, .slice y.W.A y.W.n y.W.c, .int .i64 y.W.e, .bool y.C.s, .slice y.C.A y.C.n y.C.c, .int .i64 y.C.e, .bool y.A.s, .slice y.A.A y.A.n y.A.c, .int .i64 y.A.e] 39)).heap.size := by simp
          generalize hww_46 : w_45.alloc (.cells #[.bool y.S.s, .slice y.S.A y.S.n y.S.c, .int .i64 y.S.e, .bool y.W.s, .slice y.W.A y.W.n y.W.c, .int .i64 y.W.e, .bool y.C.s, .slice y.C.A y.C.n y.C.c, .int .i64 y.C.e, .bool y.A.s, .slice y.A.A y.A.n y.A.c, .int .i64 y.A.e] 39) = w_46 at *
          have lw_46 : w_45.heap.size ≤ w_46.heap.size := hB.size
          replace hMa := box_on hMa hB (by omega)
          replace hMb := box_on hMb hB (by omega)
          replace hMc := box_on hMc hB (by omega)
          replace hMx := box_on hMx hB (by omega)
          replace Ra := MRows.on Ra hB
          replace Rb := MRows.on Rb hB
          replace Rc := MRows.on Rc hB
          replace Rx := MRows.on Rx hB
          replace Ry := MRows.on Ry hB
          replace a_ := Amid.on a_ hB
          clear hB
          obtain ⟨⟨q_47_0, q_47_1, q_47_2, q_47_3, q_47_4, q_47_5, q_47_6, q_47_7, q_47_8, q_47_9, q_47_10, q_47_11⟩, q_47f⟩ := MBox.cells hMx
          obtain ⟨⟨q_48_0, q_48_1, q_48_2, q_48_3, q_48_4, q_48_5, q_48_6, q_48_7, q_48_8, q_48_9, q_48_10, q_48_11⟩, q_48f⟩ := MBox.cells hMy
          go_wp2_with fail
          refine (MSame_any w_46 x y Rx Ry true (hx.out.same hy.out)).mono ?_
          rintro e' w_49 ⟨rfl, hB⟩
          clear q_47_0 q_47_1 q_47_2 q_47_3 q_47_4 q_47_5 q_47_6 q_47_7 q_47_8 q_47_9 q_47_10 q_47_11 q_47f q_48_0 q_48_1 q_48_2 q_48_3 q_48_4 q_48_5 q_48_6 q_48_7 q_48_8 q_48_9 q_48_10 q_48_11 q_48f
          have lw_49 : w_46.heap.size ≤ w_49.heap.size := hB.size
          replace hMa := box_on hMa hB (by omega)
          replace hMb := box_on hMb hB (by omega)
          replace hMc := box_on hMc hB (by omega)
          replace hMx := box_on hMx hB (by omega)
          replace hMy := box_on hMy hB (by omega)
          replace Ra := MRows.on Ra hB
          replace Rb := MRows.on Rb hB
          replace Rc := MRows.on Rc hB
          replace Rx := MRows.on Rx hB
          replace Ry := MRows.on Ry hB
          replace a_ := Amid.on a_ hB
          clear hB
          try clear hww_46
          obtain ⟨⟨q_50_0, q_50_1, q_50_2, q_50_3, q_50_4, q_50_5, q_50_6, q_50_7, q_50_8, q_50_9, q_50_10, q_50_11⟩, q_50f⟩ := MBox.cells hMx
          obtain ⟨⟨q_51_0, q_51_1, q_51_2, q_51_3, q_51_4, q_51_5, q_51_6, q_51_7, q_51_8, q_51_9, q_51_10, q_51_11⟩, q_51f⟩ := MBox.cells hMb
          obtain ⟨TT, gg, hsub⟩ : ∃ T g, subM x b = (T, g) := ⟨_, _, rfl⟩
          have HSUB := Lib.hid hsub
          clear hsub
          go_wp2_with fail
          refine (MSub_num w_49 x b Rx Rb a_.tab TT gg HSUB.out).mono ?_
          rintro e' w_52 ⟨back, rfl, hB, hback, rback⟩
          clear q_50_0 q_50_1 q_50_2 q_50_3 q_50_4 q_50_5 q_50_6 q_50_7 q_50_8 q_50_9 q_50_10 q_50_11 q_50f q_51_0 q_51_1 q_51_2 q_51_3 q_51_4 q_51_5 q_51_6 q_51_7 q_51_8 q_51_9 q_51_10 q_51_11 q_51f
          have lw_52 : w_49.heap.size ≤ w_52.heap.size := hB.size
          replace hMa := box_on hMa hB (by omega)
          replace hMb := box_on hMb hB (by omega)
          replace hMc := box_on hMc hB (by omega)
          replace hMx := box_on hMx hB (by omega)
          replace hMy := box_on hMy hB (by omega)
          replace Ra := MRows.on Ra hB
          replace Rb := MRows.on Rb hB
          replace Rc := MRows.on Rc hB
          replace Rx := MRows.on Rx hB
          replace Ry := MRows.on Ry hB
          replace a_ := Amid.on a_ hB
          have Rback := MRows.more rback (Nat.zero_le _) (Nat.le_refl _)
          clear rback hback
          clear hB
          have hB := (Below.refl w_52.heap.size w_52).alloc (Nat.le_refl _) (.cells #[.bool back.S.s, .slice back.S.A back.S.n back.S.c, .int .i64 back.S.e, .bool back.W.s, .slice back.W.A back.W.n back.W.c, .int .i64 back.W.e, .bool back.C.s, .slice back.C.A back.C.n back.C.c, .int .i64 back.C.e, .bool back.A.s, .slice back.A.A back.A.n back.A.c, .int .i64 back.A.e] 39)
          have hMback : MBox (w_52.alloc (.cells #[.bool back.S.s, .slice back.S.A back.S.n back.S.c, .int .i64 back.S.e, .bool back.W.s, .slice back.W.A back.W.n back.W.c, .int .i64 back.W.e, .bool back.C.s, .slice back.C.A back.C.n back.C.c, .int .i64 back.C.e, .bool back.A.s, .slice back.A.A back.A.n back.A.c, .int .i64 back.A.e] 39)) w_52.heap.size back := heap_alloc_last _ _
          have mw_53 : w_52.heap.size < (w_52.alloc (.cells #[.bool back.S.s, .slice back.S.A back.S.n back.S.c, .int .i64 back.S.e, .bool back.W.s, .slice back.W.A back.W.n back.W.c, .int .i64 back.W.e, .bool back.C.s, .slice back.C.A back.C.n back.C.c, .int .i64 back.C.e, .bool back.A.s, .slice back.A.A back.A.n back.A.c, .int .i64 back.A.e] 39)).heap.size := by simp
          generalize hww_53 : w_52.alloc (.cells #[.bool back.S.s, .slice back.S.A back.S.n back.S.c, .int .i64 back.S.e, .bool back.W.s, .slice back.W.A back.W.n back.W.c, .int .i64 back.W.e, .bool back.C.s, .slice back.C.A back.C.n back.C.c, .int .i64 back.C.e, .bool back.A.s, .slice back.A.A back.A.n back.A.c, .int .i64 back.A.e] 39) = w_53 at *
          have lw_53 : w_52.heap.size ≤ w_53.heap.size := hB.size
          replace hMa := box_on hMa hB (by omega)
          replace hMb := box_on hMb hB (by omega)
          replace hMc := box_on hMc hB (by omega)
          replace hMx := box_on hMx hB (by omega)
          replace hMy := box_on hMy hB (by omega)
          replace Ra := MRows.on Ra hB
          replace Rb := MRows.on Rb hB
          replace Rc := MRows.on Rc hB
          replace Rx := MRows.on Rx hB
          replace Ry := MRows.on Ry hB
          replace Rback := MRows.on Rback hB
          replace a_ := Amid.on a_ hB
          clear hB
          obtain ⟨⟨q_54_0, q_54_1, q_54_2, q_54_3, q_54_4, q_54_5, q_54_6, q_54_7, q_54_8, q_54_9, q_54_10, q_54_11⟩, q_54f⟩ := MBox.cells hMa
          obtain ⟨⟨q_55_0, q_55_1, q_55_2, q_55_3, q_55_4, q_55_5, q_55_6, q_55_7, q_55_8, q_55_9, q_55_10, q_55_11⟩, q_55f⟩ := MBox.cells hMb
          obtain ⟨⟨q_56_0, q_56_1, q_56_2, q_56_3, q_56_4, q_56_5, q_56_6, q_56_7, q_56_8, q_56_9, q_56_10, q_56_11⟩, q_56f⟩ := MBox.cells hMc
          generalize hww_57 : w_53.alloc (.cells #[.bool a.S.s, .slice a.S.A a.S.n a.S.c, .int .i64 a.S.e, .bool a.W.s, .slice a.W.A a.W.n a.W.c, .int .i64 a.W.e, .bool a.C.s, .slice a.C.A a.C.n a.C.c, .int .i64 a.C.e, .bool a.A.s, .slice a.A.A a.A.n a.A.c, .int .i64 a.A.e, .bool b.S.s, .slice b.S.A b.S.n b.S.c, .int .i64 b.S.e, .bool b.W.s, .slice b.W.A b.W.n b.W.c, .int .i64 b.W.e, .bool b.C.s, .slice b.C.A b.C.n b.C.c, .int .i64 b.C.e, .bool b.A.s, .slice b.A.A b.A.n b.A.c, .int .i64 b.A.e, .bool c.S.s, .slice c.S.A c.S.n c.S.c, .int .i64 c.S.e, .bool c.W.s, .slice c.W.A c.W.n c.W.c, .int .i64 c.W.e, .bool c.C.s, .slice c.C.A c.C.n c.C.c, .int .i64 c.C.e, .bool c.A.s, .slice c.A.A c.A.n c.A.c, .int .i64 c.A.e] 39) = w_57 at *
          have hLL := lms_three w_53 a b c Ra Rb Rc hww_57
          have hB : Below w_53.heap.size w_53 w_57 := by rw [← hww_57]; exact (Below.refl _ _).alloc (Nat.le_refl _) _
          have lw_57 : w_53.heap.size ≤ w_57.heap.size := hB.size
          replace hMa := box_on hMa hB (by omega)
          replace hMb := box_on hMb hB (by omega)
          replace hMc := box_on hMc hB (by omega)
          replace hMx := box_on hMx hB (by omega)
          replace hMy := box_on hMy hB (by omega)
          replace hMback := box_on hMback hB (by omega)
          replace Ra := MRows.on Ra hB
          replace Rb := MRows.on Rb hB
          replace Rc := MRows.on Rc hB
          replace Rx := MRows.on Rx hB
          replace Ry := MRows.on Ry hB
          replace Rback := MRows.on Rback hB
          replace a_ := Amid.on a_ hB
          clear hB
          obtain ⟨S, h, hS⟩ : ∃ S h, sumM [a, b, c] = (S, h) := ⟨_, _, rfl⟩
          obtain ⟨T, i, hTT⟩ : ∃ T i, addM x c = (T, i) := ⟨_, _, rfl⟩
          have HS := Lib.hid hS
          have HTT := Lib.hid hTT
          clear hS hTT
          go_wp2_with fail
          refine (MSum_any w_57 _ 3 3 [a, b, c] hLL (by decide) a_.tab S h HS.out).mono ?_
          rintro e' w_58 ⟨s, rfl, hB, hs, rs⟩
          clear q_54_0 q_54_1 q_54_2 q_54_3 q_54_4 q_54_5 q_54_6 q_54_7 q_54_8 q_54_9 q_54_10 q_54_11 q_54f q_55_0 q_55_1 q_55_2 q_55_3 q_55_4 q_55_5 q_55_6 q_55_7 q_55_8 q_55_9 q_55_10 q_55_11 q_55f q_56_0 q_56_1 q_56_2 q_56_3 q_56_4 q_56_5 q_56_6 q_56_7 q_56_8 q_56_9 q_56_10 q_56_11 q_56f
          have lw_58 : w_57.heap.size ≤ w_58.heap.size := hB.size
          replace hMa := box_on hMa hB (by omega)
          replace hMb := box_on hMb hB (by omega)
          replace hMc := box_on hMc hB (by omega)
          replace hMx := box_on hMx hB (by omega)
          replace hMy := box_on hMy hB (by omega)
          replace hMback := box_on hMback hB (by omega)
          replace Ra := MRows.on Ra hB
          replace Rb := MRows.on Rb hB
          replace Rc := MRows.on Rc hB
          replace Rx := MRows.on Rx hB
          replace Ry := MRows.on Ry hB
          replace Rback := MRows.on Rback hB
          replace a_ := Amid.on a_ hB
          clear hLL
          have Rs := MRows.more rs (Nat.zero_le _) (Nat.le_refl _)
          clear rs
          replace hs := Lib.hid hs
          try clear hww_57
          clear hB
          have hB := (Below.refl w_58.heap.size w_58).alloc (Nat.le_refl _) (.cells #[.bool s.S.s, .slice s.S.A s.S.n s.S.c, .int .i64 s.S.e, .bool s.W.s, .slice s.W.A s.W.n s.W.c, .int .i64 s.W.e, .bool s.C.s, .slice s.C.A s.C.n s.C.c, .int .i64 s.C.e, .bool s.A.s, .slice s.A.A s.A.n s.A.c, .int .i64 s.A.e] 39)
          have hMs : MBox (w_58.alloc (.cells #[.bool s.S.s, .slice s.S.A s.S.n s.S.c, .int .i64 s.S.e, .bool s.W.s, .slice s.W.A s.W.n s.W.c, .int .i64 s.W.e, .bool s.C.s, .slice s.C.A s.C.n s.C.c, .int .i64 s.C.e, .bool s.A.s, .slice s.A.A s.A.n s.A.c, .int .i64 s.A.e] 39)) w_58.heap.size s := heap_alloc_last _ _
          have mw_59 : w_58.heap.size < (w_58.alloc (.cells #[.bool s.S.s, .slice s.S.A s.S.n s.S.c, .int .i64 s.S.e, .bool s.W.s, .slice s.W.A s.W.n s.W.c, .int .i64 s.W.e, .bool s.C.s, .slice s.C.A s.C.n s.C.c, .int .i64 s.C.e, .bool s.A.s, .slice s.A.A s.A.n s.A.c, .int .i64 s.A.e] 39)).heap.size := by simp
          generalize hww_59 : w_58.alloc (.cells #[.bool s.S.s, .slice s.S.A s.S.n s.S.c, .int .i64 s.S.e, .bool s.W.s, .slice s.W.A s.W.n s.W.c, .int .i64 s.W.e, .bool s.C.s, .slice s.C.A s.C.n s.C.c, .int .i64 s.C.e, .bool s.A.s, .slice s.A.A s.A.n s.A.c, .int .i64 s.A.e] 39) = w_59 at *
          have lw_59 : w_58.heap.size ≤ w_59.heap.size := hB.size
          replace hMa := box_on hMa hB (by omega)
          replace hMb := box_on hMb hB (by omega)
          replace hMc := box_on hMc hB (by omega)
          replace hMx := box_on hMx hB (by omega)
          replace hMy := box_on hMy hB (by omega)
          replace hMback := box_on hMback hB (by omega)
          replace Ra := MRows.on Ra hB
          replace Rb := MRows.on Rb hB
          replace Rc := MRows.on Rc hB
          replace Rx := MRows.on Rx hB
          replace Ry := MRows.on Ry hB
          replace Rback := MRows.on Rback hB
          replace Rs := MRows.on Rs hB
          replace a_ := Amid.on a_ hB
          clear hB
          obtain ⟨⟨q_60_0, q_60_1, q_60_2, q_60_3, q_60_4, q_60_5, q_60_6, q_60_7, q_60_8, q_60_9, q_60_10, q_60_11⟩, q_60f⟩ := MBox.cells hMx
          obtain ⟨⟨q_61_0, q_61_1, q_61_2, q_61_3, q_61_4, q_61_5, q_61_6, q_61_7, q_61_8, q_61_9, q_61_10, q_61_11⟩, q_61f⟩ := MBox.cells hMc
          go_wp2_with fail
          refine (MAdd_num w_59 x c Rx Rc a_.tab T i HTT.out).mono ?_
          rintro e' w_62 ⟨t, rfl, hB, ht, rt⟩
          clear q_60_0 q_60_1 q_60_2 q_60_3 q_60_4 q_60_5 q_60_6 q_60_7 q_60_8 q_60_9 q_60_10 q_60_11 q_60f q_61_0 q_61_1 q_61_2 q_61_3 q_61_4 q_61_5 q_61_6 q_61_7 q_61_8 q_61_9 q_61_10 q_61_11 q_61f
          have lw_62 : w_59.heap.size ≤ w_62.heap.size := hB.size
          replace hMa := box_on hMa hB (by omega)
          replace hMb := box_on hMb hB (by omega)
          replace hMc := box_on hMc hB (by omega)
          replace hMx := box_on hMx hB (by omega)
          replace hMy := box_on hMy hB (by omega)
          replace hMback := box_on hMback hB (by omega)
          replace hMs := box_on hMs hB (by omega)
          replace Ra := MRows.on Ra hB
          replace Rb := MRows.on Rb hB
          replace Rc := MRows.on Rc hB
          replace Rx := MRows.on Rx hB
          replace Ry := MRows.on Ry hB
          replace Rback := MRows.on Rback hB
          replace Rs := MRows.on Rs hB
          replace a_ := Amid.on a_ hB
          have Rt := MRows.more rt (Nat.zero_le _) (Nat.le_refl _)
          clear rt
          replace ht := Lib.hid ht
          try clear hww_59
          clear hB
          have hB := (Below.refl w_62.heap.size w_62).alloc (Nat.le_refl _) (.cells #[.bool t.S.s, .slice t.S.A t.S.n t.S.c, .int .i64 t.S.e, .bool t.W.s, .slice t.W.A t.W.n t.W.c, .int .i64 t.W.e, .bool t.C.s, .slice t.C.A t.C.n t.C.c, .int .i64 t.C.e, .bool t.A.s, .slice t.A.A t.A.n t.A.c, .int .i64 t.A.e] 39)
          have hMt : MBox (w_62.alloc (.cells #[.bool t.S.s, .slice t.S.A t.S.n t.S.c, .int .i64 t.S.e, .bool t.W.s, .slice t.W.A t.W.n t.W.c, .int .i64 t.W.e, .bool t.C.s, .slice t.C.A t.C.n t.C.c, .int .i64 t.C.e, .bool t.A.s, .slice t.A.A t.A.n t.A.c, .int .i64 t.A.e] 39)) w_62.heap.size t := heap_alloc_last _ _
          have mw_63 : w_62.heap.size < (w_62.alloc (.cells #[.bool t.S.s, .slice t.S.A t.S.n t.S.c, .int .i64 t.S.e, .bool t.W.s, .slice t.W.A t.W.n t.W.c, .int .i64 t.W.e, .bool t.C.s, .slice t.C.A t.C.n t.C.c, .int .i64 t.C.e, .bool t.A.s, .slice t.A.A t.A.n t.A.c, .int .i64 t.A.e] 39)).heap.size := by simp
          generalize hww_63 : w_62.alloc (.cells #[.bool t.S.s, .slice t.S.A t.S.n t.S.c, .int .i64 t.S.e, .bool t.W.s, .slice t.W.A t.W.n t.W.c, .int .i64 t.W.e, .bool t.C.s, .slice t.C.A t.C.n t.C.c, .int .i64 t.C.e, .bool t.A.s, .slice t.A.A t.A.n t.A.c, .int .i64 t.A.e] 39) = w_63 at *
          have lw_63 : w_62.heap.size ≤ w_63.heap.size := hB.size
          replace hMa := box_on hMa hB (by omega)
          replace hMb := box_on hMb hB (by omega)
          replace hMc := box_on hMc hB (by omega)
          replace hMx := box_on hMx hB (by omega)
          replace hMy := box_on hMy hB (by omega)
          replace hMback := box_on hMback hB (by omega)
          replace hMs := box_on hMs hB (by omega)
          replace Ra := MRows.on Ra hB
          replace Rb := MRows.on Rb hB
          replace Rc := MRows.on Rc hB
          replace Rx := MRows.on Rx hB
          replace Ry := MRows.on Ry hB
          replace Rback := MRows.on Rback hB
          replace Rs := MRows.on Rs hB
          replace Rt := MRows.on Rt hB
          replace a_ := Amid.on a_ hB
          clear hB
          go_wp2
          go_ret
          exact ⟨rfl, a_.below⟩
        · skip
          obtain ⟨⟨q_64_0, q_64_1, q_64_2, q_64_3, q_64_4, q_64_5, q_64_6, q_64_7, q_64_8, q_64_9, q_64_10, q_64_11⟩, q_64f⟩ := MBox.cells hMa
          obtain ⟨⟨q_65_0, q_65_1, q_65_2, q_65_3, q_65_4, q_65_5, q_65_6, q_65_7, q_65_8, q_65_9, q_65_10, q_65_11⟩, q_65f⟩ := MBox.cells hMb
          go_wp2_with fail
          refine (MAdd_num w_7 a b Ra Rb a_.tab zR 10 HX.out).mono ?_
          rintro e' w_66 ⟨x, rfl, hB, hx, rx⟩
          clear q_64_0 q_64_1 q_64_2 q_64_3 q_64_4 q_64_5 q_64_6 q_64_7 q_64_8 q_64_9 q_64_10 q_64_11 q_64f q_65_0 q_65_1 q_65_2 q_65_3 q_65_4 q_65_5 q_65_6 q_65_7 q_65_8 q_65_9 q_65_10 q_65_11 q_65f
          have lw_66 : w_7.heap.size ≤ w_66.heap.size := hB.size
          replace hMa := box_on hMa hB (by omega)
          replace hMb := box_on hMb hB (by omega)
          replace hMc := box_on hMc hB (by omega)
          replace Ra := MRows.on Ra hB
          replace Rb := MRows.on Rb hB
          replace Rc := MRows.on Rc hB
          replace a_ := Amid.on a_ hB
          have Rx := MRows.more rx (Nat.zero_le _) (Nat.le_refl _)
          clear rx
          replace hx := Lib.hid hx
          clear hB
          have hB := (Below.refl w_66.heap.size w_66).alloc (Nat.le_refl _) (.cells #[.bool x.S.s, .slice x.S.A x.S.n x.S.c, .int .i64 x.S.e, .bool x.W.s, .slice x.W.A x.W.n x.W.c, .int .i64 x.W.e, .bool x.C.s, .slice x.C.A x.C.n x.C.c, .int .i64 x.C.e, .bool x.A.s, .slice x.A.A x.A.n x.A.c, .int .i64 x.A.e] 39)
          have hMx : MBox (w_66.alloc (.cells #[.bool x.S.s, .slice x.S.A x.S.n x.S.c, .int .i64 x.S.e, .bool x.W.s, .slice x.W.A x.W.n x.W.c, .int .i64 x.W.e, .bool x.C.s, .slice x.C.A x.C.n x.C.c, .int .i64 x.C.e, .bool x.A.s, .slice x.A.A x.A.n x.A.c, .int .i64 x.A.e] 39)) w_66.heap.size x := heap_alloc_last _ _
          have mw_67 : w_66.heap.size < (w_66.alloc (.cells #[.bool x.S.s, .slice x.S.A x.S.n x.S.c, .int .i64 x.S.e, .bool x.W.s, .slice x.W.A x.W.n x.W.c, .int .i64 x.W.e, .bool x.C.s, .slice x.C.A x.C.n x.C.c, .int .i64 x.C.e, .bool x.A.s, .slice x.A.A x.A.n x.A.c, .int .i64 x.A.e] 39)).heap.size := by simp
          generalize hww_67 : w_66.alloc (.cells #[.bool x.S.s, .slice x.S.A x.S.n x.S.c, .int .i64 x.S.e, .bool x.W.s, .slice x.W.A x.W.n x.W.c, .int .i64 x.W.e, .bool x.C.s, .slice x.C.A x.C.n x.C.c, .int .i64 x.C.e, .bool x.A.s, .slice x.A.A x.A.n x.A.c, .int .i64 x.A.e] 39) = w_67 at *
          have lw_67 : w_66.heap.size ≤ w_67.heap.size := hB.size
          replace hMa := box_on hMa hB (by omega)
          replace hMb := box_on hMb hB (by omega)
          replace hMc := box_on hMc hB (by omega)
          replace Ra := MRows.on Ra hB
          replace Rb := MRows.on Rb hB
          replace Rc := MRows.on Rc hB
          replace Rx := MRows.on Rx hB
          replace a_ := Amid.on a_ hB
          clear hB
          obtain ⟨⟨q_68_0, q_68_1, q_68_2, q_68_3, q_68_4, q_68_5, q_68_6, q_68_7, q_68_8, q_68_9, q_68_10, q_68_11⟩, q_68f⟩ := MBox.cells hMb
          obtain ⟨⟨q_69_0, q_69_1, q_69_2, q_69_3, q_69_4, q_69_5, q_69_6, q_69_7, q_69_8, q_69_9, q_69_10, q_69_11⟩, q_69f⟩ := MBox.cells hMa
          go_wp2_with fail
          refine (MAdd_num w_67 b a Rb Ra a_.tab zR 10 HY.out).mono ?_
          rintro e' w_70 ⟨y, rfl, hB, hy, ry⟩
          clear q_68_0 q_68_1 q_68_2 q_68_3 q_68_4 q_68_5 q_68_6 q_68_7 q_68_8 q_68_9 q_68_10 q_68_11 q_68f q_69_0 q_69_1 q_69_2 q_69_3 q_69_4 q_69_5 q_69_6 q_69_7 q_69_8 q_69_9 q_69_10 q_69_11 q_69f
          have lw_70 : w_67.heap.size ≤ w_70.heap.size := hB.size
          replace hMa := box_on hMa hB (by omega)
          replace hMb := box_on hMb hB (by omega)
          replace hMc := box_on hMc hB (by omega)
          replace hMx := box_on hMx hB (by omega)
          replace Ra := MRows.on Ra hB
          replace Rb := MRows.on Rb hB
          replace Rc := MRows.on Rc hB
          replace Rx := MRows.on Rx hB
          replace a_ := Amid.on a_ hB
          try clear hww_67
          have Ry := MRows.more ry (Nat.zero_le _) (Nat.le_refl _)
          clear ry
          replace hy := Lib.hid hy
          clear hB
          have hB := (Below.refl w_70.heap.size w_70).alloc (Nat.le_refl _) (.cells #[.bool y.S.s, .slice y.S.A y.S.n y.S.c, .int .i64 y.S.e, .bool y.W.s, .slice y.W.A y.W.n y.W.c, .int .i64 y.W.e, .bool y.C.s, .slice y.C.A y.C.n y.C.c, .int .i64 y.C.e, .bool y.A.s, .slice y.A.A y.A.n y.A.c, .int .i64 y.A.e] 39)
          have hMy : MBox (w_70.alloc (.cells #[.bool y.S.s, .slice y.S.A y.S.n y.S.c, .int .i64 y.S.e, .bool y.W.s, .slice y.W.A y.W.n y.W.c, .int .i64 y.W.e, .bool y.C.s, .slice y.C.A y.C.n y.C.c, .int .i64 y.C.e, .bool y.A.s, .slice y.A.A y.A.n y.A.c, .int .i64 y.A.e] 39)) w_70.heap.size y := heap_alloc_last _ _
          have mw_71 : w_70.heap.size < (w_70.alloc (.cells #[.bool y.S.s, .slice y.S.A y.S.n y.S.c, .int .i64 y.S.e, .bool y.W.s, .slice y.W.A y.W.n y.W.c, .int .i64 y.W.e, .bool y.C.s, .slice y.C.A y.C.n y.C.c, .int .i64 y.C.e, .bool y.A.s, .slice y.A.A y.A.n y.A.c, .int .i64 y.A.e] 39)).heap.size := by simp
          generalize hww_71 : w_70.alloc (.cells #[.bool y.S.s, .slice y.S.A y.S.n y.S.c, .int .i64 y.S.e, .bool y.W.s, .slice y.W.A y.W.n y.W.c, .int .i64 y.W.e, .bool y.C.s, .slice y.C.A y.C.n y.C.c, .int .i64 y.C.e, .bool y.A.s, .slice y.A.A y.A.n y.A.c, .int .i64 y.A.e] 39) = w_71 at *
          have lw_71 : w_70.heap.size ≤ w_71.heap.size := hB.size
          replace hMa := box_on hMa hB (by omega)
          replace hMb := box_on hMb hB (by omega)
          replace hMc := box_on hMc hB (by omega)
          replace hMx := box_on hMx hB (by omega)
          replace Ra := MRows.on Ra hB
          replace Rb := MRows.on Rb hB
          replace Rc := MRows.on Rc hB
          replace Rx := MRows.on Rx hB
          replace Ry := MRows.on Ry hB
          replace a_ := Amid.on a_ hB
          clear hB
          obtain ⟨⟨q_72_0, q_72_1, q_72_2, q_72_3, q_72_4, q_72_5, q_72_6, q_72_7, q_72_8, q_72_9, q_72_10, q_72_11⟩, q_72f⟩ := MBox.cells hMx
          obtain ⟨⟨q_73_0, q_73_1, q_73_2, q_73_3, q_73_4, q_73_5, q_73_6, q_73_7, q_73_8, q_73_9, q_73_10, q_73_11⟩, q_73f⟩ := MBox.cells hMy
          go_wp2_with fail
          refine (MSame_any w_71 x y Rx Ry true (hx.out.same hy.out)).mono ?_
          rintro e' w_74 ⟨rfl, hB⟩
          clear q_72_0 q_72_1 q_72_2 q_72_3 q_72_4 q_72_5 q_72_6 q_72_7 q_72_8 q_72_9 q_72_10 q_72_11 q_72f q_73_0 q_73_1 q_73_2 q_73_3 q_73_4 q_73_5 q_73_6 q_73_7 q_73_8 q_73_9 q_73_10 q_73_11 q_73f
          have lw_74 : w_71.heap.size ≤ w_74.heap.size := hB.size
          replace hMa := box_on hMa hB (by omega)
          replace hMb := box_on hMb hB (by omega)
          replace hMc := box_on hMc hB (by omega)
          replace hMx := box_on hMx hB (by omega)
          replace hMy := box_on hMy hB (by omega)
          replace Ra := MRows.on Ra hB
          replace Rb := MRows.on Rb hB
          replace Rc := MRows.on Rc hB
          replace Rx := MRows.on Rx hB
          replace Ry := MRows.on Ry hB
          replace a_ := Amid.on a_ hB
          clear hB
          try clear hww_71
          obtain ⟨⟨q_75_0, q_75_1, q_75_2, q_75_3, q_75_4, q_75_5, q_75_6, q_75_7, q_75_8, q_75_9, q_75_10, q_75_11⟩, q_75f⟩ := MBox.cells hMx
          obtain ⟨⟨q_76_0, q_76_1, q_76_2, q_76_3, q_76_4, q_76_5, q_76_6, q_76_7, q_76_8, q_76_9, q_76_10, q_76_11⟩, q_76f⟩ := MBox.cells hMb
          obtain ⟨TT, gg, hsub⟩ : ∃ T g, subM x b = (T, g) := ⟨_, _, rfl⟩
          have HSUB := Lib.hid hsub
          clear hsub
          go_wp2_with fail
          refine (MSub_num w_74 x b Rx Rb a_.tab TT gg HSUB.out).mono ?_
          rintro e' w_77 ⟨back, rfl, hB, hback, rback⟩
          clear q_75_0 q_75_1 q_75_2 q_75_3 q_75_4 q_75_5 q_75_6 q_75_7 q_75_8 q_75_9 q_75_10 q_75_11 q_75f q_76_0 q_76_1 q_76_2 q_76_3 q_76_4 q_76_5 q_76_6 q_76_7 q_76_8 q_76_9 q_76_10 q_76_11 q_76f
          have lw_77 : w_74.heap.size ≤ w_77.heap.size := hB.size
          replace hMa := box_on hMa hB (by omega)
          replace hMb := box_on hMb hB (by omega)
          replace hMc := box_on hMc hB (by omega)
          replace hMx := box_on hMx hB (by omega)
          replace hMy := box_on hMy hB (by omega)
          replace Ra := MRows.on Ra hB
          replace Rb := MRows.on Rb hB
          replace Rc := MRows.on Rc hB
          replace Rx := MRows.on Rx hB
          replace Ry := MRows.on Ry hB
          replace a_ := Amid.on a_ hB
          have Rback := MRows.more rback (Nat.zero_le _) (Nat.le_refl _)
          clear rback hback
          clear hB
          have hB := (Below.refl w_77.heap.size w_77).alloc (Nat.le_refl _) (.cells #[.bool back.S.s, .slice back.S.A back.S.n back.S.c, .int .i64 back.S.e, .bool back.W.s, .slice back.W.A back.W.n back.W.c, .int .i64 back.W.e, .bool back.C.s, .slice back.C.A back.C.n back.C.c, .int .i64 back.C.e, .bool back.A.s, .slice back.A.A back.A.n back.A.c, .int .i64 back.A.e] 39)
          have hMback : MBox (w_77.alloc (.cells #[.bool back.S.s, .slice back.S.A back.S.n back.S.c, .int .i64 back.S.e, .bool back.W.s, .slice back.W.A back.W.n back.W.c, .int .i64 back.W.e, .bool back.C.s, .slice back.C.A back.C.n back.C.c, .int .i64 back.C.e, .bool back.A.s, .slice back.A.A back.A.n back.A.c, .int .i64 back.A.e] 39)) w_77.heap.size back := heap_alloc_last _ _
          have mw_78 : w_77.heap.size < (w_77.alloc (.cells #[.bool back.S.s, .slice back.S.A back.S.n back.S.c, .int .i64 back.S.e, .bool back.W.s, .slice back.W.A back.W.n back.W.c, .int .i64 back.W.e, .bool back.C.s, .slice back.C.A back.C.n back.C.c, .int .i64 back.C.e, .bool back.A.s, .slice back.A.A back.A.n back.A.c, .int .i64 back.A.e] 39)).heap.size := by simp
          generalize hww_78 : w_77.alloc (.cells #[.bool back.S.s, .slice back.S.A back.S.n back.S.c, .int .i64 back.S.e, .bool back.W.s, .slice back.W.A back.W.n back.W.c, .int .i64 back.W.e, .bool back.C.s, .slice back.C.A back.C.n back.C.c, .int .i64 back.C.e, .bool back.A.s, .slice back.A.A back.A.n back.A.c, .int .i64 back.A.e] 39) = w_78 at *
          have lw_78 : w_77.heap.size ≤ w_78.heap.size := hB.size
          replace hMa := box_on hMa hB (by omega)
          replace hMb := box_on hMb hB (by omega)
          replace hMc := box_on hMc hB (by omega)
          replace hMx := box_on hMx hB (by omega)
          replace hMy := box_on hMy hB (by omega)
          replace Ra := MRows.on Ra hB
          replace Rb := MRows.on Rb hB
          replace Rc := MRows.on Rc hB
          replace Rx := MRows.on Rx hB
          replace Ry := MRows.on Ry hB
          replace Rback := MRows.on Rback hB
          replace a_ := Amid.on a_ hB
          clear hB
          obtain ⟨⟨q_79_0, q_79_1, q_79_2, q_79_3, q_79_4, q_79_5, q_79_6, q_79_7, q_79_8, q_79_9, q_79_10, q_79_11⟩, q_79f⟩ := MBox.cells hMa
          obtain ⟨⟨q_80_0, q_80_1, q_80_2, q_80_3, q_80_4, q_80_5, q_80_6, q_80_7, q_80_8, q_80_9, q_80_10, q_80_11⟩, q_80f⟩ := MBox.cells hMb
          obtain ⟨⟨q_81_0, q_81_1, q_81_2, q_81_3, q_81_4, q_81_5, q_81_6, q_81_7, q_81_8, q_81_9, q_81_10, q_81_11⟩, q_81f⟩ := MBox.cells hMc
          generalize hww_82 : w_78.alloc (.cells #[.bool a.S.s, .slice a.S.A a.S.n a.S.c, .int .i64 a.S.e, .bool a.W.s, .slice a.W.A a.W.n a.W.c, .int .i64 a.W.e, .bool a.C.s, .slice a.C.A a.C.n a.C.c, .int .i64 a.C.e, .bool a.A.s, .slice a.A.A a.A.n a.A.c, .int .i64 a.A.e, .bool b.S.s, .slice b.S.A b.S.n b.S.c, .int .i64 b.S.e, .bool b.W.s, .slice b.W.A b.W.n b.W.c, .int .i64 b.W.e, .bool b.C.s, .slice b.C.A b.C.n b.C.c, .int .i64 b.C.e, .bool b.A.s, .slice b.A.A b.A.n b.A.c, .int .i64 b.A.e, .bool c.S.s, .slice c.S.A c.S.n c.S.c, .int .i64 c.S.e, .bool c.W.s, .slice c.W.A c.W.n c.W.c, .int .i64 c.W.e, .bool c.C.s, .slice c.C.A c.C.n c.C.c, .int .i64 c.C.e, .bool c.A.s, .slice c.A.A c.A.n c.A.c, .int .i64 c.A.e] 39) = w_82 at *
          have hLL := lms_three w_78 a b c Ra Rb Rc hww_82
          have hB : Below w_78.heap.size w_78 w_82 := by rw [← hww_82]; exact (Below.refl _ _).alloc (Nat.le_refl _) _
          have lw_82 : w_78.heap.size ≤ w_82.heap.size := hB.size
          replace hMa := box_on hMa hB (by omega)
          replace hMb := box_on hMb hB (by omega)
          replace hMc := box_on hMc hB (by omega)
          replace hMx := box_on hMx hB (by omega)
          replace hMy := box_on hMy hB (by omega)
          replace hMback := box_on hMback hB (by omega)
          replace Ra := MRows.on Ra hB
          replace Rb := MRows.on Rb hB
          replace Rc := MRows.on Rc hB
          replace Rx := MRows.on Rx hB
          replace Ry := MRows.on Ry hB
          replace Rback := MRows.on Rback hB
          replace a_ := Amid.on a_ hB
          clear hB
          obtain ⟨S, h, hS⟩ : ∃ S h, sumM [a, b, c] = (S, h) := ⟨_, _, rfl⟩
          obtain ⟨T, i, hTT⟩ : ∃ T i, addM x c = (T, i) := ⟨_, _, rfl⟩
          have HS := Lib.hid hS
          have HTT := Lib.hid hTT
          clear hS hTT
          go_wp2_with fail
          refine (MSum_any w_82 _ 3 3 [a, b, c] hLL (by decide) a_.tab S h HS.out).mono ?_
          rintro e' w_83 ⟨s, rfl, hB, hs, rs⟩
          clear q_79_0 q_79_1 q_79_2 q_79_3 q_79_4 q_79_5 q_79_6 q_79_7 q_79_8 q_79_9 q_79_10 q_79_11 q_79f q_80_0 q_80_1 q_80_2 q_80_3 q_80_4 q_80_5 q_80_6 q_80_7 q_80_8 q_80_9 q_80_10 q_80_11 q_80f q_81_0 q_81_1 q_81_2 q_81_3 q_81_4 q_81_5 q_81_6 q_81_7 q_81_8 q_81_9 q_81_10 q_81_11 q_81f
          have lw_83 : w_82.heap.size ≤ w_83.heap.size := hB.size
          replace hMa := box_on hMa hB (by omega)
          replace hMb := box_on hMb hB (by omega)
          replace hMc := box_on hMc hB (by omega)
          replace hMx := box_on hMx hB (by omega)
          replace hMy := box_on hMy hB (by omega)
          replace hMback := box_on hMback hB (by omega)
          replace Ra := MRows.on Ra hB
          replace Rb := MRows.on Rb hB
          replace Rc := MRows.on Rc hB
          replace Rx := MRows.on Rx hB
          replace Ry := MRows.on Ry hB
          replace Rback := MRows.on Rback hB
          replace a_ := Amid.on a_ hB
          clear hLL
          have Rs := MRows.more rs (Nat.zero_le _) (Nat.le_refl _)
          clear rs
          replace hs := Lib.hid hs
          try clear hww_82
          clear hB
          have hB := (Below.refl w_83.heap.size w_83).alloc (Nat.le_refl _) (.cells #[.bool s.S.s, .slice s.S.A s.S.n s.S.c, .int .i64 s.S.e, .bool s.W.s, .slice s.W.A s.W.n s.W.c, .int .i64 s.W.e, .bool s.C.s, .slice s.C.A s.C.n s.C.c, .int .i64 s.C.e, .bool s.A.s, .slice s.A.A s.A.n s.A.c, .int .i64 s.A.e] 39)
          have hMs : MBox (w_83.alloc (.cells #[.bool s.S.s, .slice s.S.A s.S.n s.S.c, .int .i64 s.S.e, .bool s.W.s, .slice s.W.A s.W.n s.W.c, .int .i64 s.W.e, .bool s.C.s, .slice s.C.A s.C.n s.C.c, .int .i64 s.C.e, .bool s.A.s, .slice s.A.A s.A.n s.A.c, .int .i64 s.A.e] 39)) w_83.heap.size s := heap_alloc_last _ _
          have mw_84 : w_83.heap.size < (w_83.alloc (.cells #[.bool s.S.s, .slice s.S.A s.S.n s.S.c, .int .i64 s.S.e, .bool s.W.s, .slice s.W.A s.W.n s.W.c, .int .i64 s.W.e, .bool s.C.s, .slice s.C.A s.C.n s.C.c, .int .i64 s.C.e, .bool s.A.s, .slice s.A.A s.A.n s.A.c, .int .i64 s.A.e] 39)).heap.size := by simp
          generalize hww_84 : w_83.alloc (.cells #[.bool s.S.s, .slice s.S.A s.S.n s.S.c, .int .i64 s.S.e, .bool s.W.s, .slice s.W.A s.W.n s.W.c, .int .i64 s.W.e, .bool s.C.s, .slice s.C.A s.C.n s.C.c, .int .i64 s.C.e, .bool s.A.s, .slice s.A.A s.A.n s.A.c, .int .i64 s.A.e] 39) = w_84 at *
          have lw_84 : w_83.heap.size ≤ w_84.heap.size := hB.size
          replace hMa := box_on hMa hB (by omega)
          replace hMb := box_on hMb hB (by omega)
          replace hMc := box_on hMc hB (by omega)
          replace hMx := box_on hMx hB (by omega)
          replace hMy := box_on hMy hB (by omega)
          replace hMback := box_on hMback hB (by omega)
          replace Ra := MRows.on Ra hB
          replace Rb := MRows.on Rb hB
          replace Rc := MRows.on Rc hB
          replace Rx := MRows.on Rx hB
          replace Ry := MRows.on Ry hB
          replace Rback := MRows.on Rback hB
          replace Rs := MRows.on Rs hB
          replace a_ := Amid.on a_ hB
          clear hB
          obtain ⟨⟨q_85_0, q_85_1, q_85_2, q_85_3, q_85_4, q_85_5, q_85_6, q_85_7, q_85_8, q_85_9, q_85_10, q_85_11⟩, q_85f⟩ := MBox.cells hMx
          obtain ⟨⟨q_86_0, q_86_1, q_86_2, q_86_3, q_86_4, q_86_5, q_86_6, q_86_7, q_86_8, q_86_9, q_86_10, q_86_11⟩, q_86f⟩ := MBox.cells hMc
          go_wp2_with fail
          refine (MAdd_num w_84 x c Rx Rc a_.tab T i HTT.out).mono ?_
          rintro e' w_87 ⟨t, rfl, hB, ht, rt⟩
          clear q_85_0 q_85_1 q_85_2 q_85_3 q_85_4 q_85_5 q_85_6 q_85_7 q_85_8 q_85_9 q_85_10 q_85_11 q_85f q_86_0 q_86_1 q_86_2 q_86_3 q_86_4 q_86_5 q_86_6 q_86_7 q_86_8 q_86_9 q_86_10 q_86_11 q_86f
          have lw_87 : w_84.heap.size ≤ w_87.heap.size := hB.size
          replace hMa := box_on hMa hB (by omega)
          replace hMb := box_on hMb hB (by omega)
          replace hMc := box_on hMc hB (by omega)
          replace hMx := box_on hMx hB (by omega)
          replace hMy := box_on hMy hB (by omega)
          replace hMback := box_on hMback hB (by omega)
          replace hMs := box_on hMs hB (by omega)
          replace Ra := MRows.on Ra hB
          replace Rb := MRows.on Rb hB
          replace Rc := MRows.on Rc hB
          replace Rx := MRows.on Rx hB
          replace Ry := MRows.on Ry hB
          replace Rback := MRows.on Rback hB
          replace Rs := MRows.on Rs hB
          replace a_ := Amid.on a_ hB
          have Rt := MRows.more rt (Nat.zero_le _) (Nat.le_refl _)
          clear rt
          replace ht := Lib.hid ht
          try clear hww_84
          clear hB
          have hB := (Below.refl w_87.heap.size w_87).alloc (Nat.le_refl _) (.cells #[.bool t.S.s, .slice t.S.A t.S.n t.S.c, .int .i64 t.S.e, .bool t.W.s, .slice t.W.A t.W.n t.W.c, .int .i64 t.W.e, .bool t.C.s, .slice t.C.A t.C.n t.C.c, .int .i64 t.C.e, .bool t.A.s, .slice t.A.A t.A.n t.A.c, .int .i64 t.A.e] 39)
          have hMt : MBox (w_87.alloc (.cells #[.bool t.S.s, .slice t.S.A t.S.n t.S.c, .int .i64 t.S.e, .bool t.W.s, .slice t.W.A t.W.n t.W.c, .int .i64 t.W.e, .bool t.C.s, .slice t.C.A t.C.n t.C.c, .int .i64 t.C.e, .bool t.A.s, .slice t.A.A t.A.n t.A.c, .int .i64 t.A.e] 39)) w_87.heap.size t := heap_alloc_last _ _
          have mw_88 : w_87.heap.size < (w_87.alloc (.cells #[.bool t.S.s, .slice t.S.A t.S.n t.S.c, .int .i64 t.S.e, .bool t.W.s, .slice t.W.A t.W.n t.W.c, .int .i64 t.W.e, .bool t.C.s, .slice t.C.A t.C.n t.C.c, .int .i64 t.C.e, .bool t.A.s, .slice t.A.A t.A.n t.A.c, .int .i64 t.A.e] 39)).heap.size := by simp
          generalize hww_88 : w_87.alloc (.cells #[.bool t.S.s, .slice t.S.A t.S.n t.S.c, .int .i64 t.S.e, .bool t.W.s, .slice t.W.A t.W.n t.W.c, .int .i64 t.W.e, .bool t.C.s, .slice t.C.A t.C.n t.C.c, .int .i64 t.C.e, .bool t.A.s, .slice t.A.A t.A.n t.A.c, .int .i64 t.A.e] 39) = w_88 at *
          have lw_88 : w_87.heap.size ≤ w_88.heap.size := hB.size
          replace hMa := box_on hMa hB (by omega)
          replace hMb := box_on hMb hB (by omega)
          replace hMc := box_on hMc hB (by omega)
          replace hMx := box_on hMx hB (by omega)
          replace hMy := box_on hMy hB (by omega)
          replace hMback := box_on hMback hB (by omega)
          replace hMs := box_on hMs hB (by omega)
          replace Ra := MRows.on Ra hB
          replace Rb := MRows.on Rb hB
          replace Rc := MRows.on Rc hB
          replace Rx := MRows.on Rx hB
          replace Ry := MRows.on Ry hB
          replace Rback := MRows.on Rback hB
          replace Rs := MRows.on Rs hB
          replace Rt := MRows.on Rt hB
          replace a_ := Amid.on a_ hB
          clear hB
          go_wp2
          go_ret
          exact ⟨rfl, a_.below⟩
end Ma
end Go.Proofs.YtlbkepiflhchdaaDoor

namespace Go.Proofs.YtlbkepiflhchdaaDoor
open Go.ChangeShapes Go.WideShapes Go.ChangeAt Go.RowKit

set_option maxRecDepth 100000 in
theorem massGroup_lifted (os : Os) (started : os.Started) (H : Type) (enc : TypeId × Value → H) :
    ReturnsInHanded {} Tryd.checked os 14 .any (fun w args => (Rows.massGroupSpec.pre enc Tryd.prog Tryd.f14 [] false w args ∧ laidMetH Tryd.prog Dy.laidT w) ∧ sizedMet enc Tryd.prog Tryd.f14 (OpenSpec.ofChange Rows.massGroupSpec) false w args)
      (Rows.massGroupSpec.post enc Tryd.prog Tryd.f14 false true false false) := by
  refine returnsInHanded_of_change_and (C := Tryd.checked) (X := fun w _ => laidMetH Tryd.prog Dy.laidT w) (fun _ _ _ hh h => h.of_heap hh) Dy.ownKnob_ started (by kernel_rfl) Tryd.func14
    (ChangeSpec.witness_shaped (enc := enc) (C := Tryd.checked) (os := os) (X := fun w _ => laidMetH Tryd.prog Dy.laidT w) false (World.doorLaid Tryd.prog 400 os) #[.agg #[.bool false, .slice none 0 0, .int .i64 0, .bool false, .slice none 0 0, .int .i64 0, .bool false, .slice none 0 0, .int .i64 0, .bool false, .slice none 0 0, .int .i64 0], .agg #[.bool false, .slice none 0 0, .int .i64 0, .bool false, .slice none 0 0, .int .i64 0, .bool false, .slice none 0 0, .int .i64 0, .bool false, .slice none 0 0, .int .i64 0], .agg #[.bool false, .slice none 0 0, .int .i64 0, .bool false, .slice none 0 0, .int .i64 0, .bool false, .slice none 0 0, .int .i64 0, .bool false, .slice none 0 0, .int .i64 0]] 8 rfl (Dy.door_shaped os _) (by kernel_rfl) (by kernel_rfl) (by kernel_rfl) (Dy.door_met os _)) ?_
  intro W base args ds gs before hval0 hW _ _ hL _
  have hval : ∀ (j : Nat) t v, Tryd.f14.params[j]? = some t → args[j]? = some v → Value.okWide Tryd.prog W .any base t v := hval0
  have hW' := hW
  obtain ⟨p, q, hA0, hV, rfl, hfz, hnd⟩ := hW
  have hlt := hW'.lt
  have hA : DataW.TrodAll enc Tryd.prog W 0 (fun _ => true) true Tryd.f14.params.toList args.toList ds p := hA0
  rw [Tryd.params14] at hA hval
  obtain ⟨v0, v1, v2, d0, d1, d2, p0, p1, p2, rfl, rfl, rfl, h0, h1, h2⟩ := trodAll_three hA
  obtain ⟨rfl, rfl⟩ := trodVars_none hV
  obtain ⟨m0, rfl, hc0, hx0⟩ := mass_open Tryd.underlying39 rfl rfl (by kernel_rfl) Tryd.underlying24 (by kernel_rfl) (by kernel_rfl) Tryd.underlying4 Tryd.underlying22 Tryd.underlying52 (by kernel_rfl) Tryd.underlying3 (hval 0 39 v0 rfl rfl) h0 (fun b off hm => hfz b off (by simp [hm])) (fun x hm => hlt x (by simp [hm]))
  obtain ⟨m1, rfl, hc1, hx1⟩ := mass_open Tryd.underlying39 rfl rfl (by kernel_rfl) Tryd.underlying24 (by kernel_rfl) (by kernel_rfl) Tryd.underlying4 Tryd.underlying22 Tryd.underlying52 (by kernel_rfl) Tryd.underlying3 (hval 1 39 v1 rfl rfl) h1 (fun b off hm => hfz b off (by simp [hm])) (fun x hm => hlt x (by simp [hm]))
  obtain ⟨m2, rfl, hc2, hx2⟩ := mass_open Tryd.underlying39 rfl rfl (by kernel_rfl) Tryd.underlying24 (by kernel_rfl) (by kernel_rfl) Tryd.underlying4 Tryd.underlying22 Tryd.underlying52 (by kernel_rfl) Tryd.underlying3 (hval 2 39 v2 rfl rfl) h2 (fun b off hm => hfz b off (by simp [hm])) (fun x hm => hlt x (by simp [hm]))
  exact (Ma.group_walk W m0 hx0 m1 hx1 m2 hx2 (Dy.tab_of_laid hL)).mono fun e W' ⟨he, hb⟩ => ⟨_, he, law_post hW' rfl Tryd.laidOut (by kernel_rfl) (tb := 4) (by kernel_rfl) Tryd.underlying4 rfl rfl rfl hb⟩

theorem massGroup_row : Rows.MassGroupSaid :=
  OpenClaim.holds_of_wide 14 Tryd.f14 rfl rfl rfl rfl rfl rfl rfl ⟨rfl, rfl, rfl, rfl, rfl⟩ rfl rfl rfl rfl rfl (by kernel_rfl) Tryd.func14 (by kernel_rfl)
    (of_decide_eq_true (by kernel_rfl)) (by unfold Func.isWrapper; first | (rw [if_pos (by decide +kernel)]; kernel_rfl) | (rw [if_neg (by decide +kernel)]; exact ⟨rfl, rfl⟩))
    (fun os started H enc _ => massGroup_lifted os started H enc)
theorem massGroup_holds : Rows.MassGroupCardSaid :=
  Claim7.holds_tied_plain_at .later [] [.data] true Rows.massGroupCard.stood.harness false
    massGroup_row (fun _ h => by cases h) (by kernel_rfl) (fun _ h => by cases h) massGroup_row_tie rfl ⟨rfl, rfl⟩ (by kernel_rfl) rfl
    (fun f fn hf hfn => by
      obtain rfl : f = 14 := Option.some.inj ((show Tryd.prog.funcNamed "headcount/headcountlaw06.MassGroup" = some 14 by kernel_rfl).symm.trans hf) |>.symm
      obtain rfl : fn = Tryd.f14 := (Option.some.inj (Tryd.func14.symm.trans hfn)).symm
      exact ⟨by kernel_rfl, fun j t ht => by
        rw [Tryd.params14] at ht
        have hm : t ∈ [39, 39, 39] := by simpa using Array.mem_of_getElem? ht
        have hall : ([39, 39, 39].all fun u => !Tryd.prog.wantsStandIn u) = true := by kernel_rfl
        exact (show Tryd.prog.wantsStandIn t = false by simpa using List.all_eq_true.1 hall t hm)⟩)
    (by kernel_rfl)
#print axioms massGroup_holds
end Go.Proofs.YtlbkepiflhchdaaDoor
