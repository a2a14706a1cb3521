/- mass.Add and mass.Sub: walks (printed by a program of mine). -/
/- mass.Seed: a walk (printed by a program of mine). -/
/- mass.Split: a walk (printed by a program of mine). -/
/- Plain laws about masses' values, and contracts that say the numbers (printed by a program of mine). -/
import Derived.Test.YtlbkepiflhchdaaDoorBm17
import Derived.Test.YtlbkepiflhchdaaDoorBm13
namespace Go.Proofs.YtlbkepiflhchdaaDoor
open Go.RowKit
namespace Ma
open Dp Dy
theorem chk_may {m : Mv} (h : m.may) : chkM m = 0 := if_pos h
theorem chk_not {m : Mv} (h : ¬ m.may) : chkM m = 8 := if_neg h

set_option maxHeartbeats 6400000 in
set_option maxRecDepth 100000 in
theorem eachAdd_bad (w : World) (a b : Mv) (hA : MRows w 0 w.heap.size a) (hBb : MRows w 0 w.heap.size b) (h : ¬ (a.may ∧ b.may)) :
    Calls Tryd.prog 84 #[.agg #[.bool a.S.s, .slice a.S.A a.S.n a.S.c, .int .i64 a.S.e, .bool a.W.s, .slice a.W.A a.W.n a.W.c, .int .i64 a.W.e, .bool a.C.s, .slice a.C.A a.C.n a.C.c, .int .i64 a.C.e, .bool a.A.s, .slice a.A.A a.A.n a.A.c, .int .i64 a.A.e], .agg #[.bool b.S.s, .slice b.S.A b.S.n b.S.c, .int .i64 b.S.e, .bool b.W.s, .slice b.W.A b.W.n b.W.c, .int .i64 b.W.e, .bool b.C.s, .slice b.C.A b.C.n b.C.c, .int .i64 b.C.e, .bool b.A.s, .slice b.A.A b.A.n b.A.c, .int .i64 b.A.e], .func (.func 20) #[] #[]] w fun e w' => e = .returned (.tuple #[.agg #[.bool ZM.S.s, .slice ZM.S.A ZM.S.n ZM.S.c, .int .i64 ZM.S.e, .bool ZM.W.s, .slice ZM.W.A ZM.W.n ZM.W.c, .int .i64 ZM.W.e, .bool ZM.C.s, .slice ZM.C.A ZM.C.n ZM.C.c, .int .i64 ZM.C.e, .bool ZM.A.s, .slice ZM.A.A ZM.A.n ZM.A.c, .int .i64 ZM.A.e], .int .i64 8]) ∧ Below w.heap.size w w' := by
  generalize hw : (((w.alloc (.cells #[.bool a.S.s, .slice a.S.A a.S.n a.S.c, .int .i64 a.S.e, .bool a.W.s, .slice a.W.A a.W.n a.W.c, .int .i64 a.W.e, .bool a.C.s, .slice a.C.A a.C.n a.C.c, .int .i64 a.C.e, .bool a.A.s, .slice a.A.A a.A.n a.A.c, .int .i64 a.A.e] 39)).alloc (.cells #[.bool b.S.s, .slice b.S.A b.S.n b.S.c, .int .i64 b.S.e, .bool b.W.s, .slice b.W.A b.W.n b.W.c, .int .i64 b.W.e, .bool b.C.s, .slice b.C.A b.C.n b.C.c, .int .i64 b.C.e, .bool b.A.s, .slice b.A.A b.A.n b.A.c, .int .i64 b.A.e] 39)).alloc (.cells #[.func (.func 20) #[] #[]] 29)).alloc (.cells #[.bool false, .slice none 0 0, .int .i64 0, .bool false, .slice none 0 0, .int .i64 0, .bool false, .slice none 0 0, .int .i64 0, .bool false, .slice none 0 0, .int .i64 0] 39) = w1
  obtain ⟨⟨hM1, hN1, hF1, hZ1⟩, hB1, hlo, hhi⟩ := boxes4x w _ _ _ _ hw
  replace hZ1 : MBox w1 (w.heap.size + 1 + 1 + 1) ZM := hZ1
  replace hA := hA.below hB1 (Nat.le_refl _)
  replace hBb := hBb.below hB1 (Nat.le_refl _)
  obtain ⟨⟨k0, k1, k2, k3, k4, k5, k6, k7, k8, k9, k10, k11⟩, kf⟩ := MBox.cells (m := a) hM1
  go_enter Tryd.func84, Tryd.ntmps84
  by_cases ha : a.may
  · have hka := Lib.hid (chk_may ha)
    have hkb := Lib.hid (chk_not (fun k => h ⟨ha, k⟩))
    clear h ha
    go_wp2_with fail
    try clear hw
    refine (MCheck_any w1 a (hA.more (Nat.le_refl _) (by omega)) 0 hka.out).mono ?_
    rintro e w2 ⟨rfl, hB2⟩
    clear k0 k1 k2 k3 k4 k5 k6 k7 k8 k9 k10 k11 kf
    have hs2 := hB2.size
    replace hZ1 : MBox w2 (w.heap.size + 1 + 1 + 1) ZM := box_on hZ1 hB2 (by omega)
    replace hN1 := box_on hN1 hB2 (by omega)
    replace hB1 := hB1.trans (hB2.mono (by omega))
    obtain ⟨⟨k0, k1, k2, k3, k4, k5, k6, k7, k8, k9, k10, k11⟩, kf⟩ := MBox.cells (m := b) hN1
    go_wp2_with fail
    refine (MCheck_any w2 b ((hBb.below hB2 (by omega)).more (Nat.le_refl _) (by omega)) 8 hkb.out).mono ?_
    rintro e w3 ⟨rfl, hB3⟩
    clear k0 k1 k2 k3 k4 k5 k6 k7 k8 k9 k10 k11 kf
    have hs3 := hB3.size
    replace hZ1 : MBox w3 (w.heap.size + 1 + 1 + 1) ZM := box_on hZ1 hB3 (by omega)
    replace hB1 := hB1.trans (hB3.mono (by omega))
    obtain ⟨⟨z0, z1, z2, z3, z4, z5, z6, z7, z8, z9, z10, z11⟩, zf⟩ := MBox.cells hZ1
    go_wp2
    clear z0 z1 z2 z3 z4 z5 z6 z7 z8 z9 z10 z11 zf
    have hX := MBox.all hZ1 ZM
    have hX2 : MBox ((((((((((((w3.setCell ⟨w.heap.size + 1 + 1 + 1, 0, none⟩ (.bool false)).setCell ⟨w.heap.size + 1 + 1 + 1, 1, none⟩ (.slice none 0 0)).setCell ⟨w.heap.size + 1 + 1 + 1, 2, none⟩ (.int .i64 0)).setCell ⟨w.heap.size + 1 + 1 + 1, 3, none⟩ (.bool false)).setCell ⟨w.heap.size + 1 + 1 + 1, 4, none⟩ (.slice none 0 0)).setCell ⟨w.heap.size + 1 + 1 + 1, 5, none⟩ (.int .i64 0)).setCell ⟨w.heap.size + 1 + 1 + 1, 6, none⟩ (.bool false)).setCell ⟨w.heap.size + 1 + 1 + 1, 7, none⟩ (.slice none 0 0)).setCell ⟨w.heap.size + 1 + 1 + 1, 8, none⟩ (.int .i64 0)).setCell ⟨w.heap.size + 1 + 1 + 1, 9, none⟩ (.bool false)).setCell ⟨w.heap.size + 1 + 1 + 1, 10, none⟩ (.slice none 0 0)).setCell ⟨w.heap.size + 1 + 1 + 1, 11, none⟩ (.int .i64 0)) (w.heap.size + 1 + 1 + 1) ZM := hX
    have hY : Below w.heap.size w ((((((((((((w3.setCell ⟨w.heap.size + 1 + 1 + 1, 0, none⟩ (.bool false)).setCell ⟨w.heap.size + 1 + 1 + 1, 1, none⟩ (.slice none 0 0)).setCell ⟨w.heap.size + 1 + 1 + 1, 2, none⟩ (.int .i64 0)).setCell ⟨w.heap.size + 1 + 1 + 1, 3, none⟩ (.bool false)).setCell ⟨w.heap.size + 1 + 1 + 1, 4, none⟩ (.slice none 0 0)).setCell ⟨w.heap.size + 1 + 1 + 1, 5, none⟩ (.int .i64 0)).setCell ⟨w.heap.size + 1 + 1 + 1, 6, none⟩ (.bool false)).setCell ⟨w.heap.size + 1 + 1 + 1, 7, none⟩ (.slice none 0 0)).setCell ⟨w.heap.size + 1 + 1 + 1, 8, none⟩ (.int .i64 0)).setCell ⟨w.heap.size + 1 + 1 + 1, 9, none⟩ (.bool false)).setCell ⟨w.heap.size + 1 + 1 + 1, 10, none⟩ (.slice none 0 0)).setCell ⟨w.heap.size + 1 + 1 + 1, 11, none⟩ (.int .i64 0)) := below_all hB1 (show w.heap.size ≤ w.heap.size + 1 + 1 + 1 by omega) ZM
    clear hX
    generalize ((((((((((((w3.setCell ⟨w.heap.size + 1 + 1 + 1, 0, none⟩ (.bool false)).setCell ⟨w.heap.size + 1 + 1 + 1, 1, none⟩ (.slice none 0 0)).setCell ⟨w.heap.size + 1 + 1 + 1, 2, none⟩ (.int .i64 0)).setCell ⟨w.heap.size + 1 + 1 + 1, 3, none⟩ (.bool false)).setCell ⟨w.heap.size + 1 + 1 + 1, 4, none⟩ (.slice none 0 0)).setCell ⟨w.heap.size + 1 + 1 + 1, 5, none⟩ (.int .i64 0)).setCell ⟨w.heap.size + 1 + 1 + 1, 6, none⟩ (.bool false)).setCell ⟨w.heap.size + 1 + 1 + 1, 7, none⟩ (.slice none 0 0)).setCell ⟨w.heap.size + 1 + 1 + 1, 8, none⟩ (.int .i64 0)).setCell ⟨w.heap.size + 1 + 1 + 1, 9, none⟩ (.bool false)).setCell ⟨w.heap.size + 1 + 1 + 1, 10, none⟩ (.slice none 0 0)).setCell ⟨w.heap.size + 1 + 1 + 1, 11, none⟩ (.int .i64 0)) = U at *
    obtain ⟨⟨k0, k1, k2, k3, k4, k5, k6, k7, k8, k9, k10, k11⟩, kf⟩ := MBox.cells hX2
    refine bodyPost_ret (v := .tuple #[.agg #[.bool ZM.S.s, .slice ZM.S.A ZM.S.n ZM.S.c, .int .i64 ZM.S.e, .bool ZM.W.s, .slice ZM.W.A ZM.W.n ZM.W.c, .int .i64 ZM.W.e, .bool ZM.C.s, .slice ZM.C.A ZM.C.n ZM.C.c, .int .i64 ZM.C.e, .bool ZM.A.s, .slice ZM.A.A ZM.A.n ZM.A.c, .int .i64 ZM.A.e], .int .i64 8]) (by simp [results, Tryd.results84, go_sem, k0, k1, k2, k3, k4, k5, k6, k7, k8, k9, k10, k11]) rfl ⟨rfl, hY⟩
  · have hka := Lib.hid (chk_not ha)
    clear h ha
    go_wp2_with fail
    try clear hw
    refine (MCheck_any w1 a (hA.more (Nat.le_refl _) (by omega)) 8 hka.out).mono ?_
    rintro e w2 ⟨rfl, hB2⟩
    clear k0 k1 k2 k3 k4 k5 k6 k7 k8 k9 k10 k11 kf
    have hs2 := hB2.size
    replace hZ1 : MBox w2 (w.heap.size + 1 + 1 + 1) ZM := box_on hZ1 hB2 (by omega)
    replace hB1 := hB1.trans (hB2.mono (by omega))
    obtain ⟨⟨z0, z1, z2, z3, z4, z5, z6, z7, z8, z9, z10, z11⟩, zf⟩ := MBox.cells hZ1
    go_wp2
    clear z0 z1 z2 z3 z4 z5 z6 z7 z8 z9 z10 z11 zf
    have hX := MBox.all hZ1 ZM
    have hX2 : MBox ((((((((((((w2.setCell ⟨w.heap.size + 1 + 1 + 1, 0, none⟩ (.bool false)).setCell ⟨w.heap.size + 1 + 1 + 1, 1, none⟩ (.slice none 0 0)).setCell ⟨w.heap.size + 1 + 1 + 1, 2, none⟩ (.int .i64 0)).setCell ⟨w.heap.size + 1 + 1 + 1, 3, none⟩ (.bool false)).setCell ⟨w.heap.size + 1 + 1 + 1, 4, none⟩ (.slice none 0 0)).setCell ⟨w.heap.size + 1 + 1 + 1, 5, none⟩ (.int .i64 0)).setCell ⟨w.heap.size + 1 + 1 + 1, 6, none⟩ (.bool false)).setCell ⟨w.heap.size + 1 + 1 + 1, 7, none⟩ (.slice none 0 0)).setCell ⟨w.heap.size + 1 + 1 + 1, 8, none⟩ (.int .i64 0)).setCell ⟨w.heap.size + 1 + 1 + 1, 9, none⟩ (.bool false)).setCell ⟨w.heap.size + 1 + 1 + 1, 10, none⟩ (.slice none 0 0)).setCell ⟨w.heap.size + 1 + 1 + 1, 11, none⟩ (.int .i64 0)) (w.heap.size + 1 + 1 + 1) ZM := hX
    have hY : Below w.heap.size w ((((((((((((w2.setCell ⟨w.heap.size + 1 + 1 + 1, 0, none⟩ (.bool false)).setCell ⟨w.heap.size + 1 + 1 + 1, 1, none⟩ (.slice none 0 0)).setCell ⟨w.heap.size + 1 + 1 + 1, 2, none⟩ (.int .i64 0)).setCell ⟨w.heap.size + 1 + 1 + 1, 3, none⟩ (.bool false)).setCell ⟨w.heap.size + 1 + 1 + 1, 4, none⟩ (.slice none 0 0)).setCell ⟨w.heap.size + 1 + 1 + 1, 5, none⟩ (.int .i64 0)).setCell ⟨w.heap.size + 1 + 1 + 1, 6, none⟩ (.bool false)).setCell ⟨w.heap.size + 1 + 1 + 1, 7, none⟩ (.slice none 0 0)).setCell ⟨w.heap.size + 1 + 1 + 1, 8, none⟩ (.int .i64 0)).setCell ⟨w.heap.size + 1 + 1 + 1, 9, none⟩ (.bool false)).setCell ⟨w.heap.size + 1 + 1 + 1, 10, none⟩ (.slice none 0 0)).setCell ⟨w.heap.size + 1 + 1 + 1, 11, none⟩ (.int .i64 0)) := below_all hB1 (show w.heap.size ≤ w.heap.size + 1 + 1 + 1 by omega) ZM
    clear hX
    generalize ((((((((((((w2.setCell ⟨w.heap.size + 1 + 1 + 1, 0, none⟩ (.bool false)).setCell ⟨w.heap.size + 1 + 1 + 1, 1, none⟩ (.slice none 0 0)).setCell ⟨w.heap.size + 1 + 1 + 1, 2, none⟩ (.int .i64 0)).setCell ⟨w.heap.size + 1 + 1 + 1, 3, none⟩ (.bool false)).setCell ⟨w.heap.size + 1 + 1 + 1, 4, none⟩ (.slice none 0 0)).setCell ⟨w.heap.size + 1 + 1 + 1, 5, none⟩ (.int .i64 0)).setCell ⟨w.heap.size + 1 + 1 + 1, 6, none⟩ (.bool false)).setCell ⟨w.heap.size + 1 + 1 + 1, 7, none⟩ (.slice none 0 0)).setCell ⟨w.heap.size + 1 + 1 + 1, 8, none⟩ (.int .i64 0)).setCell ⟨w.heap.size + 1 + 1 + 1, 9, none⟩ (.bool false)).setCell ⟨w.heap.size + 1 + 1 + 1, 10, none⟩ (.slice none 0 0)).setCell ⟨w.heap.size + 1 + 1 + 1, 11, none⟩ (.int .i64 0)) = U at *
    obtain ⟨⟨k0, k1, k2, k3, k4, k5, k6, k7, k8, k9, k10, k11⟩, kf⟩ := MBox.cells hX2
    refine bodyPost_ret (v := .tuple #[.agg #[.bool ZM.S.s, .slice ZM.S.A ZM.S.n ZM.S.c, .int .i64 ZM.S.e, .bool ZM.W.s, .slice ZM.W.A ZM.W.n ZM.W.c, .int .i64 ZM.W.e, .bool ZM.C.s, .slice ZM.C.A ZM.C.n ZM.C.c, .int .i64 ZM.C.e, .bool ZM.A.s, .slice ZM.A.A ZM.A.n ZM.A.c, .int .i64 ZM.A.e], .int .i64 8]) (by simp [results, Tryd.results84, go_sem, k0, k1, k2, k3, k4, k5, k6, k7, k8, k9, k10, k11]) rfl ⟨rfl, hY⟩
/-- What mass.Add answers. -/
def DidAdd (w : World) (a b : Mv) (e : Ending) (w' : World) : Prop := ∃ m' code, e = .returned (.tuple #[.agg #[.bool m'.S.s, .slice m'.S.A m'.S.n m'.S.c, .int .i64 m'.S.e, .bool m'.W.s, .slice m'.W.A m'.W.n m'.W.c, .int .i64 m'.W.e, .bool m'.C.s, .slice m'.C.A m'.C.n m'.C.c, .int .i64 m'.C.e, .bool m'.A.s, .slice m'.A.A m'.A.n m'.A.c, .int .i64 m'.A.e], .int .i64 code]) ∧ Below w.heap.size w w' ∧
  ((code = 0 ∧ (a.may ∧ b.may) ∧ ∀ j, j < 4 → (xAdd a b j).2 = 0 ∧ ResV w' w.heap.size (xAdd a b j).1 (m'.get j)) ∨ (code = 10 ∧ (a.may ∧ b.may) ∧ (∃ j, j < 4 ∧ (xAdd a b j).2 ≠ 0) ∧ m' = ZM) ∨ (code = 8 ∧ ¬ (a.may ∧ b.may) ∧ m' = ZM))
theorem eachAdd_any (w : World) (a b : Mv) (hA : MRows w 0 w.heap.size a) (hBb : MRows w 0 w.heap.size b) (hT : Tab w) :
    Calls Tryd.prog 84 #[.agg #[.bool a.S.s, .slice a.S.A a.S.n a.S.c, .int .i64 a.S.e, .bool a.W.s, .slice a.W.A a.W.n a.W.c, .int .i64 a.W.e, .bool a.C.s, .slice a.C.A a.C.n a.C.c, .int .i64 a.C.e, .bool a.A.s, .slice a.A.A a.A.n a.A.c, .int .i64 a.A.e], .agg #[.bool b.S.s, .slice b.S.A b.S.n b.S.c, .int .i64 b.S.e, .bool b.W.s, .slice b.W.A b.W.n b.W.c, .int .i64 b.W.e, .bool b.C.s, .slice b.C.A b.C.n b.C.c, .int .i64 b.C.e, .bool b.A.s, .slice b.A.A b.A.n b.A.c, .int .i64 b.A.e], .func (.func 20) #[] #[]] w (DidAdd w a b) := by
  by_cases h : a.may ∧ b.may
  · refine (eachAdd_ok w a b hA hBb h.1 h.2 hT).mono ?_
    rintro e w' ⟨m', code, h1, h2, h3⟩
    refine ⟨m', code, h1, h2, ?_⟩
    rcases h3 with ⟨h3, h4⟩ | ⟨h3, h4, h5⟩
    · exact .inl ⟨h3, h, h4⟩
    · exact .inr (.inl ⟨h3, h, h4, h5⟩)
  · refine (eachAdd_bad w a b hA hBb h).mono ?_
    rintro e w' ⟨h1, h2⟩
    exact ⟨ZM, 8, h1, h2, .inr (.inr ⟨rfl, h, rfl⟩)⟩
set_option maxHeartbeats 6400000 in
set_option maxRecDepth 100000 in
/-- mass.Add. -/
theorem MAdd_any (w : World) (a b : Mv) (hA : MRows w 0 w.heap.size a) (hBb : MRows w 0 w.heap.size b) (hT : Tab w) :
    Calls Tryd.prog 51 #[.agg #[.bool a.S.s, .slice a.S.A a.S.n a.S.c, .int .i64 a.S.e, .bool a.W.s, .slice a.W.A a.W.n a.W.c, .int .i64 a.W.e, .bool a.C.s, .slice a.C.A a.C.n a.C.c, .int .i64 a.C.e, .bool a.A.s, .slice a.A.A a.A.n a.A.c, .int .i64 a.A.e], .agg #[.bool b.S.s, .slice b.S.A b.S.n b.S.c, .int .i64 b.S.e, .bool b.W.s, .slice b.W.A b.W.n b.W.c, .int .i64 b.W.e, .bool b.C.s, .slice b.C.A b.C.n b.C.c, .int .i64 b.C.e, .bool b.A.s, .slice b.A.A b.A.n b.A.c, .int .i64 b.A.e]] w (DidAdd w a b) := by
  generalize hw : ((w.alloc (.cells #[.bool a.S.s, .slice a.S.A a.S.n a.S.c, .int .i64 a.S.e, .bool a.W.s, .slice a.W.A a.W.n a.W.c, .int .i64 a.W.e, .bool a.C.s, .slice a.C.A a.C.n a.C.c, .int .i64 a.C.e, .bool a.A.s, .slice a.A.A a.A.n a.A.c, .int .i64 a.A.e] 39)).alloc (.cells #[.bool b.S.s, .slice b.S.A b.S.n b.S.c, .int .i64 b.S.e, .bool b.W.s, .slice b.W.A b.W.n b.W.c, .int .i64 b.W.e, .bool b.C.s, .slice b.C.A b.C.n b.C.c, .int .i64 b.C.e, .bool b.A.s, .slice b.A.A b.A.n b.A.c, .int .i64 b.A.e] 39)).alloc (.cells #[.bool false, .slice none 0 0, .int .i64 0, .bool false, .slice none 0 0, .int .i64 0, .bool false, .slice none 0 0, .int .i64 0, .bool false, .slice none 0 0, .int .i64 0] 39) = w1
  obtain ⟨hM1, hN1, hZ1, hB1, hlo, hhi⟩ := boxes3 w _ _ _ hw
  replace hZ1 : MBox w1 (w.heap.size + 1 + 1) ZM := hZ1
  replace hA := hA.below hB1 (Nat.le_refl _)
  replace hBb := hBb.below hB1 (Nat.le_refl _)
  have tT := hT.below hB1 hT.lt
  obtain ⟨⟨k0, k1, k2, k3, k4, k5, k6, k7, k8, k9, k10, k11⟩, kf⟩ := MBox.cells (m := a) hM1
  obtain ⟨⟨z0, z1, z2, z3, z4, z5, z6, z7, z8, z9, z10, z11⟩, zf⟩ := MBox.cells (m := b) hN1
  go_enter Tryd.func51, Tryd.ntmps51
  go_wp2_with fail
  try clear hw
  clear k0 k1 k2 k3 k4 k5 k6 k7 k8 k9 k10 k11 kf z0 z1 z2 z3 z4 z5 z6 z7 z8 z9 z10 z11 zf
  refine (eachAdd_any w1 a b (hA.more (Nat.le_refl _) (by omega)) (hBb.more (Nat.le_refl _) (by omega)) tT).mono ?_
  rintro e V ⟨m', code, rfl, hB2, hres⟩
  have hs2 := hB2.size
  replace hZ1 : MBox V (w.heap.size + 1 + 1) ZM := box_on hZ1 hB2 (by omega)
  replace hB1 := hB1.trans (hB2.mono (by omega))
  obtain ⟨⟨z0, z1, z2, z3, z4, z5, z6, z7, z8, z9, z10, z11⟩, zf⟩ := MBox.cells hZ1
  go_wp2
  clear z0 z1 z2 z3 z4 z5 z6 z7 z8 z9 z10 z11 zf
  have hX := MBox.all hZ1 m'
  have hY := below_all hB1 (show w.heap.size ≤ w.heap.size + 1 + 1 by omega) m'
  have hs := size_all (w := V) (g := w.heap.size + 1 + 1) m'
  have hfar : ∀ k, k ≠ w.heap.size + 1 + 1 → (((((((((((((V.setCell ⟨w.heap.size + 1 + 1, 0, none⟩ (.bool m'.S.s)).setCell ⟨w.heap.size + 1 + 1, 1, none⟩ (.slice m'.S.A m'.S.n m'.S.c)).setCell ⟨w.heap.size + 1 + 1, 2, none⟩ (.int .i64 m'.S.e)).setCell ⟨w.heap.size + 1 + 1, 3, none⟩ (.bool m'.W.s)).setCell ⟨w.heap.size + 1 + 1, 4, none⟩ (.slice m'.W.A m'.W.n m'.W.c)).setCell ⟨w.heap.size + 1 + 1, 5, none⟩ (.int .i64 m'.W.e)).setCell ⟨w.heap.size + 1 + 1, 6, none⟩ (.bool m'.C.s)).setCell ⟨w.heap.size + 1 + 1, 7, none⟩ (.slice m'.C.A m'.C.n m'.C.c)).setCell ⟨w.heap.size + 1 + 1, 8, none⟩ (.int .i64 m'.C.e)).setCell ⟨w.heap.size + 1 + 1, 9, none⟩ (.bool m'.A.s)).setCell ⟨w.heap.size + 1 + 1, 10, none⟩ (.slice m'.A.A m'.A.n m'.A.c)).setCell ⟨w.heap.size + 1 + 1, 11, none⟩ (.int .i64 m'.A.e))).heap[k]? = V.heap[k]? := fun k hk => far_all hk m'
  generalize ((((((((((((V.setCell ⟨w.heap.size + 1 + 1, 0, none⟩ (.bool m'.S.s)).setCell ⟨w.heap.size + 1 + 1, 1, none⟩ (.slice m'.S.A m'.S.n m'.S.c)).setCell ⟨w.heap.size + 1 + 1, 2, none⟩ (.int .i64 m'.S.e)).setCell ⟨w.heap.size + 1 + 1, 3, none⟩ (.bool m'.W.s)).setCell ⟨w.heap.size + 1 + 1, 4, none⟩ (.slice m'.W.A m'.W.n m'.W.c)).setCell ⟨w.heap.size + 1 + 1, 5, none⟩ (.int .i64 m'.W.e)).setCell ⟨w.heap.size + 1 + 1, 6, none⟩ (.bool m'.C.s)).setCell ⟨w.heap.size + 1 + 1, 7, none⟩ (.slice m'.C.A m'.C.n m'.C.c)).setCell ⟨w.heap.size + 1 + 1, 8, none⟩ (.int .i64 m'.C.e)).setCell ⟨w.heap.size + 1 + 1, 9, none⟩ (.bool m'.A.s)).setCell ⟨w.heap.size + 1 + 1, 10, none⟩ (.slice m'.A.A m'.A.n m'.A.c)).setCell ⟨w.heap.size + 1 + 1, 11, none⟩ (.int .i64 m'.A.e)) = U at *
  obtain ⟨⟨k0, k1, k2, k3, k4, k5, k6, k7, k8, k9, k10, k11⟩, kf⟩ := MBox.cells hX
  refine bodyPost_ret (v := .tuple #[.agg #[.bool m'.S.s, .slice m'.S.A m'.S.n m'.S.c, .int .i64 m'.S.e, .bool m'.W.s, .slice m'.W.A m'.W.n m'.W.c, .int .i64 m'.W.e, .bool m'.C.s, .slice m'.C.A m'.C.n m'.C.c, .int .i64 m'.C.e, .bool m'.A.s, .slice m'.A.A m'.A.n m'.A.c, .int .i64 m'.A.e], .int .i64 code]) (by simp [results, Tryd.results51, go_sem, k0, k1, k2, k3, k4, k5, k6, k7, k8, k9, k10, k11]) rfl ⟨m', code, rfl, hY, ?_⟩
  rcases hres with ⟨h1, h2, h3⟩ | h | h
  · refine .inl ⟨h1, h2, fun j hj => ?_⟩
    obtain ⟨y1, y2, y3, y4, y5, y6⟩ := h3 j hj
    have hs' : U.heap.size = V.heap.size := hs
    exact ⟨y1, y2, y3, y4, y5, (ints_blocks y6 (fun k h1 => hfar k (by omega))).more (by omega) (by omega)⟩
  · exact .inr (.inl h)
  · exact .inr (.inr h)

/-- What mass.Sub answers. -/
def DidSub (w : World) (a b : Mv) (e : Ending) (w' : World) : Prop := ∃ m' code, e = .returned (.tuple #[.agg #[.bool m'.S.s, .slice m'.S.A m'.S.n m'.S.c, .int .i64 m'.S.e, .bool m'.W.s, .slice m'.W.A m'.W.n m'.W.c, .int .i64 m'.W.e, .bool m'.C.s, .slice m'.C.A m'.C.n m'.C.c, .int .i64 m'.C.e, .bool m'.A.s, .slice m'.A.A m'.A.n m'.A.c, .int .i64 m'.A.e], .int .i64 code]) ∧ Below w.heap.size w w' ∧
  ((code = 0 ∧ (a.may ∧ b.may) ∧ ∀ j, j < 4 → (xSub a b j).2 = 0 ∧ ResV w' w.heap.size (xSub a b j).1 (m'.get j)) ∨ (code = 10 ∧ (a.may ∧ b.may) ∧ (∃ j, j < 4 ∧ (xSub a b j).2 ≠ 0) ∧ m' = ZM) ∨ (code = 8 ∧ ¬ (a.may ∧ b.may) ∧ m' = ZM))
end Ma
end Go.Proofs.YtlbkepiflhchdaaDoor

namespace Go.Proofs.YtlbkepiflhchdaaDoor
open Go.RowKit
namespace Ma
open Dp Dy
theorem ints_rng {w w' : World} {lo hi n : Nat} {k : IntKind} {A : Option Addr} {xs : List Int} (h : Ints w lo hi k A n xs) (hk : ∀ b, lo ≤ b → b < hi → w'.heap[b]? = w.heap[b]?) : Ints w' lo hi k A n xs :=
  ⟨h.len, h.wf, h.big, fun h0 => by
    obtain ⟨b, off, e, h1, h2, hc⟩ := h.row h0
    have h3 := hk b h1 h2
    exact ⟨b, off, e, h1, h2, fun j hj => ⟨by rw [World.cell?_of_block h3]; exact (hc j hj).1, by rw [World.frozen?_of_block h3]; exact (hc j hj).2⟩⟩⟩
/-- What a node begins with. -/
def seedD (x : Int) (first : Bool) (j : Nat) : Dn := match j with
  | 0 => ⟨decide (x < 0), x.natAbs, 0⟩
  | 1 => ⟨false, 1, 0⟩
  | 2 => if first then ⟨false, 1, 0⟩ else Dn.zero
  | _ => ⟨decide (x < 0), x.natAbs, 0⟩
end Ma
end Go.Proofs.YtlbkepiflhchdaaDoor

namespace Go.Proofs.YtlbkepiflhchdaaDoor
open Go.RowKit
namespace Ma
open Dp Dy
theorem rows_rng {w w' : World} {lo hi : Nat} {m : Mv} (h : MRows w lo hi m) (hk : ∀ b, lo ≤ b → b < hi → w'.heap[b]? = w.heap[b]?) : MRows w' lo hi m := ⟨ints_rng h.S hk, ints_rng h.W hk, ints_rng h.C hk, ints_rng h.A hk⟩
theorem half_two {d : Dv} {r : Dn} {code : Int} (hd : d.may) (h : halfX d.s d.xs d.e = (r, code)) : code = 0 ∨ code = 10 := by
  rw [halfX_ok hd] at h
  rcases half_cases (dn d.s d.xs d.e) with k | k
  · rw [h] at k
    exact .inl k
  · rw [h] at k
    injection k with _ k
    exact .inr k
end Ma
end Go.Proofs.YtlbkepiflhchdaaDoor

namespace Go.Proofs.YtlbkepiflhchdaaDoor
open Go.RowKit
namespace Ma
open Dp Dy
/-- d is the form of the number r. -/
def Is (r : Dn) (d : Dv) : Prop := d.s = r.neg ∧ d.e = r.e ∧ d.xs = canon 4294967296 r.m
theorem ResV.is {W : World} {lo : Nat} {r : Dn} {d : Dv} (h : ResV W lo r d) : Is r d := ⟨h.1, h.2.1, h.2.2.1⟩
theorem ResV.row {W : World} {lo : Nat} {r : Dn} {d : Dv} (h : ResV W lo r d) : Ints W lo W.heap.size .u32 d.A d.n d.xs := h.2.2.2.2
theorem Is.may {r : Dn} {d : Dv} (h : Is r d) (hr : r.May) : d.may := by
  unfold Dv.may
  rw [h.1, h.2.1, h.2.2]
  exact dn_may hr
theorem Is.same {r : Dn} {d d' : Dv} (h : Is r d) (h' : Is r d') : sameV d d' = true := by
  unfold sameV
  rw [h.1, h.2.1, h.2.2, h'.1, h'.2.1, h'.2.2]
  exact Pa.Dy.same_refl _
theorem Is.of {d : Dv} (hd : Dig 4294967296 d.xs) (hm : d.may) : Is (dn d.s d.xs d.e) d := ⟨rfl, (dn_ok hd hm).2.2.symm, (dn_ok hd hm).2.1.symm⟩
theorem Is.twin {r : Dn} {d d' : Dv} (h : Is r d) (ht : TwinV d d') : Is r d' := ⟨ht.1.trans h.1, ht.2.2.1.trans h.2.1, ht.2.2.2.1.trans h.2.2⟩
theorem Is.zero : Is Dn.zero ⟨false, none, 0, 0, 0, []⟩ := ⟨rfl, rfl, rfl⟩
theorem Is.add {r r' : Dn} {d d' : Dv} (h : Is r d) (h' : Is r' d') (hr : r.May) (hr' : r'.May) : addX d.s d.xs d.e d'.s d'.xs d'.e = addD r r' := by
  rw [addX_ok (h.may hr) (h'.may hr'), h.1, h.2.1, h.2.2, h'.1, h'.2.1, h'.2.2, dn_of, dn_of]
theorem Is.sub {r r' : Dn} {d d' : Dv} (h : Is r d) (h' : Is r' d') (hr : r.May) (hr' : r'.May) : subX d.s d.xs d.e d'.s d'.xs d'.e = subD r r' := by
  rw [subX_ok (h.may hr) (h'.may hr'), h.1, h.2.1, h.2.2, h'.1, h'.2.1, h'.2.2, dn_of, dn_of]
theorem Is.half {r : Dn} {d : Dv} (h : Is r d) (hr : r.May) : halfX d.s d.xs d.e = halfD r := by
  rw [halfX_ok (h.may hr), h.1, h.2.1, h.2.2, dn_of]
theorem add_zero {a : Dn} (ha : a.May) : addD a Dn.zero = (a, 0) :=
  add_of ha (K := a.e) (Nat.le_refl _) (Nat.zero_le _) (Nat.le_refl _) (by rw [vl_zero]; omega)
theorem zero_add {a : Dn} (ha : a.May) : addD Dn.zero a = (a, 0) := by rw [add_comm]; exact add_zero ha
/-- m is the form of the numbers R. -/
def IsM (R : Nat → Dn) (m : Mv) : Prop := ∀ x, x < 4 → Is (R x) (m.get x)
def MayR (R : Nat → Dn) : Prop := ∀ x, x < 4 → (R x).May
def dnM (m : Mv) (x : Nat) : Dn := dn (m.get x).s (m.get x).xs (m.get x).e
def zR (_ : Nat) : Dn := Dn.zero
theorem zR_may : MayR zR := fun _ _ => zero_may
theorem IsM.zero : IsM zR ZM := four Is.zero Is.zero Is.zero Is.zero
theorem IsM.same {R : Nat → Dn} {a b : Mv} (h : IsM R a) (h' : IsM R b) : sameM a b = true := (sameM_iff a b).2 fun x hx => (h x hx).same (h' x hx)
theorem IsM.may {R : Nat → Dn} {m : Mv} (h : IsM R m) (hr : MayR R) : m.may := fun x hx => (h x hx).may (hr x hx)
theorem IsM.of {w : World} {lo hi : Nat} {m : Mv} (hR : MRows w lo hi m) (h : m.may) : IsM (dnM m) m := fun x hx => Is.of (dig_ints (hR.get x)) (h x hx)
theorem dnM_may {w : World} {lo hi : Nat} {m : Mv} (hR : MRows w lo hi m) (h : m.may) : MayR (dnM m) := fun x hx => (dn_ok (dig_ints (hR.get x)) (h x hx)).1
theorem IsM.add {R S : Nat → Dn} {a b : Mv} (h : IsM R a) (h' : IsM S b) (hr : MayR R) (hs : MayR S) {x : Nat} (hx : x < 4) : xAdd a b x = addD (R x) (S x) := (h x hx).add (h' x hx) (hr x hx) (hs x hx)
theorem IsM.sub {R S : Nat → Dn} {a b : Mv} (h : IsM R a) (h' : IsM S b) (hr : MayR R) (hs : MayR S) {x : Nat} (hx : x < 4) : xSub a b x = subD (R x) (S x) := (h x hx).sub (h' x hx) (hr x hx) (hs x hx)
theorem IsM.twin {R : Nat → Dn} {a b : Mv} (h : IsM R a) (ht : ∀ x, x < 4 → TwinV (a.get x) (b.get x)) : IsM R b := fun x hx => (h x hx).twin (ht x hx)
theorem rows_res {W : World} {lo : Nat} {R : Nat → Dn} {m : Mv} (h : ∀ j, j < 4 → ResV W lo (R j) (m.get j)) : MRows W lo W.heap.size m := ⟨(h 0 (by decide)).row, (h 1 (by decide)).row, (h 2 (by decide)).row, (h 3 (by decide)).row⟩
open Classical in
/-- What a sum is, whatever the masses. -/
noncomputable def addM (a b : Mv) : (Nat → Dn) × Int := if a.may ∧ b.may then (if ∀ j, j < 4 → (xAdd a b j).2 = 0 then (fun j => (xAdd a b j).1, 0) else (zR, 10)) else (zR, 8)
open Classical in
noncomputable def subM (a b : Mv) : (Nat → Dn) × Int := if a.may ∧ b.may then (if ∀ j, j < 4 → (xSub a b j).2 = 0 then (fun j => (xSub a b j).1, 0) else (zR, 10)) else (zR, 8)
theorem ZM_rows (w : World) (lo hi : Nat) : MRows w lo hi ZM := ⟨Ints.nil_ .., Ints.nil_ .., Ints.nil_ .., Ints.nil_ ..⟩
theorem addM_may (a b : Mv) : MayR (addM a b).1 := fun x _ => by
  unfold addM
  split
  · split
    · exact addX_may ..
    · exact zero_may
  · exact zero_may
theorem subM_may (a b : Mv) : MayR (subM a b).1 := fun x _ => by
  unfold subM
  split
  · split
    · exact subX_may ..
    · exact zero_may
  · exact zero_may
theorem addM_of {R S T : Nat → Dn} {a b : Mv} (ha : IsM R a) (hb : IsM S b) (hr : MayR R) (hs : MayR S) (hs2 : ∀ x, x < 4 → addD (R x) (S x) = (T x, 0)) : ∃ T', addM a b = (T', 0) ∧ ∀ x, x < 4 → T' x = T x := by
  have hx : ∀ x, x < 4 → xAdd a b x = (T x, 0) := fun x hx => (ha.add hb hr hs hx).trans (hs2 x hx)
  refine ⟨fun j => (xAdd a b j).1, ?_, fun x h => by show (xAdd a b x).1 = T x; rw [hx x h]⟩
  unfold addM
  rw [if_pos ⟨ha.may hr, hb.may hs⟩, if_pos fun j hj => by rw [hx j hj]]
theorem MAdd_num (w : World) (a b : Mv) (hA : MRows w 0 w.heap.size a) (hB : MRows w 0 w.heap.size b) (hT : Tab w) (R : Nat → Dn) (code : Int) (hR : addM a b = (R, code)) :
    Calls Tryd.prog 51 #[.agg #[.bool a.S.s, .slice a.S.A a.S.n a.S.c, .int .i64 a.S.e, .bool a.W.s, .slice a.W.A a.W.n a.W.c, .int .i64 a.W.e, .bool a.C.s, .slice a.C.A a.C.n a.C.c, .int .i64 a.C.e, .bool a.A.s, .slice a.A.A a.A.n a.A.c, .int .i64 a.A.e], .agg #[.bool b.S.s, .slice b.S.A b.S.n b.S.c, .int .i64 b.S.e, .bool b.W.s, .slice b.W.A b.W.n b.W.c, .int .i64 b.W.e, .bool b.C.s, .slice b.C.A b.C.n b.C.c, .int .i64 b.C.e, .bool b.A.s, .slice b.A.A b.A.n b.A.c, .int .i64 b.A.e]] w fun e w' => ∃ m' : Mv, e = .returned (.tuple #[.agg #[.bool m'.S.s, .slice m'.S.A m'.S.n m'.S.c, .int .i64 m'.S.e, .bool m'.W.s, .slice m'.W.A m'.W.n m'.W.c, .int .i64 m'.W.e, .bool m'.C.s, .slice m'.C.A m'.C.n m'.C.c, .int .i64 m'.C.e, .bool m'.A.s, .slice m'.A.A m'.A.n m'.A.c, .int .i64 m'.A.e], .int .i64 code]) ∧ Below w.heap.size w w' ∧ IsM R m' ∧ MRows w' w.heap.size w'.heap.size m' := by
  refine (MAdd_any w a b hA hB hT).mono ?_
  rintro e w' ⟨m', code', rfl, hBl, h⟩
  unfold addM at hR
  rcases h with ⟨rfl, hm, h⟩ | ⟨rfl, hm, ⟨j, hj, hn⟩, rfl⟩ | ⟨rfl, hn, rfl⟩
  · rw [if_pos hm, if_pos fun j hj => (h j hj).1] at hR
    injection hR with h1 h2
    subst h1 h2
    exact ⟨m', rfl, hBl, fun x hx => (h x hx).2.is, rows_res fun j hj => (h j hj).2⟩
  · rw [if_pos hm, if_neg fun k => hn (k j hj)] at hR
    injection hR with h1 h2
    subst h1 h2
    exact ⟨ZM, rfl, hBl, IsM.zero, ZM_rows ..⟩
  · rw [if_neg hn] at hR
    injection hR with h1 h2
    subst h1 h2
    exact ⟨ZM, rfl, hBl, IsM.zero, ZM_rows ..⟩
open Classical in
/-- What is kept and sent. -/
noncomputable def splitM (m : Mv) : ((Nat → Dn) × (Nat → Dn)) × Int :=
  if m.may then (if (halfX m.S.s m.S.xs m.S.e).2 = 0 ∧ (halfX m.W.s m.W.xs m.W.e).2 = 0 then
    ((fun x => if x = 0 then (halfX m.S.s m.S.xs m.S.e).1 else if x = 1 then (halfX m.W.s m.W.xs m.W.e).1 else dnM m x, fun x => if x = 0 then (halfX m.S.s m.S.xs m.S.e).1 else if x = 1 then (halfX m.W.s m.W.xs m.W.e).1 else Dn.zero), 0)
    else ((zR, zR), 10)) else ((zR, zR), 8)
end Ma
end Go.Proofs.YtlbkepiflhchdaaDoor
