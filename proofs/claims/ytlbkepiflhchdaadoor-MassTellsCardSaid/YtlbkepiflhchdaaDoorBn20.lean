/- mass.Add and mass.Sub: walks (printed by a program of mine). -/
/- mass.Seed: a walk (printed by a program of mine). -/
import Derived.Test.YtlbkepiflhchdaaDoorBn19
namespace Go.Proofs.YtlbkepiflhchdaaDoor
open Go.RowKit
namespace Ma
open Dp Dy
theorem chk_may {m : Mv} (h : m.may) : chkM m = 0 := if_pos h
theorem chk_not {m : Mv} (h : ¬ m.may) : chkM m = 8 := if_neg h

set_option maxHeartbeats 6400000 in
set_option maxRecDepth 100000 in
theorem eachAdd_bad (w : World) (a b : Mv) (hA : MRows w 0 w.heap.size a) (hBb : MRows w 0 w.heap.size b) (h : ¬ (a.may ∧ b.may)) :
    Calls Tryd.prog 84 #[.agg #[.bool a.S.s, .slice a.S.A a.S.n a.S.c, .int .i64 a.S.e, .bool a.W.s, .slice a.W.A a.W.n a.W.c, .int .i64 a.W.e, .bool a.C.s, .slice a.C.A a.C.n a.C.c, .int .i64 a.C.e, .bool a.A.s, .slice a.A.A a.A.n a.A.c, .int .i64 a.A.e], .agg #[.bool b.S.s, .slice b.S.A b.S.n b.S.c, .int .i64 b.S.e, .bool b.W.s, .slice b.W.A b.W.n b.W.c, .int .i64 b.W.e, .bool b.C.s, .slice b.C.A b.C.n b.C.c, .int .i64 b.C.e, .bool b.A.s, .slice b.A.A b.A.n b.A.c, .int .i64 b.A.e], .func (.func 20) #[] #[]] w fun e w' => e = .returned (.tuple #[.agg #[.bool ZM.S.s, .slice ZM.S.A ZM.S.n ZM.S.c, .int .i64 ZM.S.e, .bool ZM.W.s, .slice ZM.W.A ZM.W.n ZM.W.c, .int .i64 ZM.W.e, .bool ZM.C.s, .slice ZM.C.A ZM.C.n ZM.C.c, .int .i64 ZM.C.e, .bool ZM.A.s, .slice ZM.A.A ZM.A.n ZM.A.c, .int .i64 ZM.A.e], .int .i64 8]) ∧ Below w.heap.size w w' := by
  generalize hw : (((w.alloc (.cells #[.bool a.S.s, .slice a.S.A a.S.n a.S.c, .int .i64 a.S.e, .bool a.W.s, .slice a.W.A a.W.n a.W.c, .int .i64 a.W.e, .bool a.C.s, .slice a.C.A a.C.n a.C.c, .int .i64 a.C.e, .bool a.A.s, .slice a.A.A a.A.n a.A.c, .int .i64 a.A.e] 39)).alloc (.cells #[.bool b.S.s, .slice b.S.A b.S.n b.S.c, .int .i64 b.S.e, .bool b.W.s, .slice b.W.A b.W.n b.W.c, .int .i64 b.W.e, .bool b.C.s, .slice b.C.A b.C.n b.C.c, .int .i64 b.C.e, .bool b.A.s, .slice b.A.A b.A.n b.A.c, .int .i64 b.A.e] 39)).alloc (.cells #[.func (.func 20) #[] #[]] 29)).alloc (.cells #[.bool false, .slice none 0 0, .int .i64 0, .bool false, .slice none 0 0, .int .i64 0, .bool false, .slice none 0 0, .int .i64 0, .bool false, .slice none 0 0, .int .i64 0] 39) = w1
  obtain ⟨⟨hM1, hN1, hF1, hZ1⟩, hB1, hlo, hhi⟩ := boxes4x w _ _ _ _ hw
  replace hZ1 : MBox w1 (w.heap.size + 1 + 1 + 1) ZM := hZ1
  replace hA := hA.below hB1 (Nat.le_refl _)
  replace hBb := hBb.below hB1 (Nat.le_refl _)
  obtain ⟨⟨k0, k1, k2, k3, k4, k5, k6, k7, k8, k9, k10, k11⟩, kf⟩ := MBox.cells (m := a) hM1
  go_enter Tryd.func84, Tryd.ntmps84
  by_cases ha : a.may
  · have hka := Lib.hid (chk_may ha)
    have hkb := Lib.hid (chk_not (fun k => h ⟨ha, k⟩))
    clear h ha
    go_wp2_with fail
    try clear hw
    refine (MCheck_any w1 a (hA.more (Nat.le_refl _) (by omega)) 0 hka.out).mono ?_
    rintro e w2 ⟨rfl, hB2⟩
    clear k0 k1 k2 k3 k4 k5 k6 k7 k8 k9 k10 k11 kf
    have hs2 := hB2.size
    replace hZ1 : MBox w2 (w.heap.size + 1 + 1 + 1) ZM := box_on hZ1 hB2 (by omega)
    replace hN1 := box_on hN1 hB2 (by omega)
    replace hB1 := hB1.trans (hB2.mono (by omega))
    obtain ⟨⟨k0, k1, k2, k3, k4, k5, k6, k7, k8, k9, k10, k11⟩, kf⟩ := MBox.cells (m := b) hN1
    go_wp2_with fail
    refine (MCheck_any w2 b ((hBb.below hB2 (by omega)).more (Nat.le_refl _) (by omega)) 8 hkb.out).mono ?_
    rintro e w3 ⟨rfl, hB3⟩
    clear k0 k1 k2 k3 k4 k5 k6 k7 k8 k9 k10 k11 kf
    have hs3 := hB3.size
    replace hZ1 : MBox w3 (w.heap.size + 1 + 1 + 1) ZM := box_on hZ1 hB3 (by omega)
    replace hB1 := hB1.trans (hB3.mono (by omega))
    obtain ⟨⟨z0, z1, z2, z3, z4, z5, z6, z7, z8, z9, z10, z11⟩, zf⟩ := MBox.cells hZ1
    go_wp2
    clear z0 z1 z2 z3 z4 z5 z6 z7 z8 z9 z10 z11 zf
    have hX := MBox.all hZ1 ZM
    have hX2 : MBox ((((((((((((w3.setCell ⟨w.heap.size + 1 + 1 + 1, 0, none⟩ (.bool false)).setCell ⟨w.heap.size + 1 + 1 + 1, 1, none⟩ (.slice none 0 0)).setCell ⟨w.heap.size + 1 + 1 + 1, 2, none⟩ (.int .i64 0)).setCell ⟨w.heap.size + 1 + 1 + 1, 3, none⟩ (.bool false)).setCell ⟨w.heap.size + 1 + 1 + 1, 4, none⟩ (.slice none 0 0)).setCell ⟨w.heap.size + 1 + 1 + 1, 5, none⟩ (.int .i64 0)).setCell ⟨w.heap.size + 1 + 1 + 1, 6, none⟩ (.bool false)).setCell ⟨w.heap.size + 1 + 1 + 1, 7, none⟩ (.slice none 0 0)).setCell ⟨w.heap.size + 1 + 1 + 1, 8, none⟩ (.int .i64 0)).setCell ⟨w.heap.size + 1 + 1 + 1, 9, none⟩ (.bool false)).setCell ⟨w.heap.size + 1 + 1 + 1, 10, none⟩ (.slice none 0 0)).setCell ⟨w.heap.size + 1 + 1 + 1, 11, none⟩ (.int .i64 0)) (w.heap.size + 1 + 1 + 1) ZM := hX
    have hY : Below w.heap.size w ((((((((((((w3.setCell ⟨w.heap.size + 1 + 1 + 1, 0, none⟩ (.bool false)).setCell ⟨w.heap.size + 1 + 1 + 1, 1, none⟩ (.slice none 0 0)).setCell ⟨w.heap.size + 1 + 1 + 1, 2, none⟩ (.int .i64 0)).setCell ⟨w.heap.size + 1 + 1 + 1, 3, none⟩ (.bool false)).setCell ⟨w.heap.size + 1 + 1 + 1, 4, none⟩ (.slice none 0 0)).setCell ⟨w.heap.size + 1 + 1 + 1, 5, none⟩ (.int .i64 0)).setCell ⟨w.heap.size + 1 + 1 + 1, 6, none⟩ (.bool false)).setCell ⟨w.heap.size + 1 + 1 + 1, 7, none⟩ (.slice none 0 0)).setCell ⟨w.heap.size + 1 + 1 + 1, 8, none⟩ (.int .i64 0)).setCell ⟨w.heap.size + 1 + 1 + 1, 9, none⟩ (.bool false)).setCell ⟨w.heap.size + 1 + 1 + 1, 10, none⟩ (.slice none 0 0)).setCell ⟨w.heap.size + 1 + 1 + 1, 11, none⟩ (.int .i64 0)) := below_all hB1 (show w.heap.size ≤ w.heap.size + 1 + 1 + 1 by omega) ZM
    clear hX
    generalize ((((((((((((w3.setCell ⟨w.heap.size + 1 + 1 + 1, 0, none⟩ (.bool false)).setCell ⟨w.heap.size + 1 + 1 + 1, 1, none⟩ (.slice none 0 0)).setCell ⟨w.heap.size + 1 + 1 + 1, 2, none⟩ (.int .i64 0)).setCell ⟨w.heap.size + 1 + 1 + 1, 3, none⟩ (.bool false)).setCell ⟨w.heap.size + 1 + 1 + 1, 4, none⟩ (.slice none 0 0)).setCell ⟨w.heap.size + 1 + 1 + 1, 5, none⟩ (.int .i64 0)).setCell ⟨w.heap.size + 1 + 1 + 1, 6, none⟩ (.bool false)).setCell ⟨w.heap.size + 1 + 1 + 1, 7, none⟩ (.slice none 0 0)).setCell ⟨w.heap.size + 1 + 1 + 1, 8, none⟩ (.int .i64 0)).setCell ⟨w.heap.size + 1 + 1 + 1, 9, none⟩ (.bool false)).setCell ⟨w.heap.size + 1 + 1 + 1, 10, none⟩ (.slice none 0 0)).setCell ⟨w.heap.size + 1 + 1 + 1, 11, none⟩ (.int .i64 0)) = U at *
    obtain ⟨⟨k0, k1, k2, k3, k4, k5, k6, k7, k8, k9, k10, k11⟩, kf⟩ := MBox.cells hX2
    refine bodyPost_ret (v := .tuple #[.agg #[.bool ZM.S.s, .slice ZM.S.A ZM.S.n ZM.S.c, .int .i64 ZM.S.e, .bool ZM.W.s, .slice ZM.W.A ZM.W.n ZM.W.c, .int .i64 ZM.W.e, .bool ZM.C.s, .slice ZM.C.A ZM.C.n ZM.C.c, .int .i64 ZM.C.e, .bool ZM.A.s, .slice ZM.A.A ZM.A.n ZM.A.c, .int .i64 ZM.A.e], .int .i64 8]) (by simp [results, Tryd.results84, go_sem, k0, k1, k2, k3, k4, k5, k6, k7, k8, k9, k10, k11]) rfl ⟨rfl, hY⟩
  · have hka := Lib.hid (chk_not ha)
    clear h ha
    go_wp2_with fail
    try clear hw
    refine (MCheck_any w1 a (hA.more (Nat.le_refl _) (by omega)) 8 hka.out).mono ?_
    rintro e w2 ⟨rfl, hB2⟩
    clear k0 k1 k2 k3 k4 k5 k6 k7 k8 k9 k10 k11 kf
    have hs2 := hB2.size
    replace hZ1 : MBox w2 (w.heap.size + 1 + 1 + 1) ZM := box_on hZ1 hB2 (by omega)
    replace hB1 := hB1.trans (hB2.mono (by omega))
    obtain ⟨⟨z0, z1, z2, z3, z4, z5, z6, z7, z8, z9, z10, z11⟩, zf⟩ := MBox.cells hZ1
    go_wp2
    clear z0 z1 z2 z3 z4 z5 z6 z7 z8 z9 z10 z11 zf
    have hX := MBox.all hZ1 ZM
    have hX2 : MBox ((((((((((((w2.setCell ⟨w.heap.size + 1 + 1 + 1, 0, none⟩ (.bool false)).setCell ⟨w.heap.size + 1 + 1 + 1, 1, none⟩ (.slice none 0 0)).setCell ⟨w.heap.size + 1 + 1 + 1, 2, none⟩ (.int .i64 0)).setCell ⟨w.heap.size + 1 + 1 + 1, 3, none⟩ (.bool false)).setCell ⟨w.heap.size + 1 + 1 + 1, 4, none⟩ (.slice none 0 0)).setCell ⟨w.heap.size + 1 + 1 + 1, 5, none⟩ (.int .i64 0)).setCell ⟨w.heap.size + 1 + 1 + 1, 6, none⟩ (.bool false)).setCell ⟨w.heap.size + 1 + 1 + 1, 7, none⟩ (.slice none 0 0)).setCell ⟨w.heap.size + 1 + 1 + 1, 8, none⟩ (.int .i64 0)).setCell ⟨w.heap.size + 1 + 1 + 1, 9, none⟩ (.bool false)).setCell ⟨w.heap.size + 1 + 1 + 1, 10, none⟩ (.slice none 0 0)).setCell ⟨w.heap.size + 1 + 1 + 1, 11, none⟩ (.int .i64 0)) (w.heap.size + 1 + 1 + 1) ZM := hX
    have hY : Below w.heap.size w ((((((((((((w2.setCell ⟨w.heap.size + 1 + 1 + 1, 0, none⟩ (.bool false)).setCell ⟨w.heap.size + 1 + 1 + 1, 1, none⟩ (.slice none 0 0)).setCell ⟨w.heap.size + 1 + 1 + 1, 2, none⟩ (.int .i64 0)).setCell ⟨w.heap.size + 1 + 1 + 1, 3, none⟩ (.bool false)).setCell ⟨w.heap.size + 1 + 1 + 1, 4, none⟩ (.slice none 0 0)).setCell ⟨w.heap.size + 1 + 1 + 1, 5, none⟩ (.int .i64 0)).setCell ⟨w.heap.size + 1 + 1 + 1, 6, none⟩ (.bool false)).setCell ⟨w.heap.size + 1 + 1 + 1, 7, none⟩ (.slice none 0 0)).setCell ⟨w.heap.size + 1 + 1 + 1, 8, none⟩ (.int .i64 0)).setCell ⟨w.heap.size + 1 + 1 + 1, 9, none⟩ (.bool false)).setCell ⟨w.heap.size + 1 + 1 + 1, 10, none⟩ (.slice none 0 0)).setCell ⟨w.heap.size + 1 + 1 + 1, 11, none⟩ (.int .i64 0)) := below_all hB1 (show w.heap.size ≤ w.heap.size + 1 + 1 + 1 by omega) ZM
    clear hX
    generalize ((((((((((((w2.setCell ⟨w.heap.size + 1 + 1 + 1, 0, none⟩ (.bool false)).setCell ⟨w.heap.size + 1 + 1 + 1, 1, none⟩ (.slice none 0 0)).setCell ⟨w.heap.size + 1 + 1 + 1, 2, none⟩ (.int .i64 0)).setCell ⟨w.heap.size + 1 + 1 + 1, 3, none⟩ (.bool false)).setCell ⟨w.heap.size + 1 + 1 + 1, 4, none⟩ (.slice none 0 0)).setCell ⟨w.heap.size + 1 + 1 + 1, 5, none⟩ (.int .i64 0)).setCell ⟨w.heap.size + 1 + 1 + 1, 6, none⟩ (.bool false)).setCell ⟨w.heap.size + 1 + 1 + 1, 7, none⟩ (.slice none 0 0)).setCell ⟨w.heap.size + 1 + 1 + 1, 8, none⟩ (.int .i64 0)).setCell ⟨w.heap.size + 1 + 1 + 1, 9, none⟩ (.bool false)).setCell ⟨w.heap.size + 1 + 1 + 1, 10, none⟩ (.slice none 0 0)).setCell ⟨w.heap.size + 1 + 1 + 1, 11, none⟩ (.int .i64 0)) = U at *
    obtain ⟨⟨k0, k1, k2, k3, k4, k5, k6, k7, k8, k9, k10, k11⟩, kf⟩ := MBox.cells hX2
    refine bodyPost_ret (v := .tuple #[.agg #[.bool ZM.S.s, .slice ZM.S.A ZM.S.n ZM.S.c, .int .i64 ZM.S.e, .bool ZM.W.s, .slice ZM.W.A ZM.W.n ZM.W.c, .int .i64 ZM.W.e, .bool ZM.C.s, .slice ZM.C.A ZM.C.n ZM.C.c, .int .i64 ZM.C.e, .bool ZM.A.s, .slice ZM.A.A ZM.A.n ZM.A.c, .int .i64 ZM.A.e], .int .i64 8]) (by simp [results, Tryd.results84, go_sem, k0, k1, k2, k3, k4, k5, k6, k7, k8, k9, k10, k11]) rfl ⟨rfl, hY⟩
/-- What mass.Add answers. -/
def DidAdd (w : World) (a b : Mv) (e : Ending) (w' : World) : Prop := ∃ m' code, e = .returned (.tuple #[.agg #[.bool m'.S.s, .slice m'.S.A m'.S.n m'.S.c, .int .i64 m'.S.e, .bool m'.W.s, .slice m'.W.A m'.W.n m'.W.c, .int .i64 m'.W.e, .bool m'.C.s, .slice m'.C.A m'.C.n m'.C.c, .int .i64 m'.C.e, .bool m'.A.s, .slice m'.A.A m'.A.n m'.A.c, .int .i64 m'.A.e], .int .i64 code]) ∧ Below w.heap.size w w' ∧
  ((code = 0 ∧ (a.may ∧ b.may) ∧ ∀ j, j < 4 → (xAdd a b j).2 = 0 ∧ ResV w' w.heap.size (xAdd a b j).1 (m'.get j)) ∨ (code = 10 ∧ (a.may ∧ b.may) ∧ (∃ j, j < 4 ∧ (xAdd a b j).2 ≠ 0) ∧ m' = ZM) ∨ (code = 8 ∧ ¬ (a.may ∧ b.may) ∧ m' = ZM))
theorem eachAdd_any (w : World) (a b : Mv) (hA : MRows w 0 w.heap.size a) (hBb : MRows w 0 w.heap.size b) (hT : Tab w) :
    Calls Tryd.prog 84 #[.agg #[.bool a.S.s, .slice a.S.A a.S.n a.S.c, .int .i64 a.S.e, .bool a.W.s, .slice a.W.A a.W.n a.W.c, .int .i64 a.W.e, .bool a.C.s, .slice a.C.A a.C.n a.C.c, .int .i64 a.C.e, .bool a.A.s, .slice a.A.A a.A.n a.A.c, .int .i64 a.A.e], .agg #[.bool b.S.s, .slice b.S.A b.S.n b.S.c, .int .i64 b.S.e, .bool b.W.s, .slice b.W.A b.W.n b.W.c, .int .i64 b.W.e, .bool b.C.s, .slice b.C.A b.C.n b.C.c, .int .i64 b.C.e, .bool b.A.s, .slice b.A.A b.A.n b.A.c, .int .i64 b.A.e], .func (.func 20) #[] #[]] w (DidAdd w a b) := by
  by_cases h : a.may ∧ b.may
  · refine (eachAdd_ok w a b hA hBb h.1 h.2 hT).mono ?_
    rintro e w' ⟨m', code, h1, h2, h3⟩
    refine ⟨m', code, h1, h2, ?_⟩
    rcases h3 with ⟨h3, h4⟩ | ⟨h3, h4, h5⟩
    · exact .inl ⟨h3, h, h4⟩
    · exact .inr (.inl ⟨h3, h, h4, h5⟩)
  · refine (eachAdd_bad w a b hA hBb h).mono ?_
    rintro e w' ⟨h1, h2⟩
    exact ⟨ZM, 8, h1, h2, .inr (.inr ⟨rfl, h, rfl⟩)⟩
set_option maxHeartbeats 6400000 in
set_option maxRecDepth 100000 in
/-- mass.Add. -/
theorem MAdd_any (w : World) (a b : Mv) (hA : MRows w 0 w.heap.size a) (hBb : MRows w 0 w.heap.size b) (hT : Tab w) :
    Calls Tryd.prog 51 #[.agg #[.bool a.S.s, .slice a.S.A a.S.n a.S.c, .int .i64 a.S.e, .bool a.W.s, .slice a.W.A a.W.n a.W.c, .int .i64 a.W.e, .bool a.C.s, .slice a.C.A a.C.n a.C.c, .int .i64 a.C.e, .bool a.A.s, .slice a.A.A a.A.n a.A.c, .int .i64 a.A.e], .agg #[.bool b.S.s, .slice b.S.A b.S.n b.S.c, .int .i64 b.S.e, .bool b.W.s, .slice b.W.A b.W.n b.W.c, .int .i64 b.W.e, .bool b.C.s, .slice b.C.A b.C.n b.C.c, .int .i64 b.C.e, .bool b.A.s, .slice b.A.A b.A.n b.A.c, .int .i64 b.A.e]] w (DidAdd w a b) := by
  generalize hw : ((w.alloc (.cells #[.bool a.S.s, .slice a.S.A a.S.n a.S.c, .int .i64 a.S.e, .bool a.W.s, .slice a.W.A a.W.n a.W.c, .int .i64 a.W.e, .bool a.C.s, .slice a.C.A a.C.n a.C.c, .int .i64 a.C.e, .bool a.A.s, .slice a.A.A a.A.n a.A.c, .int .i64 a.A.e] 39)).alloc (.cells #[.bool b.S.s, .slice b.S.A b.S.n b.S.c, .int .i64 b.S.e, .bool b.W.s, .slice b.W.A b.W.n b.W.c, .int .i64 b.W.e, .bool b.C.s, .slice b.C.A b.C.n b.C.c, .int .i64 b.C.e, .bool b.A.s, .slice b.A.A b.A.n b.A.c, .int .i64 b.A.e] 39)).alloc (.cells #[.bool false, .slice none 0 0, .int .i64 0, .bool false, .slice none 0 0, .int .i64 0, .bool false, .slice none 0 0, .int .i64 0, .bool false, .slice none 0 0, .int .i64 0] 39) = w1
  obtain ⟨hM1, hN1, hZ1, hB1, hlo, hhi⟩ := boxes3 w _ _ _ hw
  replace hZ1 : MBox w1 (w.heap.size + 1 + 1) ZM := hZ1
  replace hA := hA.below hB1 (Nat.le_refl _)
  replace hBb := hBb.below hB1 (Nat.le_refl _)
  have tT := hT.below hB1 hT.lt
  obtain ⟨⟨k0, k1, k2, k3, k4, k5, k6, k7, k8, k9, k10, k11⟩, kf⟩ := MBox.cells (m := a) hM1
  obtain ⟨⟨z0, z1, z2, z3, z4, z5, z6, z7, z8, z9, z10, z11⟩, zf⟩ := MBox.cells (m := b) hN1
  go_enter Tryd.func51, Tryd.ntmps51
  go_wp2_with fail
  try clear hw
  clear k0 k1 k2 k3 k4 k5 k6 k7 k8 k9 k10 k11 kf z0 z1 z2 z3 z4 z5 z6 z7 z8 z9 z10 z11 zf
  refine (eachAdd_any w1 a b (hA.more (Nat.le_refl _) (by omega)) (hBb.more (Nat.le_refl _) (by omega)) tT).mono ?_
  rintro e V ⟨m', code, rfl, hB2, hres⟩
  have hs2 := hB2.size
  replace hZ1 : MBox V (w.heap.size + 1 + 1) ZM := box_on hZ1 hB2 (by omega)
  replace hB1 := hB1.trans (hB2.mono (by omega))
  obtain ⟨⟨z0, z1, z2, z3, z4, z5, z6, z7, z8, z9, z10, z11⟩, zf⟩ := MBox.cells hZ1
  go_wp2
  clear z0 z1 z2 z3 z4 z5 z6 z7 z8 z9 z10 z11 zf
  have hX := MBox.all hZ1 m'
  have hY := below_all hB1 (show w.heap.size ≤ w.heap.size + 1 + 1 by omega) m'
  have hs := size_all (w := V) (g := w.heap.size + 1 + 1) m'
  have hfar : ∀ k, k ≠ w.heap.size + 1 + 1 → (((((((((((((V.setCell ⟨w.heap.size + 1 + 1, 0, none⟩ (.bool m'.S.s)).setCell ⟨w.heap.size + 1 + 1, 1, none⟩ (.slice m'.S.A m'.S.n m'.S.c)).setCell ⟨w.heap.size + 1 + 1, 2, none⟩ (.int .i64 m'.S.e)).setCell ⟨w.heap.size + 1 + 1, 3, none⟩ (.bool m'.W.s)).setCell ⟨w.heap.size + 1 + 1, 4, none⟩ (.slice m'.W.A m'.W.n m'.W.c)).setCell ⟨w.heap.size + 1 + 1, 5, none⟩ (.int .i64 m'.W.e)).setCell ⟨w.heap.size + 1 + 1, 6, none⟩ (.bool m'.C.s)).setCell ⟨w.heap.size + 1 + 1, 7, none⟩ (.slice m'.C.A m'.C.n m'.C.c)).setCell ⟨w.heap.size + 1 + 1, 8, none⟩ (.int .i64 m'.C.e)).setCell ⟨w.heap.size + 1 + 1, 9, none⟩ (.bool m'.A.s)).setCell ⟨w.heap.size + 1 + 1, 10, none⟩ (.slice m'.A.A m'.A.n m'.A.c)).setCell ⟨w.heap.size + 1 + 1, 11, none⟩ (.int .i64 m'.A.e))).heap[k]? = V.heap[k]? := fun k hk => far_all hk m'
  generalize ((((((((((((V.setCell ⟨w.heap.size + 1 + 1, 0, none⟩ (.bool m'.S.s)).setCell ⟨w.heap.size + 1 + 1, 1, none⟩ (.slice m'.S.A m'.S.n m'.S.c)).setCell ⟨w.heap.size + 1 + 1, 2, none⟩ (.int .i64 m'.S.e)).setCell ⟨w.heap.size + 1 + 1, 3, none⟩ (.bool m'.W.s)).setCell ⟨w.heap.size + 1 + 1, 4, none⟩ (.slice m'.W.A m'.W.n m'.W.c)).setCell ⟨w.heap.size + 1 + 1, 5, none⟩ (.int .i64 m'.W.e)).setCell ⟨w.heap.size + 1 + 1, 6, none⟩ (.bool m'.C.s)).setCell ⟨w.heap.size + 1 + 1, 7, none⟩ (.slice m'.C.A m'.C.n m'.C.c)).setCell ⟨w.heap.size + 1 + 1, 8, none⟩ (.int .i64 m'.C.e)).setCell ⟨w.heap.size + 1 + 1, 9, none⟩ (.bool m'.A.s)).setCell ⟨w.heap.size + 1 + 1, 10, none⟩ (.slice m'.A.A m'.A.n m'.A.c)).setCell ⟨w.heap.size + 1 + 1, 11, none⟩ (.int .i64 m'.A.e)) = U at *
  obtain ⟨⟨k0, k1, k2, k3, k4, k5, k6, k7, k8, k9, k10, k11⟩, kf⟩ := MBox.cells hX
  refine bodyPost_ret (v := .tuple #[.agg #[.bool m'.S.s, .slice m'.S.A m'.S.n m'.S.c, .int .i64 m'.S.e, .bool m'.W.s, .slice m'.W.A m'.W.n m'.W.c, .int .i64 m'.W.e, .bool m'.C.s, .slice m'.C.A m'.C.n m'.C.c, .int .i64 m'.C.e, .bool m'.A.s, .slice m'.A.A m'.A.n m'.A.c, .int .i64 m'.A.e], .int .i64 code]) (by simp [results, Tryd.results51, go_sem, k0, k1, k2, k3, k4, k5, k6, k7, k8, k9, k10, k11]) rfl ⟨m', code, rfl, hY, ?_⟩
  rcases hres with ⟨h1, h2, h3⟩ | h | h
  · refine .inl ⟨h1, h2, fun j hj => ?_⟩
    obtain ⟨y1, y2, y3, y4, y5, y6⟩ := h3 j hj
    have hs' : U.heap.size = V.heap.size := hs
    exact ⟨y1, y2, y3, y4, y5, (ints_blocks y6 (fun k h1 => hfar k (by omega))).more (by omega) (by omega)⟩
  · exact .inr (.inl h)
  · exact .inr (.inr h)

set_option maxHeartbeats 6400000 in
set_option maxRecDepth 100000 in
theorem eachSub_bad (w : World) (a b : Mv) (hA : MRows w 0 w.heap.size a) (hBb : MRows w 0 w.heap.size b) (h : ¬ (a.may ∧ b.may)) :
    Calls Tryd.prog 84 #[.agg #[.bool a.S.s, .slice a.S.A a.S.n a.S.c, .int .i64 a.S.e, .bool a.W.s, .slice a.W.A a.W.n a.W.c, .int .i64 a.W.e, .bool a.C.s, .slice a.C.A a.C.n a.C.c, .int .i64 a.C.e, .bool a.A.s, .slice a.A.A a.A.n a.A.c, .int .i64 a.A.e], .agg #[.bool b.S.s, .slice b.S.A b.S.n b.S.c, .int .i64 b.S.e, .bool b.W.s, .slice b.W.A b.W.n b.W.c, .int .i64 b.W.e, .bool b.C.s, .slice b.C.A b.C.n b.C.c, .int .i64 b.C.e, .bool b.A.s, .slice b.A.A b.A.n b.A.c, .int .i64 b.A.e], .func (.func 22) #[] #[]] w fun e w' => e = .returned (.tuple #[.agg #[.bool ZM.S.s, .slice ZM.S.A ZM.S.n ZM.S.c, .int .i64 ZM.S.e, .bool ZM.W.s, .slice ZM.W.A ZM.W.n ZM.W.c, .int .i64 ZM.W.e, .bool ZM.C.s, .slice ZM.C.A ZM.C.n ZM.C.c, .int .i64 ZM.C.e, .bool ZM.A.s, .slice ZM.A.A ZM.A.n ZM.A.c, .int .i64 ZM.A.e], .int .i64 8]) ∧ Below w.heap.size w w' := by
  generalize hw : (((w.alloc (.cells #[.bool a.S.s, .slice a.S.A a.S.n a.S.c, .int .i64 a.S.e, .bool a.W.s, .slice a.W.A a.W.n a.W.c, .int .i64 a.W.e, .bool a.C.s, .slice a.C.A a.C.n a.C.c, .int .i64 a.C.e, .bool a.A.s, .slice a.A.A a.A.n a.A.c, .int .i64 a.A.e] 39)).alloc (.cells #[.bool b.S.s, .slice b.S.A b.S.n b.S.c, .int .i64 b.S.e, .bool b.W.s, .slice b.W.A b.W.n b.W.c, .int .i64 b.W.e, .bool b.C.s, .slice b.C.A b.C.n b.C.c, .int .i64 b.C.e, .bool b.A.s, .slice b.A.A b.A.n b.A.c, .int .i64 b.A.e] 39)).alloc (.cells #[.func (.func 22) #[] #[]] 29)).alloc (.cells #[.bool false, .slice none 0 0, .int .i64 0, .bool false, .slice none 0 0, .int .i64 0, .bool false, .slice none 0 0, .int .i64 0, .bool false, .slice none 0 0, .int .i64 0] 39) = w1
  obtain ⟨⟨hM1, hN1, hF1, hZ1⟩, hB1, hlo, hhi⟩ := boxes4x w _ _ _ _ hw
  replace hZ1 : MBox w1 (w.heap.size + 1 + 1 + 1) ZM := hZ1
  replace hA := hA.below hB1 (Nat.le_refl _)
  replace hBb := hBb.below hB1 (Nat.le_refl _)
  obtain ⟨⟨k0, k1, k2, k3, k4, k5, k6, k7, k8, k9, k10, k11⟩, kf⟩ := MBox.cells (m := a) hM1
  go_enter Tryd.func84, Tryd.ntmps84
  by_cases ha : a.may
  · have hka := Lib.hid (chk_may ha)
    have hkb := Lib.hid (chk_not (fun k => h ⟨ha, k⟩))
    clear h ha
    go_wp2_with fail
    try clear hw
    refine (MCheck_any w1 a (hA.more (Nat.le_refl _) (by omega)) 0 hka.out).mono ?_
    rintro e w2 ⟨rfl, hB2⟩
    clear k0 k1 k2 k3 k4 k5 k6 k7 k8 k9 k10 k11 kf
    have hs2 := hB2.size
    replace hZ1 : MBox w2 (w.heap.size + 1 + 1 + 1) ZM := box_on hZ1 hB2 (by omega)
    replace hN1 := box_on hN1 hB2 (by omega)
    replace hB1 := hB1.trans (hB2.mono (by omega))
    obtain ⟨⟨k0, k1, k2, k3, k4, k5, k6, k7, k8, k9, k10, k11⟩, kf⟩ := MBox.cells (m := b) hN1
    go_wp2_with fail
    refine (MCheck_any w2 b ((hBb.below hB2 (by omega)).more (Nat.le_refl _) (by omega)) 8 hkb.out).mono ?_
    rintro e w3 ⟨rfl, hB3⟩
    clear k0 k1 k2 k3 k4 k5 k6 k7 k8 k9 k10 k11 kf
    have hs3 := hB3.size
    replace hZ1 : MBox w3 (w.heap.size + 1 + 1 + 1) ZM := box_on hZ1 hB3 (by omega)
    replace hB1 := hB1.trans (hB3.mono (by omega))
    obtain ⟨⟨z0, z1, z2, z3, z4, z5, z6, z7, z8, z9, z10, z11⟩, zf⟩ := MBox.cells hZ1
    go_wp2
    clear z0 z1 z2 z3 z4 z5 z6 z7 z8 z9 z10 z11 zf
    have hX := MBox.all hZ1 ZM
    have hX2 : MBox ((((((((((((w3.setCell ⟨w.heap.size + 1 + 1 + 1, 0, none⟩ (.bool false)).setCell ⟨w.heap.size + 1 + 1 + 1, 1, none⟩ (.slice none 0 0)).setCell ⟨w.heap.size + 1 + 1 + 1, 2, none⟩ (.int .i64 0)).setCell ⟨w.heap.size + 1 + 1 + 1, 3, none⟩ (.bool false)).setCell ⟨w.heap.size + 1 + 1 + 1, 4, none⟩ (.slice none 0 0)).setCell ⟨w.heap.size + 1 + 1 + 1, 5, none⟩ (.int .i64 0)).setCell ⟨w.heap.size + 1 + 1 + 1, 6, none⟩ (.bool false)).setCell ⟨w.heap.size + 1 + 1 + 1, 7, none⟩ (.slice none 0 0)).setCell ⟨w.heap.size + 1 + 1 + 1, 8, none⟩ (.int .i64 0)).setCell ⟨w.heap.size + 1 + 1 + 1, 9, none⟩ (.bool false)).setCell ⟨w.heap.size + 1 + 1 + 1, 10, none⟩ (.slice none 0 0)).setCell ⟨w.heap.size + 1 + 1 + 1, 11, none⟩ (.int .i64 0)) (w.heap.size + 1 + 1 + 1) ZM := hX
    have hY : Below w.heap.size w ((((((((((((w3.setCell ⟨w.heap.size + 1 + 1 + 1, 0, none⟩ (.bool false)).setCell ⟨w.heap.size + 1 + 1 + 1, 1, none⟩ (.slice none 0 0)).setCell ⟨w.heap.size + 1 + 1 + 1, 2, none⟩ (.int .i64 0)).setCell ⟨w.heap.size + 1 + 1 + 1, 3, none⟩ (.bool false)).setCell ⟨w.heap.size + 1 + 1 + 1, 4, none⟩ (.slice none 0 0)).setCell ⟨w.heap.size + 1 + 1 + 1, 5, none⟩ (.int .i64 0)).setCell ⟨w.heap.size + 1 + 1 + 1, 6, none⟩ (.bool false)).setCell ⟨w.heap.size + 1 + 1 + 1, 7, none⟩ (.slice none 0 0)).setCell ⟨w.heap.size + 1 + 1 + 1, 8, none⟩ (.int .i64 0)).setCell ⟨w.heap.size + 1 + 1 + 1, 9, none⟩ (.bool false)).setCell ⟨w.heap.size + 1 + 1 + 1, 10, none⟩ (.slice none 0 0)).setCell ⟨w.heap.size + 1 + 1 + 1, 11, none⟩ (.int .i64 0)) := below_all hB1 (show w.heap.size ≤ w.heap.size + 1 + 1 + 1 by omega) ZM
    clear hX
    generalize ((((((((((((w3.setCell ⟨w.heap.size + 1 + 1 + 1, 0, none⟩ (.bool false)).setCell ⟨w.heap.size + 1 + 1 + 1, 1, none⟩ (.slice none 0 0)).setCell ⟨w.heap.size + 1 + 1 + 1, 2, none⟩ (.int .i64 0)).setCell ⟨w.heap.size + 1 + 1 + 1, 3, none⟩ (.bool false)).setCell ⟨w.heap.size + 1 + 1 + 1, 4, none⟩ (.slice none 0 0)).setCell ⟨w.heap.size + 1 + 1 + 1, 5, none⟩ (.int .i64 0)).setCell ⟨w.heap.size + 1 + 1 + 1, 6, none⟩ (.bool false)).setCell ⟨w.heap.size + 1 + 1 + 1, 7, none⟩ (.slice none 0 0)).setCell ⟨w.heap.size + 1 + 1 + 1, 8, none⟩ (.int .i64 0)).setCell ⟨w.heap.size + 1 + 1 + 1, 9, none⟩ (.bool false)).setCell ⟨w.heap.size + 1 + 1 + 1, 10, none⟩ (.slice none 0 0)).setCell ⟨w.heap.size + 1 + 1 + 1, 11, none⟩ (.int .i64 0)) = U at *
    obtain ⟨⟨k0, k1, k2, k3, k4, k5, k6, k7, k8, k9, k10, k11⟩, kf⟩ := MBox.cells hX2
    refine bodyPost_ret (v := .tuple #[.agg #[.bool ZM.S.s, .slice ZM.S.A ZM.S.n ZM.S.c, .int .i64 ZM.S.e, .bool ZM.W.s, .slice ZM.W.A ZM.W.n ZM.W.c, .int .i64 ZM.W.e, .bool ZM.C.s, .slice ZM.C.A ZM.C.n ZM.C.c, .int .i64 ZM.C.e, .bool ZM.A.s, .slice ZM.A.A ZM.A.n ZM.A.c, .int .i64 ZM.A.e], .int .i64 8]) (by simp [results, Tryd.results84, go_sem, k0, k1, k2, k3, k4, k5, k6, k7, k8, k9, k10, k11]) rfl ⟨rfl, hY⟩
  · have hka := Lib.hid (chk_not ha)
    clear h ha
    go_wp2_with fail
    try clear hw
    refine (MCheck_any w1 a (hA.more (Nat.le_refl _) (by omega)) 8 hka.out).mono ?_
    rintro e w2 ⟨rfl, hB2⟩
    clear k0 k1 k2 k3 k4 k5 k6 k7 k8 k9 k10 k11 kf
    have hs2 := hB2.size
    replace hZ1 : MBox w2 (w.heap.size + 1 + 1 + 1) ZM := box_on hZ1 hB2 (by omega)
    replace hB1 := hB1.trans (hB2.mono (by omega))
    obtain ⟨⟨z0, z1, z2, z3, z4, z5, z6, z7, z8, z9, z10, z11⟩, zf⟩ := MBox.cells hZ1
    go_wp2
    clear z0 z1 z2 z3 z4 z5 z6 z7 z8 z9 z10 z11 zf
    have hX := MBox.all hZ1 ZM
    have hX2 : MBox ((((((((((((w2.setCell ⟨w.heap.size + 1 + 1 + 1, 0, none⟩ (.bool false)).setCell ⟨w.heap.size + 1 + 1 + 1, 1, none⟩ (.slice none 0 0)).setCell ⟨w.heap.size + 1 + 1 + 1, 2, none⟩ (.int .i64 0)).setCell ⟨w.heap.size + 1 + 1 + 1, 3, none⟩ (.bool false)).setCell ⟨w.heap.size + 1 + 1 + 1, 4, none⟩ (.slice none 0 0)).setCell ⟨w.heap.size + 1 + 1 + 1, 5, none⟩ (.int .i64 0)).setCell ⟨w.heap.size + 1 + 1 + 1, 6, none⟩ (.bool false)).setCell ⟨w.heap.size + 1 + 1 + 1, 7, none⟩ (.slice none 0 0)).setCell ⟨w.heap.size + 1 + 1 + 1, 8, none⟩ (.int .i64 0)).setCell ⟨w.heap.size + 1 + 1 + 1, 9, none⟩ (.bool false)).setCell ⟨w.heap.size + 1 + 1 + 1, 10, none⟩ (.slice none 0 0)).setCell ⟨w.heap.size + 1 + 1 + 1, 11, none⟩ (.int .i64 0)) (w.heap.size + 1 + 1 + 1) ZM := hX
    have hY : Below w.heap.size w ((((((((((((w2.setCell ⟨w.heap.size + 1 + 1 + 1, 0, none⟩ (.bool false)).setCell ⟨w.heap.size + 1 + 1 + 1, 1, none⟩ (.slice none 0 0)).setCell ⟨w.heap.size + 1 + 1 + 1, 2, none⟩ (.int .i64 0)).setCell ⟨w.heap.size + 1 + 1 + 1, 3, none⟩ (.bool false)).setCell ⟨w.heap.size + 1 + 1 + 1, 4, none⟩ (.slice none 0 0)).setCell ⟨w.heap.size + 1 + 1 + 1, 5, none⟩ (.int .i64 0)).setCell ⟨w.heap.size + 1 + 1 + 1, 6, none⟩ (.bool false)).setCell ⟨w.heap.size + 1 + 1 + 1, 7, none⟩ (.slice none 0 0)).setCell ⟨w.heap.size + 1 + 1 + 1, 8, none⟩ (.int .i64 0)).setCell ⟨w.heap.size + 1 + 1 + 1, 9, none⟩ (.bool false)).setCell ⟨w.heap.size + 1 + 1 + 1, 10, none⟩ (.slice none 0 0)).setCell ⟨w.heap.size + 1 + 1 + 1, 11, none⟩ (.int .i64 0)) := below_all hB1 (show w.heap.size ≤ w.heap.size + 1 + 1 + 1 by omega) ZM
    clear hX
    generalize ((((((((((((w2.setCell ⟨w.heap.size + 1 + 1 + 1, 0, none⟩ (.bool false)).setCell ⟨w.heap.size + 1 + 1 + 1, 1, none⟩ (.slice none 0 0)).setCell ⟨w.heap.size + 1 + 1 + 1, 2, none⟩ (.int .i64 0)).setCell ⟨w.heap.size + 1 + 1 + 1, 3, none⟩ (.bool false)).setCell ⟨w.heap.size + 1 + 1 + 1, 4, none⟩ (.slice none 0 0)).setCell ⟨w.heap.size + 1 + 1 + 1, 5, none⟩ (.int .i64 0)).setCell ⟨w.heap.size + 1 + 1 + 1, 6, none⟩ (.bool false)).setCell ⟨w.heap.size + 1 + 1 + 1, 7, none⟩ (.slice none 0 0)).setCell ⟨w.heap.size + 1 + 1 + 1, 8, none⟩ (.int .i64 0)).setCell ⟨w.heap.size + 1 + 1 + 1, 9, none⟩ (.bool false)).setCell ⟨w.heap.size + 1 + 1 + 1, 10, none⟩ (.slice none 0 0)).setCell ⟨w.heap.size + 1 + 1 + 1, 11, none⟩ (.int .i64 0)) = U at *
    obtain ⟨⟨k0, k1, k2, k3, k4, k5, k6, k7, k8, k9, k10, k11⟩, kf⟩ := MBox.cells hX2
    refine bodyPost_ret (v := .tuple #[.agg #[.bool ZM.S.s, .slice ZM.S.A ZM.S.n ZM.S.c, .int .i64 ZM.S.e, .bool ZM.W.s, .slice ZM.W.A ZM.W.n ZM.W.c, .int .i64 ZM.W.e, .bool ZM.C.s, .slice ZM.C.A ZM.C.n ZM.C.c, .int .i64 ZM.C.e, .bool ZM.A.s, .slice ZM.A.A ZM.A.n ZM.A.c, .int .i64 ZM.A.e], .int .i64 8]) (by simp [results, Tryd.results84, go_sem, k0, k1, k2, k3, k4, k5, k6, k7, k8, k9, k10, k11]) rfl ⟨rfl, hY⟩
/-- What mass.Sub answers. -/
def DidSub (w : World) (a b : Mv) (e : Ending) (w' : World) : Prop := ∃ m' code, e = .returned (.tuple #[.agg #[.bool m'.S.s, .slice m'.S.A m'.S.n m'.S.c, .int .i64 m'.S.e, .bool m'.W.s, .slice m'.W.A m'.W.n m'.W.c, .int .i64 m'.W.e, .bool m'.C.s, .slice m'.C.A m'.C.n m'.C.c, .int .i64 m'.C.e, .bool m'.A.s, .slice m'.A.A m'.A.n m'.A.c, .int .i64 m'.A.e], .int .i64 code]) ∧ Below w.heap.size w w' ∧
  ((code = 0 ∧ (a.may ∧ b.may) ∧ ∀ j, j < 4 → (xSub a b j).2 = 0 ∧ ResV w' w.heap.size (xSub a b j).1 (m'.get j)) ∨ (code = 10 ∧ (a.may ∧ b.may) ∧ (∃ j, j < 4 ∧ (xSub a b j).2 ≠ 0) ∧ m' = ZM) ∨ (code = 8 ∧ ¬ (a.may ∧ b.may) ∧ m' = ZM))
theorem eachSub_any (w : World) (a b : Mv) (hA : MRows w 0 w.heap.size a) (hBb : MRows w 0 w.heap.size b) (hT : Tab w) :
    Calls Tryd.prog 84 #[.agg #[.bool a.S.s, .slice a.S.A a.S.n a.S.c, .int .i64 a.S.e, .bool a.W.s, .slice a.W.A a.W.n a.W.c, .int .i64 a.W.e, .bool a.C.s, .slice a.C.A a.C.n a.C.c, .int .i64 a.C.e, .bool a.A.s, .slice a.A.A a.A.n a.A.c, .int .i64 a.A.e], .agg #[.bool b.S.s, .slice b.S.A b.S.n b.S.c, .int .i64 b.S.e, .bool b.W.s, .slice b.W.A b.W.n b.W.c, .int .i64 b.W.e, .bool b.C.s, .slice b.C.A b.C.n b.C.c, .int .i64 b.C.e, .bool b.A.s, .slice b.A.A b.A.n b.A.c, .int .i64 b.A.e], .func (.func 22) #[] #[]] w (DidSub w a b) := by
  by_cases h : a.may ∧ b.may
  · refine (eachSub_ok w a b hA hBb h.1 h.2 hT).mono ?_
    rintro e w' ⟨m', code, h1, h2, h3⟩
    refine ⟨m', code, h1, h2, ?_⟩
    rcases h3 with ⟨h3, h4⟩ | ⟨h3, h4, h5⟩
    · exact .inl ⟨h3, h, h4⟩
    · exact .inr (.inl ⟨h3, h, h4, h5⟩)
  · refine (eachSub_bad w a b hA hBb h).mono ?_
    rintro e w' ⟨h1, h2⟩
    exact ⟨ZM, 8, h1, h2, .inr (.inr ⟨rfl, h, rfl⟩)⟩
set_option maxHeartbeats 6400000 in
set_option maxRecDepth 100000 in
/-- mass.Sub. -/
theorem MSub_any (w : World) (a b : Mv) (hA : MRows w 0 w.heap.size a) (hBb : MRows w 0 w.heap.size b) (hT : Tab w) :
    Calls Tryd.prog 53 #[.agg #[.bool a.S.s, .slice a.S.A a.S.n a.S.c, .int .i64 a.S.e, .bool a.W.s, .slice a.W.A a.W.n a.W.c, .int .i64 a.W.e, .bool a.C.s, .slice a.C.A a.C.n a.C.c, .int .i64 a.C.e, .bool a.A.s, .slice a.A.A a.A.n a.A.c, .int .i64 a.A.e], .agg #[.bool b.S.s, .slice b.S.A b.S.n b.S.c, .int .i64 b.S.e, .bool b.W.s, .slice b.W.A b.W.n b.W.c, .int .i64 b.W.e, .bool b.C.s, .slice b.C.A b.C.n b.C.c, .int .i64 b.C.e, .bool b.A.s, .slice b.A.A b.A.n b.A.c, .int .i64 b.A.e]] w (DidSub w a b) := by
  generalize hw : ((w.alloc (.cells #[.bool a.S.s, .slice a.S.A a.S.n a.S.c, .int .i64 a.S.e, .bool a.W.s, .slice a.W.A a.W.n a.W.c, .int .i64 a.W.e, .bool a.C.s, .slice a.C.A a.C.n a.C.c, .int .i64 a.C.e, .bool a.A.s, .slice a.A.A a.A.n a.A.c, .int .i64 a.A.e] 39)).alloc (.cells #[.bool b.S.s, .slice b.S.A b.S.n b.S.c, .int .i64 b.S.e, .bool b.W.s, .slice b.W.A b.W.n b.W.c, .int .i64 b.W.e, .bool b.C.s, .slice b.C.A b.C.n b.C.c, .int .i64 b.C.e, .bool b.A.s, .slice b.A.A b.A.n b.A.c, .int .i64 b.A.e] 39)).alloc (.cells #[.bool false, .slice none 0 0, .int .i64 0, .bool false, .slice none 0 0, .int .i64 0, .bool false, .slice none 0 0, .int .i64 0, .bool false, .slice none 0 0, .int .i64 0] 39) = w1
  obtain ⟨hM1, hN1, hZ1, hB1, hlo, hhi⟩ := boxes3 w _ _ _ hw
  replace hZ1 : MBox w1 (w.heap.size + 1 + 1) ZM := hZ1
  replace hA := hA.below hB1 (Nat.le_refl _)
  replace hBb := hBb.below hB1 (Nat.le_refl _)
  have tT := hT.below hB1 hT.lt
  obtain ⟨⟨k0, k1, k2, k3, k4, k5, k6, k7, k8, k9, k10, k11⟩, kf⟩ := MBox.cells (m := a) hM1
  obtain ⟨⟨z0, z1, z2, z3, z4, z5, z6, z7, z8, z9, z10, z11⟩, zf⟩ := MBox.cells (m := b) hN1
  go_enter Tryd.func53, Tryd.ntmps53
  go_wp2_with fail
  try clear hw
  clear k0 k1 k2 k3 k4 k5 k6 k7 k8 k9 k10 k11 kf z0 z1 z2 z3 z4 z5 z6 z7 z8 z9 z10 z11 zf
  refine (eachSub_any w1 a b (hA.more (Nat.le_refl _) (by omega)) (hBb.more (Nat.le_refl _) (by omega)) tT).mono ?_
  rintro e V ⟨m', code, rfl, hB2, hres⟩
  have hs2 := hB2.size
  replace hZ1 : MBox V (w.heap.size + 1 + 1) ZM := box_on hZ1 hB2 (by omega)
  replace hB1 := hB1.trans (hB2.mono (by omega))
  obtain ⟨⟨z0, z1, z2, z3, z4, z5, z6, z7, z8, z9, z10, z11⟩, zf⟩ := MBox.cells hZ1
  go_wp2
  clear z0 z1 z2 z3 z4 z5 z6 z7 z8 z9 z10 z11 zf
  have hX := MBox.all hZ1 m'
  have hY := below_all hB1 (show w.heap.size ≤ w.heap.size + 1 + 1 by omega) m'
  have hs := size_all (w := V) (g := w.heap.size + 1 + 1) m'
  have hfar : ∀ k, k ≠ w.heap.size + 1 + 1 → (((((((((((((V.setCell ⟨w.heap.size + 1 + 1, 0, none⟩ (.bool m'.S.s)).setCell ⟨w.heap.size + 1 + 1, 1, none⟩ (.slice m'.S.A m'.S.n m'.S.c)).setCell ⟨w.heap.size + 1 + 1, 2, none⟩ (.int .i64 m'.S.e)).setCell ⟨w.heap.size + 1 + 1, 3, none⟩ (.bool m'.W.s)).setCell ⟨w.heap.size + 1 + 1, 4, none⟩ (.slice m'.W.A m'.W.n m'.W.c)).setCell ⟨w.heap.size + 1 + 1, 5, none⟩ (.int .i64 m'.W.e)).setCell ⟨w.heap.size + 1 + 1, 6, none⟩ (.bool m'.C.s)).setCell ⟨w.heap.size + 1 + 1, 7, none⟩ (.slice m'.C.A m'.C.n m'.C.c)).setCell ⟨w.heap.size + 1 + 1, 8, none⟩ (.int .i64 m'.C.e)).setCell ⟨w.heap.size + 1 + 1, 9, none⟩ (.bool m'.A.s)).setCell ⟨w.heap.size + 1 + 1, 10, none⟩ (.slice m'.A.A m'.A.n m'.A.c)).setCell ⟨w.heap.size + 1 + 1, 11, none⟩ (.int .i64 m'.A.e))).heap[k]? = V.heap[k]? := fun k hk => far_all hk m'
  generalize ((((((((((((V.setCell ⟨w.heap.size + 1 + 1, 0, none⟩ (.bool m'.S.s)).setCell ⟨w.heap.size + 1 + 1, 1, none⟩ (.slice m'.S.A m'.S.n m'.S.c)).setCell ⟨w.heap.size + 1 + 1, 2, none⟩ (.int .i64 m'.S.e)).setCell ⟨w.heap.size + 1 + 1, 3, none⟩ (.bool m'.W.s)).setCell ⟨w.heap.size + 1 + 1, 4, none⟩ (.slice m'.W.A m'.W.n m'.W.c)).setCell ⟨w.heap.size + 1 + 1, 5, none⟩ (.int .i64 m'.W.e)).setCell ⟨w.heap.size + 1 + 1, 6, none⟩ (.bool m'.C.s)).setCell ⟨w.heap.size + 1 + 1, 7, none⟩ (.slice m'.C.A m'.C.n m'.C.c)).setCell ⟨w.heap.size + 1 + 1, 8, none⟩ (.int .i64 m'.C.e)).setCell ⟨w.heap.size + 1 + 1, 9, none⟩ (.bool m'.A.s)).setCell ⟨w.heap.size + 1 + 1, 10, none⟩ (.slice m'.A.A m'.A.n m'.A.c)).setCell ⟨w.heap.size + 1 + 1, 11, none⟩ (.int .i64 m'.A.e)) = U at *
  obtain ⟨⟨k0, k1, k2, k3, k4, k5, k6, k7, k8, k9, k10, k11⟩, kf⟩ := MBox.cells hX
  refine bodyPost_ret (v := .tuple #[.agg #[.bool m'.S.s, .slice m'.S.A m'.S.n m'.S.c, .int .i64 m'.S.e, .bool m'.W.s, .slice m'.W.A m'.W.n m'.W.c, .int .i64 m'.W.e, .bool m'.C.s, .slice m'.C.A m'.C.n m'.C.c, .int .i64 m'.C.e, .bool m'.A.s, .slice m'.A.A m'.A.n m'.A.c, .int .i64 m'.A.e], .int .i64 code]) (by simp [results, Tryd.results53, go_sem, k0, k1, k2, k3, k4, k5, k6, k7, k8, k9, k10, k11]) rfl ⟨m', code, rfl, hY, ?_⟩
  rcases hres with ⟨h1, h2, h3⟩ | h | h
  · refine .inl ⟨h1, h2, fun j hj => ?_⟩
    obtain ⟨y1, y2, y3, y4, y5, y6⟩ := h3 j hj
    have hs' : U.heap.size = V.heap.size := hs
    exact ⟨y1, y2, y3, y4, y5, (ints_blocks y6 (fun k h1 => hfar k (by omega))).more (by omega) (by omega)⟩
  · exact .inr (.inl h)
  · exact .inr (.inr h)

end Ma
end Go.Proofs.YtlbkepiflhchdaaDoor

namespace Go.Proofs.YtlbkepiflhchdaaDoor
open Go.RowKit
namespace Ma
open Dp Dy
theorem ints_rng {w w' : World} {lo hi n : Nat} {k : IntKind} {A : Option Addr} {xs : List Int} (h : Ints w lo hi k A n xs) (hk : ∀ b, lo ≤ b → b < hi → w'.heap[b]? = w.heap[b]?) : Ints w' lo hi k A n xs :=
  ⟨h.len, h.wf, h.big, fun h0 => by
    obtain ⟨b, off, e, h1, h2, hc⟩ := h.row h0
    have h3 := hk b h1 h2
    exact ⟨b, off, e, h1, h2, fun j hj => ⟨by rw [World.cell?_of_block h3]; exact (hc j hj).1, by rw [World.frozen?_of_block h3]; exact (hc j hj).2⟩⟩⟩
/-- What a node begins with. -/
def seedD (x : Int) (first : Bool) (j : Nat) : Dn := match j with
  | 0 => ⟨decide (x < 0), x.natAbs, 0⟩
  | 1 => ⟨false, 1, 0⟩
  | 2 => if first then ⟨false, 1, 0⟩ else Dn.zero
  | _ => ⟨decide (x < 0), x.natAbs, 0⟩
set_option maxHeartbeats 6400000 in
set_option maxRecDepth 100000 in
theorem MSeed_ok (w : World) (x : Int) (h0 : -2147483647 ≤ x) (h1 : x ≤ 2147483647) (first : Bool) :
    Calls Tryd.prog 56 #[.int .i64 x, .bool first] w fun e w' => ∃ m' : Mv, e = .returned (.tuple #[.agg #[.bool m'.S.s, .slice m'.S.A m'.S.n m'.S.c, .int .i64 m'.S.e, .bool m'.W.s, .slice m'.W.A m'.W.n m'.W.c, .int .i64 m'.W.e, .bool m'.C.s, .slice m'.C.A m'.C.n m'.C.c, .int .i64 m'.C.e, .bool m'.A.s, .slice m'.A.A m'.A.n m'.A.c, .int .i64 m'.A.e], .int .i64 0]) ∧ Below w.heap.size w w' ∧ ∀ j, j < 4 → ResV w' w.heap.size (seedD x first j) (m'.get j) := by
  obtain ⟨s, hs0⟩ : ∃ s, decide (x < 0) = s := ⟨_, rfl⟩
  obtain ⟨v, hv0⟩ : ∃ v, x.natAbs = v := ⟨_, rfl⟩
  have HS0 := Lib.hid hs0
  have HV0 := Lib.hid hv0
  clear hs0 hv0
  have g0 : ¬ x < -2147483647 := by omega
  have g1 : ¬ 2147483647 < x := by omega
  generalize hw : w.alloc (.cells #[.bool false, .slice none 0 0, .int .i64 0, .bool false, .slice none 0 0, .int .i64 0, .bool false, .slice none 0 0, .int .i64 0, .bool false, .slice none 0 0, .int .i64 0] 39) = w1
  have hZ1 : MBox w1 w.heap.size ZM := by rw [← hw]; exact heap_alloc_last _ _
  have hb : Below w.heap.size w w1 := by rw [← hw]; exact (Below.refl _ w).alloc (Nat.le_refl _) _
  have l1 : w.heap.size < w1.heap.size := by rw [← hw]; simp
  cases first
  all_goals
    go_enter Tryd.func56, Tryd.ntmps56
    go_wp2_with fail
    try clear hw
    refine (Of_any w1 x (by omega) (by omega) s v HS0.out HV0.out).mono ?_
    rintro e w2 ⟨A1, n1, rfl, hB, hI⟩
    have l2 := hB.size
    have I1 : Ints w2 (w.heap.size + 1) w2.heap.size .u32 A1 n1 (canon 4294967296 v) := Ints.more hI (by omega) (Nat.le_refl _)
    replace hZ1 : MBox w2 w.heap.size ZM := box_on hZ1 hB l1
    replace hb := hb.trans (hB.mono (by omega))
    clear hB hI
    go_wp2_with fail
    refine (Of_any w2 1 (by decide) (by decide) false 1 rfl rfl).mono ?_
    rintro e w3 ⟨A2, n2, rfl, hB, hI⟩
    have l3 := hB.size
    replace I1 := I1.below hB (Nat.le_refl _)
    have I2 : Ints w3 (w.heap.size + 1) w3.heap.size .u32 A2 n2 (canon 4294967296 1) := Ints.more hI (by omega) (Nat.le_refl _)
    replace hZ1 : MBox w3 w.heap.size ZM := box_on hZ1 hB (by omega)
    replace hb := hb.trans (hB.mono (by omega))
    clear hB hI
    go_wp2_with fail
    refine (Of_any w3 x (by omega) (by omega) s v HS0.out HV0.out).mono ?_
    rintro e w4 ⟨A3, n3, rfl, hB, hI⟩
    have l4 := hB.size
    replace I1 := I1.below hB (by omega)
    replace I2 := I2.below hB (Nat.le_refl _)
    have I3 : Ints w4 (w.heap.size + 1) w4.heap.size .u32 A3 n3 (canon 4294967296 v) := Ints.more hI (by omega) (Nat.le_refl _)
    replace hZ1 : MBox w4 w.heap.size ZM := box_on hZ1 hB (by omega)
    replace hb := hb.trans (hB.mono (by omega))
    clear hB hI
    have hB := (Below.refl w4.heap.size w4).alloc (Nat.le_refl _) (.cells #[.bool s, .slice A1 n1 n1, .int .i64 0, .bool false, .slice A2 n2 n2, .int .i64 0, .bool false, .slice none 0 0, .int .i64 0, .bool s, .slice A3 n3 n3, .int .i64 0] 39)
    have hM := heap_alloc_last w4 (.cells #[.bool s, .slice A1 n1 n1, .int .i64 0, .bool false, .slice A2 n2 n2, .int .i64 0, .bool false, .slice none 0 0, .int .i64 0, .bool s, .slice A3 n3 n3, .int .i64 0] 39)
    have l5 : w4.heap.size < (w4.alloc (.cells #[.bool s, .slice A1 n1 n1, .int .i64 0, .bool false, .slice A2 n2 n2, .int .i64 0, .bool false, .slice none 0 0, .int .i64 0, .bool s, .slice A3 n3 n3, .int .i64 0] 39)).heap.size := by simp
    replace hM : MBox (w4.alloc (.cells #[.bool s, .slice A1 n1 n1, .int .i64 0, .bool false, .slice A2 n2 n2, .int .i64 0, .bool false, .slice none 0 0, .int .i64 0, .bool s, .slice A3 n3 n3, .int .i64 0] 39)) w4.heap.size ⟨⟨s, A1, n1, n1, 0, canon 4294967296 v⟩, ⟨false, A2, n2, n2, 0, canon 4294967296 1⟩, ⟨false, none, 0, 0, 0, []⟩, ⟨s, A3, n3, n3, 0, canon 4294967296 v⟩⟩ := hM
    replace I1 := I1.below hB (by omega)
    replace I2 := I2.below hB (by omega)
    replace I3 := I3.below hB (Nat.le_refl _)
    replace hZ1 : MBox (w4.alloc (.cells #[.bool s, .slice A1 n1 n1, .int .i64 0, .bool false, .slice A2 n2 n2, .int .i64 0, .bool false, .slice none 0 0, .int .i64 0, .bool s, .slice A3 n3 n3, .int .i64 0] 39)) w.heap.size ZM := box_on hZ1 hB (by omega)
    replace hb := hb.trans (hB.mono (by omega))
    clear hB
  · obtain ⟨⟨k0, k1, k2, k3, k4, k5, k6, k7, k8, k9, k10, k11⟩, kf⟩ := MBox.cells hM
    obtain ⟨⟨z0, z1, z2, z3, z4, z5, z6, z7, z8, z9, z10, z11⟩, zf⟩ := MBox.cells hZ1
    go_wp2
    clear k0 k1 k2 k3 k4 k5 k6 k7 k8 k9 k10 k11 kf z0 z1 z2 z3 z4 z5 z6 z7 z8 z9 z10 z11 zf
    generalize (w4.alloc (.cells #[.bool s, .slice A1 n1 n1, .int .i64 0, .bool false, .slice A2 n2 n2, .int .i64 0, .bool false, .slice none 0 0, .int .i64 0, .bool s, .slice A3 n3 n3, .int .i64 0] 39)) = w5 at *
    have hX : MBox ((((((((((((w5.setCell ⟨w.heap.size, 0, none⟩ (.bool s)).setCell ⟨w.heap.size, 1, none⟩ (.slice A1 n1 n1)).setCell ⟨w.heap.size, 2, none⟩ (.int .i64 0)).setCell ⟨w.heap.size, 3, none⟩ (.bool false)).setCell ⟨w.heap.size, 4, none⟩ (.slice A2 n2 n2)).setCell ⟨w.heap.size, 5, none⟩ (.int .i64 0)).setCell ⟨w.heap.size, 6, none⟩ (.bool false)).setCell ⟨w.heap.size, 7, none⟩ (.slice none 0 0)).setCell ⟨w.heap.size, 8, none⟩ (.int .i64 0)).setCell ⟨w.heap.size, 9, none⟩ (.bool s)).setCell ⟨w.heap.size, 10, none⟩ (.slice A3 n3 n3)).setCell ⟨w.heap.size, 11, none⟩ (.int .i64 0)) w.heap.size ⟨⟨s, A1, n1, n1, 0, canon 4294967296 v⟩, ⟨false, A2, n2, n2, 0, canon 4294967296 1⟩, ⟨false, none, 0, 0, 0, []⟩, ⟨s, A3, n3, n3, 0, canon 4294967296 v⟩⟩ := MBox.all hZ1 ⟨⟨s, A1, n1, n1, 0, canon 4294967296 v⟩, ⟨false, A2, n2, n2, 0, canon 4294967296 1⟩, ⟨false, none, 0, 0, 0, []⟩, ⟨s, A3, n3, n3, 0, canon 4294967296 v⟩⟩
    have hY : Below w.heap.size w ((((((((((((w5.setCell ⟨w.heap.size, 0, none⟩ (.bool s)).setCell ⟨w.heap.size, 1, none⟩ (.slice A1 n1 n1)).setCell ⟨w.heap.size, 2, none⟩ (.int .i64 0)).setCell ⟨w.heap.size, 3, none⟩ (.bool false)).setCell ⟨w.heap.size, 4, none⟩ (.slice A2 n2 n2)).setCell ⟨w.heap.size, 5, none⟩ (.int .i64 0)).setCell ⟨w.heap.size, 6, none⟩ (.bool false)).setCell ⟨w.heap.size, 7, none⟩ (.slice none 0 0)).setCell ⟨w.heap.size, 8, none⟩ (.int .i64 0)).setCell ⟨w.heap.size, 9, none⟩ (.bool s)).setCell ⟨w.heap.size, 10, none⟩ (.slice A3 n3 n3)).setCell ⟨w.heap.size, 11, none⟩ (.int .i64 0)) := below_all hb (Nat.le_refl _) ⟨⟨s, A1, n1, n1, 0, canon 4294967296 v⟩, ⟨false, A2, n2, n2, 0, canon 4294967296 1⟩, ⟨false, none, 0, 0, 0, []⟩, ⟨s, A3, n3, n3, 0, canon 4294967296 v⟩⟩
    have hs : (((((((((((((w5.setCell ⟨w.heap.size, 0, none⟩ (.bool s)).setCell ⟨w.heap.size, 1, none⟩ (.slice A1 n1 n1)).setCell ⟨w.heap.size, 2, none⟩ (.int .i64 0)).setCell ⟨w.heap.size, 3, none⟩ (.bool false)).setCell ⟨w.heap.size, 4, none⟩ (.slice A2 n2 n2)).setCell ⟨w.heap.size, 5, none⟩ (.int .i64 0)).setCell ⟨w.heap.size, 6, none⟩ (.bool false)).setCell ⟨w.heap.size, 7, none⟩ (.slice none 0 0)).setCell ⟨w.heap.size, 8, none⟩ (.int .i64 0)).setCell ⟨w.heap.size, 9, none⟩ (.bool s)).setCell ⟨w.heap.size, 10, none⟩ (.slice A3 n3 n3)).setCell ⟨w.heap.size, 11, none⟩ (.int .i64 0))).heap.size = w5.heap.size := size_all (w := w5) (g := w.heap.size) ⟨⟨s, A1, n1, n1, 0, canon 4294967296 v⟩, ⟨false, A2, n2, n2, 0, canon 4294967296 1⟩, ⟨false, none, 0, 0, 0, []⟩, ⟨s, A3, n3, n3, 0, canon 4294967296 v⟩⟩
    have hfar : ∀ k, k ≠ w.heap.size → (((((((((((((w5.setCell ⟨w.heap.size, 0, none⟩ (.bool s)).setCell ⟨w.heap.size, 1, none⟩ (.slice A1 n1 n1)).setCell ⟨w.heap.size, 2, none⟩ (.int .i64 0)).setCell ⟨w.heap.size, 3, none⟩ (.bool false)).setCell ⟨w.heap.size, 4, none⟩ (.slice A2 n2 n2)).setCell ⟨w.heap.size, 5, none⟩ (.int .i64 0)).setCell ⟨w.heap.size, 6, none⟩ (.bool false)).setCell ⟨w.heap.size, 7, none⟩ (.slice none 0 0)).setCell ⟨w.heap.size, 8, none⟩ (.int .i64 0)).setCell ⟨w.heap.size, 9, none⟩ (.bool s)).setCell ⟨w.heap.size, 10, none⟩ (.slice A3 n3 n3)).setCell ⟨w.heap.size, 11, none⟩ (.int .i64 0))).heap[k]? = w5.heap[k]? := fun k hk => far_all hk ⟨⟨s, A1, n1, n1, 0, canon 4294967296 v⟩, ⟨false, A2, n2, n2, 0, canon 4294967296 1⟩, ⟨false, none, 0, 0, 0, []⟩, ⟨s, A3, n3, n3, 0, canon 4294967296 v⟩⟩
    generalize ((((((((((((w5.setCell ⟨w.heap.size, 0, none⟩ (.bool s)).setCell ⟨w.heap.size, 1, none⟩ (.slice A1 n1 n1)).setCell ⟨w.heap.size, 2, none⟩ (.int .i64 0)).setCell ⟨w.heap.size, 3, none⟩ (.bool false)).setCell ⟨w.heap.size, 4, none⟩ (.slice A2 n2 n2)).setCell ⟨w.heap.size, 5, none⟩ (.int .i64 0)).setCell ⟨w.heap.size, 6, none⟩ (.bool false)).setCell ⟨w.heap.size, 7, none⟩ (.slice none 0 0)).setCell ⟨w.heap.size, 8, none⟩ (.int .i64 0)).setCell ⟨w.heap.size, 9, none⟩ (.bool s)).setCell ⟨w.heap.size, 10, none⟩ (.slice A3 n3 n3)).setCell ⟨w.heap.size, 11, none⟩ (.int .i64 0)) = U at *
    obtain ⟨M, hMe⟩ : ∃ M : Mv, M = ⟨⟨s, A1, n1, n1, 0, canon 4294967296 v⟩, ⟨false, A2, n2, n2, 0, canon 4294967296 1⟩, ⟨false, none, 0, 0, 0, []⟩, ⟨s, A3, n3, n3, 0, canon 4294967296 v⟩⟩ := ⟨_, rfl⟩
    rw [← hMe] at hX
    have HME := Lib.hid hMe
    clear hMe
    obtain ⟨⟨k0, k1, k2, k3, k4, k5, k6, k7, k8, k9, k10, k11⟩, kf⟩ := MBox.cells hX
    refine bodyPost_ret (v := .tuple #[.agg #[.bool M.S.s, .slice M.S.A M.S.n M.S.c, .int .i64 M.S.e, .bool M.W.s, .slice M.W.A M.W.n M.W.c, .int .i64 M.W.e, .bool M.C.s, .slice M.C.A M.C.n M.C.c, .int .i64 M.C.e, .bool M.A.s, .slice M.A.A M.A.n M.A.c, .int .i64 M.A.e], .int .i64 0]) (by simp [results, Tryd.results56, go_sem, k0, k1, k2, k3, k4, k5, k6, k7, k8, k9, k10, k11]) rfl ⟨M, rfl, hY, ?_⟩
    rw [HME.out]
    have hs' : U.heap.size = w5.heap.size := hs
    have mv : ∀ {lo hi n : Nat} {A : Option Addr} {xs : List Int}, Ints w5 lo hi .u32 A n xs → w.heap.size + 1 ≤ lo → hi ≤ w5.heap.size → Ints U w.heap.size U.heap.size .u32 A n xs := fun hi hl hh => (ints_blocks hi (fun k h1 => hfar k (by omega))).more (by omega) (by omega)
    refine four ?_ ?_ ?_ ?_
    · exact ⟨HS0.out.symm, rfl, by show canon 4294967296 v = canon 4294967296 x.natAbs; rw [HV0.out], Nat.le_refl _, mv I1 (by omega) (by omega)⟩
    · exact ⟨rfl, rfl, rfl, Nat.le_refl _, mv I2 (by omega) (by omega)⟩
    · exact ⟨rfl, rfl, rfl, Nat.le_refl _, Ints.nil_ ..⟩
    · exact ⟨HS0.out.symm, rfl, by show canon 4294967296 v = canon 4294967296 x.natAbs; rw [HV0.out], Nat.le_refl _, mv I3 (by omega) (by omega)⟩
  · go_wp2_with fail
    generalize (w4.alloc (.cells #[.bool s, .slice A1 n1 n1, .int .i64 0, .bool false, .slice A2 n2 n2, .int .i64 0, .bool false, .slice none 0 0, .int .i64 0, .bool s, .slice A3 n3 n3, .int .i64 0] 39)) = w5 at *
    refine (Of_any w5 1 (by decide) (by decide) false 1 rfl rfl).mono ?_
    rintro e w6 ⟨A4, n4, rfl, hB, hI⟩
    have l6 := hB.size
    have I4 : Ints w6 w5.heap.size w6.heap.size .u32 A4 n4 (canon 4294967296 1) := hI
    replace I1 := I1.below hB (by omega)
    replace I2 := I2.below hB (by omega)
    replace I3 := I3.below hB (by omega)
    replace hZ1 : MBox w6 w.heap.size ZM := box_on hZ1 hB (by omega)
    replace hM := box_on hM hB (by omega)
    replace hb := hb.trans (hB.mono (by omega))
    clear hB hI
    obtain ⟨⟨k0, k1, k2, k3, k4, k5, k6, k7, k8, k9, k10, k11⟩, kf⟩ := MBox.cells hM
    obtain ⟨⟨z0, z1, z2, z3, z4, z5, z6, z7, z8, z9, z10, z11⟩, zf⟩ := MBox.cells hZ1
    have hne : w4.heap.size ≠ w.heap.size := by omega
    have hne2 : w.heap.size ≠ w4.heap.size := by omega
    go_wp2
    clear k0 k1 k2 k3 k4 k5 k6 k7 k8 k9 k10 k11 kf z0 z1 z2 z3 z4 z5 z6 z7 z8 z9 z10 z11 zf
    have hfar6 : ∀ k, k ≠ w4.heap.size → ((((w6.setCell ⟨w4.heap.size, 6, none⟩ (.bool false)).setCell ⟨w4.heap.size, 7, none⟩ (.slice A4 n4 n4)).setCell ⟨w4.heap.size, 8, none⟩ (.int .i64 0))).heap[k]? = w6.heap[k]? := fun k hk => (Below.heap_setCell _ _ _ _ hk).trans ((Below.heap_setCell _ _ _ _ hk).trans (Below.heap_setCell _ _ _ _ hk))
    have hs6 : ((((w6.setCell ⟨w4.heap.size, 6, none⟩ (.bool false)).setCell ⟨w4.heap.size, 7, none⟩ (.slice A4 n4 n4)).setCell ⟨w4.heap.size, 8, none⟩ (.int .i64 0))).heap.size = w6.heap.size := by simp only [size_set]
    replace hZ1 : MBox (((w6.setCell ⟨w4.heap.size, 6, none⟩ (.bool false)).setCell ⟨w4.heap.size, 7, none⟩ (.slice A4 n4 n4)).setCell ⟨w4.heap.size, 8, none⟩ (.int .i64 0)) w.heap.size ZM := (hfar6 _ hne2).trans hZ1
    replace hb : Below w.heap.size w (((w6.setCell ⟨w4.heap.size, 6, none⟩ (.bool false)).setCell ⟨w4.heap.size, 7, none⟩ (.slice A4 n4 n4)).setCell ⟨w4.heap.size, 8, none⟩ (.int .i64 0)) := ((hb.setCell (by simp; omega) _).setCell (by simp; omega) _).setCell (by simp; omega) _
    generalize (((w6.setCell ⟨w4.heap.size, 6, none⟩ (.bool false)).setCell ⟨w4.heap.size, 7, none⟩ (.slice A4 n4 n4)).setCell ⟨w4.heap.size, 8, none⟩ (.int .i64 0)) = w7 at *
    have hX : MBox ((((((((((((w7.setCell ⟨w.heap.size, 0, none⟩ (.bool s)).setCell ⟨w.heap.size, 1, none⟩ (.slice A1 n1 n1)).setCell ⟨w.heap.size, 2, none⟩ (.int .i64 0)).setCell ⟨w.heap.size, 3, none⟩ (.bool false)).setCell ⟨w.heap.size, 4, none⟩ (.slice A2 n2 n2)).setCell ⟨w.heap.size, 5, none⟩ (.int .i64 0)).setCell ⟨w.heap.size, 6, none⟩ (.bool false)).setCell ⟨w.heap.size, 7, none⟩ (.slice A4 n4 n4)).setCell ⟨w.heap.size, 8, none⟩ (.int .i64 0)).setCell ⟨w.heap.size, 9, none⟩ (.bool s)).setCell ⟨w.heap.size, 10, none⟩ (.slice A3 n3 n3)).setCell ⟨w.heap.size, 11, none⟩ (.int .i64 0)) w.heap.size ⟨⟨s, A1, n1, n1, 0, canon 4294967296 v⟩, ⟨false, A2, n2, n2, 0, canon 4294967296 1⟩, ⟨false, A4, n4, n4, 0, canon 4294967296 1⟩, ⟨s, A3, n3, n3, 0, canon 4294967296 v⟩⟩ := MBox.all hZ1 ⟨⟨s, A1, n1, n1, 0, canon 4294967296 v⟩, ⟨false, A2, n2, n2, 0, canon 4294967296 1⟩, ⟨false, A4, n4, n4, 0, canon 4294967296 1⟩, ⟨s, A3, n3, n3, 0, canon 4294967296 v⟩⟩
    have hY : Below w.heap.size w ((((((((((((w7.setCell ⟨w.heap.size, 0, none⟩ (.bool s)).setCell ⟨w.heap.size, 1, none⟩ (.slice A1 n1 n1)).setCell ⟨w.heap.size, 2, none⟩ (.int .i64 0)).setCell ⟨w.heap.size, 3, none⟩ (.bool false)).setCell ⟨w.heap.size, 4, none⟩ (.slice A2 n2 n2)).setCell ⟨w.heap.size, 5, none⟩ (.int .i64 0)).setCell ⟨w.heap.size, 6, none⟩ (.bool false)).setCell ⟨w.heap.size, 7, none⟩ (.slice A4 n4 n4)).setCell ⟨w.heap.size, 8, none⟩ (.int .i64 0)).setCell ⟨w.heap.size, 9, none⟩ (.bool s)).setCell ⟨w.heap.size, 10, none⟩ (.slice A3 n3 n3)).setCell ⟨w.heap.size, 11, none⟩ (.int .i64 0)) := below_all hb (Nat.le_refl _) ⟨⟨s, A1, n1, n1, 0, canon 4294967296 v⟩, ⟨false, A2, n2, n2, 0, canon 4294967296 1⟩, ⟨false, A4, n4, n4, 0, canon 4294967296 1⟩, ⟨s, A3, n3, n3, 0, canon 4294967296 v⟩⟩
    have hs : (((((((((((((w7.setCell ⟨w.heap.size, 0, none⟩ (.bool s)).setCell ⟨w.heap.size, 1, none⟩ (.slice A1 n1 n1)).setCell ⟨w.heap.size, 2, none⟩ (.int .i64 0)).setCell ⟨w.heap.size, 3, none⟩ (.bool false)).setCell ⟨w.heap.size, 4, none⟩ (.slice A2 n2 n2)).setCell ⟨w.heap.size, 5, none⟩ (.int .i64 0)).setCell ⟨w.heap.size, 6, none⟩ (.bool false)).setCell ⟨w.heap.size, 7, none⟩ (.slice A4 n4 n4)).setCell ⟨w.heap.size, 8, none⟩ (.int .i64 0)).setCell ⟨w.heap.size, 9, none⟩ (.bool s)).setCell ⟨w.heap.size, 10, none⟩ (.slice A3 n3 n3)).setCell ⟨w.heap.size, 11, none⟩ (.int .i64 0))).heap.size = w7.heap.size := size_all (w := w7) (g := w.heap.size) ⟨⟨s, A1, n1, n1, 0, canon 4294967296 v⟩, ⟨false, A2, n2, n2, 0, canon 4294967296 1⟩, ⟨false, A4, n4, n4, 0, canon 4294967296 1⟩, ⟨s, A3, n3, n3, 0, canon 4294967296 v⟩⟩
    have hfar : ∀ k, k ≠ w.heap.size → (((((((((((((w7.setCell ⟨w.heap.size, 0, none⟩ (.bool s)).setCell ⟨w.heap.size, 1, none⟩ (.slice A1 n1 n1)).setCell ⟨w.heap.size, 2, none⟩ (.int .i64 0)).setCell ⟨w.heap.size, 3, none⟩ (.bool false)).setCell ⟨w.heap.size, 4, none⟩ (.slice A2 n2 n2)).setCell ⟨w.heap.size, 5, none⟩ (.int .i64 0)).setCell ⟨w.heap.size, 6, none⟩ (.bool false)).setCell ⟨w.heap.size, 7, none⟩ (.slice A4 n4 n4)).setCell ⟨w.heap.size, 8, none⟩ (.int .i64 0)).setCell ⟨w.heap.size, 9, none⟩ (.bool s)).setCell ⟨w.heap.size, 10, none⟩ (.slice A3 n3 n3)).setCell ⟨w.heap.size, 11, none⟩ (.int .i64 0))).heap[k]? = w7.heap[k]? := fun k hk => far_all hk ⟨⟨s, A1, n1, n1, 0, canon 4294967296 v⟩, ⟨false, A2, n2, n2, 0, canon 4294967296 1⟩, ⟨false, A4, n4, n4, 0, canon 4294967296 1⟩, ⟨s, A3, n3, n3, 0, canon 4294967296 v⟩⟩
    generalize ((((((((((((w7.setCell ⟨w.heap.size, 0, none⟩ (.bool s)).setCell ⟨w.heap.size, 1, none⟩ (.slice A1 n1 n1)).setCell ⟨w.heap.size, 2, none⟩ (.int .i64 0)).setCell ⟨w.heap.size, 3, none⟩ (.bool false)).setCell ⟨w.heap.size, 4, none⟩ (.slice A2 n2 n2)).setCell ⟨w.heap.size, 5, none⟩ (.int .i64 0)).setCell ⟨w.heap.size, 6, none⟩ (.bool false)).setCell ⟨w.heap.size, 7, none⟩ (.slice A4 n4 n4)).setCell ⟨w.heap.size, 8, none⟩ (.int .i64 0)).setCell ⟨w.heap.size, 9, none⟩ (.bool s)).setCell ⟨w.heap.size, 10, none⟩ (.slice A3 n3 n3)).setCell ⟨w.heap.size, 11, none⟩ (.int .i64 0)) = U at *
    obtain ⟨M, hMe⟩ : ∃ M : Mv, M = ⟨⟨s, A1, n1, n1, 0, canon 4294967296 v⟩, ⟨false, A2, n2, n2, 0, canon 4294967296 1⟩, ⟨false, A4, n4, n4, 0, canon 4294967296 1⟩, ⟨s, A3, n3, n3, 0, canon 4294967296 v⟩⟩ := ⟨_, rfl⟩
    rw [← hMe] at hX
    have HME := Lib.hid hMe
    clear hMe
    obtain ⟨⟨k0, k1, k2, k3, k4, k5, k6, k7, k8, k9, k10, k11⟩, kf⟩ := MBox.cells hX
    refine bodyPost_ret (v := .tuple #[.agg #[.bool M.S.s, .slice M.S.A M.S.n M.S.c, .int .i64 M.S.e, .bool M.W.s, .slice M.W.A M.W.n M.W.c, .int .i64 M.W.e, .bool M.C.s, .slice M.C.A M.C.n M.C.c, .int .i64 M.C.e, .bool M.A.s, .slice M.A.A M.A.n M.A.c, .int .i64 M.A.e], .int .i64 0]) (by simp [results, Tryd.results56, go_sem, k0, k1, k2, k3, k4, k5, k6, k7, k8, k9, k10, k11]) rfl ⟨M, rfl, hY, ?_⟩
    rw [HME.out]
    have hs' : U.heap.size = w7.heap.size := hs
    have hs6' : w7.heap.size = w6.heap.size := hs6
    have mv : ∀ {lo hi n : Nat} {A : Option Addr} {xs : List Int}, Ints w6 lo hi .u32 A n xs → w.heap.size + 1 ≤ lo → (hi ≤ w4.heap.size ∨ w4.heap.size + 1 ≤ lo) → hi ≤ w6.heap.size → Ints U w.heap.size U.heap.size .u32 A n xs := fun hi hl hd hh => (ints_rng hi (fun k h1 h2 => (hfar k (by omega)).trans (hfar6 k (by omega)))).more (by omega) (by omega)
    refine four ?_ ?_ ?_ ?_
    · exact ⟨HS0.out.symm, rfl, by show canon 4294967296 v = canon 4294967296 x.natAbs; rw [HV0.out], Nat.le_refl _, mv I1 (by omega) (.inl (by omega)) (by omega)⟩
    · exact ⟨rfl, rfl, rfl, Nat.le_refl _, mv I2 (by omega) (.inl (by omega)) (by omega)⟩
    · exact ⟨rfl, rfl, rfl, Nat.le_refl _, mv I4 (by omega) (.inr (by omega)) (by omega)⟩
    · exact ⟨HS0.out.symm, rfl, by show canon 4294967296 v = canon 4294967296 x.natAbs; rw [HV0.out], Nat.le_refl _, mv I3 (by omega) (.inl (by omega)) (by omega)⟩
end Ma
end Go.Proofs.YtlbkepiflhchdaaDoor
