/- mass.Split: a walk (printed by a program of mine). -/
import Derived.Test.YtbbnbgllgomolaaDoorBt10
import Derived.Test.YtbbnbgllgomolaaDoorBt03
namespace Go.Proofs.YtbbnbgllgomolaaDoor
open Go.RowKit
namespace Ma
open Dp Dy
theorem rows_rng {w w' : World} {lo hi : Nat} {m : Mv} (h : MRows w lo hi m) (hk : ∀ b, lo ≤ b → b < hi → w'.heap[b]? = w.heap[b]?) : MRows w' lo hi m := ⟨ints_rng h.S hk, ints_rng h.W hk, ints_rng h.C hk, ints_rng h.A hk⟩
theorem half_two {d : Dv} {r : Dn} {code : Int} (hd : d.may) (h : halfX d.s d.xs d.e = (r, code)) : code = 0 ∨ code = 10 := by
 rw [halfX_ok hd] at h
 rcases half_cases (dn d.s d.xs d.e) with k | k
 · rw [h] at k
   exact .inl k
 · rw [h] at k
   injection k with _ k
   exact .inr k
set_option maxHeartbeats 12800000 in
set_option maxRecDepth 100000 in
theorem MSplit_bad (w : World) (m : Mv) (hR : MRows w 0 w.heap.size m) (h : ¬ m.may) :
  Calls Tryd.prog 36 #[.agg #[.bool m.S.s, .slice m.S.A m.S.n m.S.c, .int .i64 m.S.e, .bool m.W.s, .slice m.W.A m.W.n m.W.c, .int .i64 m.W.e, .bool m.C.s, .slice m.C.A m.C.n m.C.c, .int .i64 m.C.e, .bool m.A.s, .slice m.A.A m.A.n m.A.c, .int .i64 m.A.e]] w fun e w' => ∃ (k s : Mv) (code : Int), e = .returned (.tuple #[.agg #[.bool k.S.s, .slice k.S.A k.S.n k.S.c, .int .i64 k.S.e, .bool k.W.s, .slice k.W.A k.W.n k.W.c, .int .i64 k.W.e, .bool k.C.s, .slice k.C.A k.C.n k.C.c, .int .i64 k.C.e, .bool k.A.s, .slice k.A.A k.A.n k.A.c, .int .i64 k.A.e], .agg #[.bool s.S.s, .slice s.S.A s.S.n s.S.c, .int .i64 s.S.e, .bool s.W.s, .slice s.W.A s.W.n s.W.c, .int .i64 s.W.e, .bool s.C.s, .slice s.C.A s.C.n s.C.c, .int .i64 s.C.e, .bool s.A.s, .slice s.A.A s.A.n s.A.c, .int .i64 s.A.e], .int .i64 code]) ∧ Below w.heap.size w w' ∧ code = 8 ∧ k = ZM ∧ s = ZM := by
 generalize hw : ((w.alloc (.cells #[.bool m.S.s, .slice m.S.A m.S.n m.S.c, .int .i64 m.S.e, .bool m.W.s, .slice m.W.A m.W.n m.W.c, .int .i64 m.W.e, .bool m.C.s, .slice m.C.A m.C.n m.C.c, .int .i64 m.C.e, .bool m.A.s, .slice m.A.A m.A.n m.A.c, .int .i64 m.A.e] 26)).alloc (.cells #[.bool false, .slice none 0 0, .int .i64 0, .bool false, .slice none 0 0, .int .i64 0, .bool false, .slice none 0 0, .int .i64 0, .bool false, .slice none 0 0, .int .i64 0] 26)).alloc (.cells #[.bool false, .slice none 0 0, .int .i64 0, .bool false, .slice none 0 0, .int .i64 0, .bool false, .slice none 0 0, .int .i64 0, .bool false, .slice none 0 0, .int .i64 0] 26) = w1
 obtain ⟨hM1, hZ1, hZ2, hb, hlo, hhi⟩ := boxes3 w _ _ _ hw
 replace hZ1 : MBox w1 (w.heap.size + 1) ZM := hZ1
 replace hZ2 : MBox w1 (w.heap.size + 1 + 1) ZM := hZ2
 replace hR := hR.below hb (Nat.le_refl _)
 have hk := Lib.hid (chk_not h)
 clear h
 obtain ⟨⟨k0, k1, k2, k3, k4, k5, k6, k7, k8, k9, k10, k11⟩, kf⟩ := MBox.cells (m := m) hM1
 go_enter Tryd.func36, Tryd.ntmps36
 go_wp2_with fail
 try clear hw
 refine (MCheck_any w1 m (hR.more (Nat.le_refl _) (by omega)) 8 hk.out).mono ?_
 rintro e w2 ⟨rfl, hB⟩
 clear k0 k1 k2 k3 k4 k5 k6 k7 k8 k9 k10 k11 kf
 have l2 := hB.size
 replace hZ1 : MBox w2 (w.heap.size + 1) ZM := box_on hZ1 hB (by omega)
 replace hZ2 : MBox w2 (w.heap.size + 1 + 1) ZM := box_on hZ2 hB (by omega)
 replace hb := hb.trans (hB.mono (by omega))
 clear hB
 obtain ⟨⟨z0, z1, z2, z3, z4, z5, z6, z7, z8, z9, z10, z11⟩, zf⟩ := MBox.cells hZ1
 obtain ⟨⟨y0, y1, y2, y3, y4, y5, y6, y7, y8, y9, y10, y11⟩, yf⟩ := MBox.cells hZ2
 go_wp2
 clear z0 z1 z2 z3 z4 z5 z6 z7 z8 z9 z10 z11 zf y0 y1 y2 y3 y4 y5 y6 y7 y8 y9 y10 y11 yf
 have hX1 : MBox ((((((((((((((((((((((((w2.setCell ⟨w.heap.size + 1, 0, none⟩ (.bool false)).setCell ⟨w.heap.size + 1, 1, none⟩ (.slice none 0 0)).setCell ⟨w.heap.size + 1, 2, none⟩ (.int .i64 0)).setCell ⟨w.heap.size + 1, 3, none⟩ (.bool false)).setCell ⟨w.heap.size + 1, 4, none⟩ (.slice none 0 0)).setCell ⟨w.heap.size + 1, 5, none⟩ (.int .i64 0)).setCell ⟨w.heap.size + 1, 6, none⟩ (.bool false)).setCell ⟨w.heap.size + 1, 7, none⟩ (.slice none 0 0)).setCell ⟨w.heap.size + 1, 8, none⟩ (.int .i64 0)).setCell ⟨w.heap.size + 1, 9, none⟩ (.bool false)).setCell ⟨w.heap.size + 1, 10, none⟩ (.slice none 0 0)).setCell ⟨w.heap.size + 1, 11, none⟩ (.int .i64 0)).setCell ⟨w.heap.size + 1 + 1, 0, none⟩ (.bool false)).setCell ⟨w.heap.size + 1 + 1, 1, none⟩ (.slice none 0 0)).setCell ⟨w.heap.size + 1 + 1, 2, none⟩ (.int .i64 0)).setCell ⟨w.heap.size + 1 + 1, 3, none⟩ (.bool false)).setCell ⟨w.heap.size + 1 + 1, 4, none⟩ (.slice none 0 0)).setCell ⟨w.heap.size + 1 + 1, 5, none⟩ (.int .i64 0)).setCell ⟨w.heap.size + 1 + 1, 6, none⟩ (.bool false)).setCell ⟨w.heap.size + 1 + 1, 7, none⟩ (.slice none 0 0)).setCell ⟨w.heap.size + 1 + 1, 8, none⟩ (.int .i64 0)).setCell ⟨w.heap.size + 1 + 1, 9, none⟩ (.bool false)).setCell ⟨w.heap.size + 1 + 1, 10, none⟩ (.slice none 0 0)).setCell ⟨w.heap.size + 1 + 1, 11, none⟩ (.int .i64 0)) (w.heap.size + 1) ZM := (far_all (w := ((((((((((((w2.setCell ⟨w.heap.size + 1, 0, none⟩ (.bool false)).setCell ⟨w.heap.size + 1, 1, none⟩ (.slice none 0 0)).setCell ⟨w.heap.size + 1, 2, none⟩ (.int .i64 0)).setCell ⟨w.heap.size + 1, 3, none⟩ (.bool false)).setCell ⟨w.heap.size + 1, 4, none⟩ (.slice none 0 0)).setCell ⟨w.heap.size + 1, 5, none⟩ (.int .i64 0)).setCell ⟨w.heap.size + 1, 6, none⟩ (.bool false)).setCell ⟨w.heap.size + 1, 7, none⟩ (.slice none 0 0)).setCell ⟨w.heap.size + 1, 8, none⟩ (.int .i64 0)).setCell ⟨w.heap.size + 1, 9, none⟩ (.bool false)).setCell ⟨w.heap.size + 1, 10, none⟩ (.slice none 0 0)).setCell ⟨w.heap.size + 1, 11, none⟩ (.int .i64 0))) (g := w.heap.size + 1 + 1) (by omega) ZM).trans (MBox.all hZ1 ZM)
 have hX2 : MBox ((((((((((((((((((((((((w2.setCell ⟨w.heap.size + 1, 0, none⟩ (.bool false)).setCell ⟨w.heap.size + 1, 1, none⟩ (.slice none 0 0)).setCell ⟨w.heap.size + 1, 2, none⟩ (.int .i64 0)).setCell ⟨w.heap.size + 1, 3, none⟩ (.bool false)).setCell ⟨w.heap.size + 1, 4, none⟩ (.slice none 0 0)).setCell ⟨w.heap.size + 1, 5, none⟩ (.int .i64 0)).setCell ⟨w.heap.size + 1, 6, none⟩ (.bool false)).setCell ⟨w.heap.size + 1, 7, none⟩ (.slice none 0 0)).setCell ⟨w.heap.size + 1, 8, none⟩ (.int .i64 0)).setCell ⟨w.heap.size + 1, 9, none⟩ (.bool false)).setCell ⟨w.heap.size + 1, 10, none⟩ (.slice none 0 0)).setCell ⟨w.heap.size + 1, 11, none⟩ (.int .i64 0)).setCell ⟨w.heap.size + 1 + 1, 0, none⟩ (.bool false)).setCell ⟨w.heap.size + 1 + 1, 1, none⟩ (.slice none 0 0)).setCell ⟨w.heap.size + 1 + 1, 2, none⟩ (.int .i64 0)).setCell ⟨w.heap.size + 1 + 1, 3, none⟩ (.bool false)).setCell ⟨w.heap.size + 1 + 1, 4, none⟩ (.slice none 0 0)).setCell ⟨w.heap.size + 1 + 1, 5, none⟩ (.int .i64 0)).setCell ⟨w.heap.size + 1 + 1, 6, none⟩ (.bool false)).setCell ⟨w.heap.size + 1 + 1, 7, none⟩ (.slice none 0 0)).setCell ⟨w.heap.size + 1 + 1, 8, none⟩ (.int .i64 0)).setCell ⟨w.heap.size + 1 + 1, 9, none⟩ (.bool false)).setCell ⟨w.heap.size + 1 + 1, 10, none⟩ (.slice none 0 0)).setCell ⟨w.heap.size + 1 + 1, 11, none⟩ (.int .i64 0)) (w.heap.size + 1 + 1) ZM := MBox.all (w := ((((((((((((w2.setCell ⟨w.heap.size + 1, 0, none⟩ (.bool false)).setCell ⟨w.heap.size + 1, 1, none⟩ (.slice none 0 0)).setCell ⟨w.heap.size + 1, 2, none⟩ (.int .i64 0)).setCell ⟨w.heap.size + 1, 3, none⟩ (.bool false)).setCell ⟨w.heap.size + 1, 4, none⟩ (.slice none 0 0)).setCell ⟨w.heap.size + 1, 5, none⟩ (.int .i64 0)).setCell ⟨w.heap.size + 1, 6, none⟩ (.bool false)).setCell ⟨w.heap.size + 1, 7, none⟩ (.slice none 0 0)).setCell ⟨w.heap.size + 1, 8, none⟩ (.int .i64 0)).setCell ⟨w.heap.size + 1, 9, none⟩ (.bool false)).setCell ⟨w.heap.size + 1, 10, none⟩ (.slice none 0 0)).setCell ⟨w.heap.size + 1, 11, none⟩ (.int .i64 0))) ((far_all (w := w2) (g := w.heap.size + 1) (by omega) ZM).trans hZ2) ZM
 have hY : Below w.heap.size w ((((((((((((((((((((((((w2.setCell ⟨w.heap.size + 1, 0, none⟩ (.bool false)).setCell ⟨w.heap.size + 1, 1, none⟩ (.slice none 0 0)).setCell ⟨w.heap.size + 1, 2, none⟩ (.int .i64 0)).setCell ⟨w.heap.size + 1, 3, none⟩ (.bool false)).setCell ⟨w.heap.size + 1, 4, none⟩ (.slice none 0 0)).setCell ⟨w.heap.size + 1, 5, none⟩ (.int .i64 0)).setCell ⟨w.heap.size + 1, 6, none⟩ (.bool false)).setCell ⟨w.heap.size + 1, 7, none⟩ (.slice none 0 0)).setCell ⟨w.heap.size + 1, 8, none⟩ (.int .i64 0)).setCell ⟨w.heap.size + 1, 9, none⟩ (.bool false)).setCell ⟨w.heap.size + 1, 10, none⟩ (.slice none 0 0)).setCell ⟨w.heap.size + 1, 11, none⟩ (.int .i64 0)).setCell ⟨w.heap.size + 1 + 1, 0, none⟩ (.bool false)).setCell ⟨w.heap.size + 1 + 1, 1, none⟩ (.slice none 0 0)).setCell ⟨w.heap.size + 1 + 1, 2, none⟩ (.int .i64 0)).setCell ⟨w.heap.size + 1 + 1, 3, none⟩ (.bool false)).setCell ⟨w.heap.size + 1 + 1, 4, none⟩ (.slice none 0 0)).setCell ⟨w.heap.size + 1 + 1, 5, none⟩ (.int .i64 0)).setCell ⟨w.heap.size + 1 + 1, 6, none⟩ (.bool false)).setCell ⟨w.heap.size + 1 + 1, 7, none⟩ (.slice none 0 0)).setCell ⟨w.heap.size + 1 + 1, 8, none⟩ (.int .i64 0)).setCell ⟨w.heap.size + 1 + 1, 9, none⟩ (.bool false)).setCell ⟨w.heap.size + 1 + 1, 10, none⟩ (.slice none 0 0)).setCell ⟨w.heap.size + 1 + 1, 11, none⟩ (.int .i64 0)) := below_all (w := ((((((((((((w2.setCell ⟨w.heap.size + 1, 0, none⟩ (.bool false)).setCell ⟨w.heap.size + 1, 1, none⟩ (.slice none 0 0)).setCell ⟨w.heap.size + 1, 2, none⟩ (.int .i64 0)).setCell ⟨w.heap.size + 1, 3, none⟩ (.bool false)).setCell ⟨w.heap.size + 1, 4, none⟩ (.slice none 0 0)).setCell ⟨w.heap.size + 1, 5, none⟩ (.int .i64 0)).setCell ⟨w.heap.size + 1, 6, none⟩ (.bool false)).setCell ⟨w.heap.size + 1, 7, none⟩ (.slice none 0 0)).setCell ⟨w.heap.size + 1, 8, none⟩ (.int .i64 0)).setCell ⟨w.heap.size + 1, 9, none⟩ (.bool false)).setCell ⟨w.heap.size + 1, 10, none⟩ (.slice none 0 0)).setCell ⟨w.heap.size + 1, 11, none⟩ (.int .i64 0))) (below_all hb (show w.heap.size ≤ w.heap.size + 1 by omega) ZM) (show w.heap.size ≤ w.heap.size + 1 + 1 by omega) ZM
 generalize ((((((((((((((((((((((((w2.setCell ⟨w.heap.size + 1, 0, none⟩ (.bool false)).setCell ⟨w.heap.size + 1, 1, none⟩ (.slice none 0 0)).setCell ⟨w.heap.size + 1, 2, none⟩ (.int .i64 0)).setCell ⟨w.heap.size + 1, 3, none⟩ (.bool false)).setCell ⟨w.heap.size + 1, 4, none⟩ (.slice none 0 0)).setCell ⟨w.heap.size + 1, 5, none⟩ (.int .i64 0)).setCell ⟨w.heap.size + 1, 6, none⟩ (.bool false)).setCell ⟨w.heap.size + 1, 7, none⟩ (.slice none 0 0)).setCell ⟨w.heap.size + 1, 8, none⟩ (.int .i64 0)).setCell ⟨w.heap.size + 1, 9, none⟩ (.bool false)).setCell ⟨w.heap.size + 1, 10, none⟩ (.slice none 0 0)).setCell ⟨w.heap.size + 1, 11, none⟩ (.int .i64 0)).setCell ⟨w.heap.size + 1 + 1, 0, none⟩ (.bool false)).setCell ⟨w.heap.size + 1 + 1, 1, none⟩ (.slice none 0 0)).setCell ⟨w.heap.size + 1 + 1, 2, none⟩ (.int .i64 0)).setCell ⟨w.heap.size + 1 + 1, 3, none⟩ (.bool false)).setCell ⟨w.heap.size + 1 + 1, 4, none⟩ (.slice none 0 0)).setCell ⟨w.heap.size + 1 + 1, 5, none⟩ (.int .i64 0)).setCell ⟨w.heap.size + 1 + 1, 6, none⟩ (.bool false)).setCell ⟨w.heap.size + 1 + 1, 7, none⟩ (.slice none 0 0)).setCell ⟨w.heap.size + 1 + 1, 8, none⟩ (.int .i64 0)).setCell ⟨w.heap.size + 1 + 1, 9, none⟩ (.bool false)).setCell ⟨w.heap.size + 1 + 1, 10, none⟩ (.slice none 0 0)).setCell ⟨w.heap.size + 1 + 1, 11, none⟩ (.int .i64 0)) = U at *
 obtain ⟨M, hMe⟩ : ∃ M : Mv, M = ZM := ⟨_, rfl⟩
 rw [← hMe] at hX1 hX2
 obtain ⟨⟨k0, k1, k2, k3, k4, k5, k6, k7, k8, k9, k10, k11⟩, kf⟩ := MBox.cells hX1
 obtain ⟨⟨y0, y1, y2, y3, y4, y5, y6, y7, y8, y9, y10, y11⟩, yf⟩ := MBox.cells hX2
 refine bodyPost_ret (v := .tuple #[.agg #[.bool M.S.s, .slice M.S.A M.S.n M.S.c, .int .i64 M.S.e, .bool M.W.s, .slice M.W.A M.W.n M.W.c, .int .i64 M.W.e, .bool M.C.s, .slice M.C.A M.C.n M.C.c, .int .i64 M.C.e, .bool M.A.s, .slice M.A.A M.A.n M.A.c, .int .i64 M.A.e], .agg #[.bool M.S.s, .slice M.S.A M.S.n M.S.c, .int .i64 M.S.e, .bool M.W.s, .slice M.W.A M.W.n M.W.c, .int .i64 M.W.e, .bool M.C.s, .slice M.C.A M.C.n M.C.c, .int .i64 M.C.e, .bool M.A.s, .slice M.A.A M.A.n M.A.c, .int .i64 M.A.e], .int .i64 8]) (by simp [results, Tryd.results36, go_sem, k0, k1, k2, k3, k4, k5, k6, k7, k8, k9, k10, k11, y0, y1, y2, y3, y4, y5, y6, y7, y8, y9, y10, y11]) rfl ⟨M, M, 8, rfl, hY, ?_⟩
 exact ⟨rfl, hMe, hMe⟩
set_option maxHeartbeats 25600000 in
set_option maxRecDepth 100000 in
theorem MSplit_ok (w : World) (m : Mv) (hR : MRows w 0 w.heap.size m) (h : m.may) (hT : Tab w) (r1 r2 : Dn) (q1 q2 : Int) (hq1 : halfX m.S.s m.S.xs m.S.e = (r1, q1)) (hq2 : halfX m.W.s m.W.xs m.W.e = (r2, q2)) :
  Calls Tryd.prog 36 #[.agg #[.bool m.S.s, .slice m.S.A m.S.n m.S.c, .int .i64 m.S.e, .bool m.W.s, .slice m.W.A m.W.n m.W.c, .int .i64 m.W.e, .bool m.C.s, .slice m.C.A m.C.n m.C.c, .int .i64 m.C.e, .bool m.A.s, .slice m.A.A m.A.n m.A.c, .int .i64 m.A.e]] w fun e w' => ∃ (k s : Mv) (code : Int), e = .returned (.tuple #[.agg #[.bool k.S.s, .slice k.S.A k.S.n k.S.c, .int .i64 k.S.e, .bool k.W.s, .slice k.W.A k.W.n k.W.c, .int .i64 k.W.e, .bool k.C.s, .slice k.C.A k.C.n k.C.c, .int .i64 k.C.e, .bool k.A.s, .slice k.A.A k.A.n k.A.c, .int .i64 k.A.e], .agg #[.bool s.S.s, .slice s.S.A s.S.n s.S.c, .int .i64 s.S.e, .bool s.W.s, .slice s.W.A s.W.n s.W.c, .int .i64 s.W.e, .bool s.C.s, .slice s.C.A s.C.n s.C.c, .int .i64 s.C.e, .bool s.A.s, .slice s.A.A s.A.n s.A.c, .int .i64 s.A.e], .int .i64 code]) ∧ Below w.heap.size w w' ∧
   ((code = 0 ∧ q1 = 0 ∧ q2 = 0 ∧ (ResV w' w.heap.size r1 s.S ∧ ResV w' w.heap.size r2 s.W ∧ s.C = ZM.C ∧ s.A = ZM.A) ∧ (ResV w' w.heap.size r1 k.S ∧ ResV w' w.heap.size r2 k.W ∧ TwinV m.C k.C ∧ TwinV m.A k.A) ∧ ∃ B, w.heap.size ≤ B ∧ B ≤ w'.heap.size ∧ MRows w' w.heap.size B s ∧ MRows w' B w'.heap.size k) ∨
    (code = 10 ∧ (q1 ≠ 0 ∨ q2 ≠ 0) ∧ k = ZM ∧ s = ZM)) := by
 generalize hw : ((w.alloc (.cells #[.bool m.S.s, .slice m.S.A m.S.n m.S.c, .int .i64 m.S.e, .bool m.W.s, .slice m.W.A m.W.n m.W.c, .int .i64 m.W.e, .bool m.C.s, .slice m.C.A m.C.n m.C.c, .int .i64 m.C.e, .bool m.A.s, .slice m.A.A m.A.n m.A.c, .int .i64 m.A.e] 26)).alloc (.cells #[.bool false, .slice none 0 0, .int .i64 0, .bool false, .slice none 0 0, .int .i64 0, .bool false, .slice none 0 0, .int .i64 0, .bool false, .slice none 0 0, .int .i64 0] 26)).alloc (.cells #[.bool false, .slice none 0 0, .int .i64 0, .bool false, .slice none 0 0, .int .i64 0, .bool false, .slice none 0 0, .int .i64 0, .bool false, .slice none 0 0, .int .i64 0] 26) = w1
 obtain ⟨hM1, hZ1, hZ2, hb, hlo, hhi⟩ := boxes3 w _ _ _ hw
 replace hM1 : MBox w1 w.heap.size m := hM1
 replace hZ1 : MBox w1 (w.heap.size + 1) ZM := hZ1
 replace hZ2 : MBox w1 (w.heap.size + 1 + 1) ZM := hZ2
 replace hR := hR.below hb (Nat.le_refl _)
 have tT := hT.below hb hT.lt
 have h0w : 0 < w.heap.size := hT.lt
 have hk := Lib.hid (chk_may h)
 have c1 : q1 = 0 ∨ q1 = 10 := half_two (h 0 (by decide)) hq1
 have c2 : q2 = 0 ∨ q2 = 10 := half_two (h 1 (by decide)) hq2
 have nC : m.C.n ≤ 1000000 := by
  have a1 : m.C.xs.length ≤ 40 := (show m.C.may from h 2 (by decide)).1.1
  have a2 := (show Ints _ _ _ _ _ _ _ from hR.C).len
  omega
 have nA : m.A.n ≤ 1000000 := by
  have a1 : m.A.xs.length ≤ 40 := (show m.A.may from h 3 (by decide)).1.1
  have a2 := (show Ints _ _ _ _ _ _ _ from hR.A).len
  omega
 have nr1 : (canon 4294967296 r1.m).length ≤ 40 := by
  have a1 := halfX_may m.S.s m.S.xs m.S.e
  rw [hq1] at a1
  exact (dn_may a1).1.1
 have nr2 : (canon 4294967296 r2.m).length ≤ 40 := by
  have a1 := halfX_may m.W.s m.W.xs m.W.e
  rw [hq2] at a1
  exact (dn_may a1).1.1
 have HQ1 := Lib.hid hq1
 have HQ2 := Lib.hid hq2
 clear h hq1 hq2
 obtain ⟨⟨k0, k1, k2, k3, k4, k5, k6, k7, k8, k9, k10, k11⟩, kf⟩ := MBox.cells (m := m) hM1
 go_enter Tryd.func36, Tryd.ntmps36
 go_wp2_with fail
 try clear hw
 refine (MCheck_any w1 m (hR.more (Nat.le_refl _) (by omega)) 0 hk.out).mono ?_
 rintro e w2 ⟨rfl, hB⟩
 clear k0 k1 k2 k3 k4 k5 k6 k7 k8 k9 k10 k11 kf
 have l2 := hB.size
 replace hM1 : MBox w2 w.heap.size m := box_on hM1 hB (by omega)
 replace hZ1 : MBox w2 (w.heap.size + 1) ZM := box_on hZ1 hB (by omega)
 replace hZ2 : MBox w2 (w.heap.size + 1 + 1) ZM := box_on hZ2 hB (by omega)
 replace hR := hR.below hB (by omega)
 replace tT := tT.below hB tT.lt
 replace hb := hb.trans (hB.mono (by omega))
 clear hB
 obtain ⟨⟨k0, k1, k2, k3, k4, k5, k6, k7, k8, k9, k10, k11⟩, kf⟩ := MBox.cells hM1
 go_wp2_with fail
 refine (Half_all w2 m.S.s m.S.A m.S.n m.S.c m.S.xs m.S.e (Ints.more hR.S (Nat.le_refl _) (by omega)) tT r1 q1 HQ1.out).mono ?_
 rintro e w3 ⟨P1, i1, d1, rfl, lc1, hB, hI⟩
 clear k0 k1 k2 k3 k4 k5 k6 k7 k8 k9 k10 k11 kf
 have l3 := hB.size
 have I1 : Ints w3 w2.heap.size w3.heap.size .u32 P1 i1 (canon 4294967296 r1.m) := hI
 replace hM1 : MBox w3 w.heap.size m := box_on hM1 hB (by omega)
 replace hZ1 : MBox w3 (w.heap.size + 1) ZM := box_on hZ1 hB (by omega)
 replace hZ2 : MBox w3 (w.heap.size + 1 + 1) ZM := box_on hZ2 hB (by omega)
 replace hR := hR.below hB (by omega)
 replace tT := tT.below hB tT.lt
 replace hb := hb.trans (hB.mono (by omega))
 clear hB hI
 have hV2 := MBox.put hZ2 (x := 0) (by decide) ⟨r1.neg, P1, i1, d1, r1.e, canon 4294967296 r1.m⟩
 have hVs : ((((w3.setCell ⟨w.heap.size + 1 + 1, 0, none⟩ (.bool r1.neg)).setCell ⟨w.heap.size + 1 + 1, 1, none⟩ (.slice P1 i1 d1)).setCell ⟨w.heap.size + 1 + 1, 2, none⟩ (.int .i64 r1.e))).heap.size = w3.heap.size := by simp only [size_set]
 have hVf : ∀ k, k ≠ w.heap.size + 1 + 1 → ((((w3.setCell ⟨w.heap.size + 1 + 1, 0, none⟩ (.bool r1.neg)).setCell ⟨w.heap.size + 1 + 1, 1, none⟩ (.slice P1 i1 d1)).setCell ⟨w.heap.size + 1 + 1, 2, none⟩ (.int .i64 r1.e))).heap[k]? = w3.heap[k]? := fun k hk => (Below.heap_setCell _ _ _ _ hk).trans ((Below.heap_setCell _ _ _ _ hk).trans (Below.heap_setCell _ _ _ _ hk))
 have hVb : Below w.heap.size w (((w3.setCell ⟨w.heap.size + 1 + 1, 0, none⟩ (.bool r1.neg)).setCell ⟨w.heap.size + 1 + 1, 1, none⟩ (.slice P1 i1 d1)).setCell ⟨w.heap.size + 1 + 1, 2, none⟩ (.int .i64 r1.e)) := ((hb.setCell (by simp; omega) _).setCell (by simp; omega) _).setCell (by simp; omega) _
 replace hV2 : MBox (((w3.setCell ⟨w.heap.size + 1 + 1, 0, none⟩ (.bool r1.neg)).setCell ⟨w.heap.size + 1 + 1, 1, none⟩ (.slice P1 i1 d1)).setCell ⟨w.heap.size + 1 + 1, 2, none⟩ (.int .i64 r1.e)) (w.heap.size + 1 + 1) ⟨⟨r1.neg, P1, i1, d1, r1.e, canon 4294967296 r1.m⟩, ZM.W, ZM.C, ZM.A⟩ := hV2
 obtain ⟨⟨y0, y1, y2, y3, y4, y5, y6, y7, y8, y9, y10, y11⟩, yf⟩ := MBox.cells hZ2
 rcases c1 with rfl | rfl
 rotate_left
 · obtain ⟨⟨z0, z1, z2, z3, z4, z5, z6, z7, z8, z9, z10, z11⟩, zf⟩ := MBox.cells hZ1
   have hne : w.heap.size + 1 ≠ w.heap.size + 1 + 1 := by omega
   go_wp2
   clear y0 y1 y2 y3 y4 y5 y6 y7 y8 y9 y10 y11 yf z0 z1 z2 z3 z4 z5 z6 z7 z8 z9 z10 z11 zf
   replace hZ1 := (hVf _ hne).trans hZ1
   clear hVf
   generalize (((w3.setCell ⟨w.heap.size + 1 + 1, 0, none⟩ (.bool r1.neg)).setCell ⟨w.heap.size + 1 + 1, 1, none⟩ (.slice P1 i1 d1)).setCell ⟨w.heap.size + 1 + 1, 2, none⟩ (.int .i64 r1.e)) = w4 at *
   have hX1 : MBox ((((((((((((((((((((((((w4.setCell ⟨w.heap.size + 1, 0, none⟩ (.bool false)).setCell ⟨w.heap.size + 1, 1, none⟩ (.slice none 0 0)).setCell ⟨w.heap.size + 1, 2, none⟩ (.int .i64 0)).setCell ⟨w.heap.size + 1, 3, none⟩ (.bool false)).setCell ⟨w.heap.size + 1, 4, none⟩ (.slice none 0 0)).setCell ⟨w.heap.size + 1, 5, none⟩ (.int .i64 0)).setCell ⟨w.heap.size + 1, 6, none⟩ (.bool false)).setCell ⟨w.heap.size + 1, 7, none⟩ (.slice none 0 0)).setCell ⟨w.heap.size + 1, 8, none⟩ (.int .i64 0)).setCell ⟨w.heap.size + 1, 9, none⟩ (.bool false)).setCell ⟨w.heap.size + 1, 10, none⟩ (.slice none 0 0)).setCell ⟨w.heap.size + 1, 11, none⟩ (.int .i64 0)).setCell ⟨w.heap.size + 1 + 1, 0, none⟩ (.bool false)).setCell ⟨w.heap.size + 1 + 1, 1, none⟩ (.slice none 0 0)).setCell ⟨w.heap.size + 1 + 1, 2, none⟩ (.int .i64 0)).setCell ⟨w.heap.size + 1 + 1, 3, none⟩ (.bool false)).setCell ⟨w.heap.size + 1 + 1, 4, none⟩ (.slice none 0 0)).setCell ⟨w.heap.size + 1 + 1, 5, none⟩ (.int .i64 0)).setCell ⟨w.heap.size + 1 + 1, 6, none⟩ (.bool false)).setCell ⟨w.heap.size + 1 + 1, 7, none⟩ (.slice none 0 0)).setCell ⟨w.heap.size + 1 + 1, 8, none⟩ (.int .i64 0)).setCell ⟨w.heap.size + 1 + 1, 9, none⟩ (.bool false)).setCell ⟨w.heap.size + 1 + 1, 10, none⟩ (.slice none 0 0)).setCell ⟨w.heap.size + 1 + 1, 11, none⟩ (.int .i64 0)) (w.heap.size + 1) ZM := (far_all (w := ((((((((((((w4.setCell ⟨w.heap.size + 1, 0, none⟩ (.bool false)).setCell ⟨w.heap.size + 1, 1, none⟩ (.slice none 0 0)).setCell ⟨w.heap.size + 1, 2, none⟩ (.int .i64 0)).setCell ⟨w.heap.size + 1, 3, none⟩ (.bool false)).setCell ⟨w.heap.size + 1, 4, none⟩ (.slice none 0 0)).setCell ⟨w.heap.size + 1, 5, none⟩ (.int .i64 0)).setCell ⟨w.heap.size + 1, 6, none⟩ (.bool false)).setCell ⟨w.heap.size + 1, 7, none⟩ (.slice none 0 0)).setCell ⟨w.heap.size + 1, 8, none⟩ (.int .i64 0)).setCell ⟨w.heap.size + 1, 9, none⟩ (.bool false)).setCell ⟨w.heap.size + 1, 10, none⟩ (.slice none 0 0)).setCell ⟨w.heap.size + 1, 11, none⟩ (.int .i64 0))) (g := w.heap.size + 1 + 1) (by omega) ZM).trans (MBox.all hZ1 ZM)
   have hX2 : MBox ((((((((((((((((((((((((w4.setCell ⟨w.heap.size + 1, 0, none⟩ (.bool false)).setCell ⟨w.heap.size + 1, 1, none⟩ (.slice none 0 0)).setCell ⟨w.heap.size + 1, 2, none⟩ (.int .i64 0)).setCell ⟨w.heap.size + 1, 3, none⟩ (.bool false)).setCell ⟨w.heap.size + 1, 4, none⟩ (.slice none 0 0)).setCell ⟨w.heap.size + 1, 5, none⟩ (.int .i64 0)).setCell ⟨w.heap.size + 1, 6, none⟩ (.bool false)).setCell ⟨w.heap.size + 1, 7, none⟩ (.slice none 0 0)).setCell ⟨w.heap.size + 1, 8, none⟩ (.int .i64 0)).setCell ⟨w.heap.size + 1, 9, none⟩ (.bool false)).setCell ⟨w.heap.size + 1, 10, none⟩ (.slice none 0 0)).setCell ⟨w.heap.size + 1, 11, none⟩ (.int .i64 0)).setCell ⟨w.heap.size + 1 + 1, 0, none⟩ (.bool false)).setCell ⟨w.heap.size + 1 + 1, 1, none⟩ (.slice none 0 0)).setCell ⟨w.heap.size + 1 + 1, 2, none⟩ (.int .i64 0)).setCell ⟨w.heap.size + 1 + 1, 3, none⟩ (.bool false)).setCell ⟨w.heap.size + 1 + 1, 4, none⟩ (.slice none 0 0)).setCell ⟨w.heap.size + 1 + 1, 5, none⟩ (.int .i64 0)).setCell ⟨w.heap.size + 1 + 1, 6, none⟩ (.bool false)).setCell ⟨w.heap.size + 1 + 1, 7, none⟩ (.slice none 0 0)).setCell ⟨w.heap.size + 1 + 1, 8, none⟩ (.int .i64 0)).setCell ⟨w.heap.size + 1 + 1, 9, none⟩ (.bool false)).setCell ⟨w.heap.size + 1 + 1, 10, none⟩ (.slice none 0 0)).setCell ⟨w.heap.size + 1 + 1, 11, none⟩ (.int .i64 0)) (w.heap.size + 1 + 1) ZM := MBox.all (w := ((((((((((((w4.setCell ⟨w.heap.size + 1, 0, none⟩ (.bool false)).setCell ⟨w.heap.size + 1, 1, none⟩ (.slice none 0 0)).setCell ⟨w.heap.size + 1, 2, none⟩ (.int .i64 0)).setCell ⟨w.heap.size + 1, 3, none⟩ (.bool false)).setCell ⟨w.heap.size + 1, 4, none⟩ (.slice none 0 0)).setCell ⟨w.heap.size + 1, 5, none⟩ (.int .i64 0)).setCell ⟨w.heap.size + 1, 6, none⟩ (.bool false)).setCell ⟨w.heap.size + 1, 7, none⟩ (.slice none 0 0)).setCell ⟨w.heap.size + 1, 8, none⟩ (.int .i64 0)).setCell ⟨w.heap.size + 1, 9, none⟩ (.bool false)).setCell ⟨w.heap.size + 1, 10, none⟩ (.slice none 0 0)).setCell ⟨w.heap.size + 1, 11, none⟩ (.int .i64 0))) ((far_all (w := w4) (g := w.heap.size + 1) (by omega) ZM).trans hV2) ZM
   have hY : Below w.heap.size w ((((((((((((((((((((((((w4.setCell ⟨w.heap.size + 1, 0, none⟩ (.bool false)).setCell ⟨w.heap.size + 1, 1, none⟩ (.slice none 0 0)).setCell ⟨w.heap.size + 1, 2, none⟩ (.int .i64 0)).setCell ⟨w.heap.size + 1, 3, none⟩ (.bool false)).setCell ⟨w.heap.size + 1, 4, none⟩ (.slice none 0 0)).setCell ⟨w.heap.size + 1, 5, none⟩ (.int .i64 0)).setCell ⟨w.heap.size + 1, 6, none⟩ (.bool false)).setCell ⟨w.heap.size + 1, 7, none⟩ (.slice none 0 0)).setCell ⟨w.heap.size + 1, 8, none⟩ (.int .i64 0)).setCell ⟨w.heap.size + 1, 9, none⟩ (.bool false)).setCell ⟨w.heap.size + 1, 10, none⟩ (.slice none 0 0)).setCell ⟨w.heap.size + 1, 11, none⟩ (.int .i64 0)).setCell ⟨w.heap.size + 1 + 1, 0, none⟩ (.bool false)).setCell ⟨w.heap.size + 1 + 1, 1, none⟩ (.slice none 0 0)).setCell ⟨w.heap.size + 1 + 1, 2, none⟩ (.int .i64 0)).setCell ⟨w.heap.size + 1 + 1, 3, none⟩ (.bool false)).setCell ⟨w.heap.size + 1 + 1, 4, none⟩ (.slice none 0 0)).setCell ⟨w.heap.size + 1 + 1, 5, none⟩ (.int .i64 0)).setCell ⟨w.heap.size + 1 + 1, 6, none⟩ (.bool false)).setCell ⟨w.heap.size + 1 + 1, 7, none⟩ (.slice none 0 0)).setCell ⟨w.heap.size + 1 + 1, 8, none⟩ (.int .i64 0)).setCell ⟨w.heap.size + 1 + 1, 9, none⟩ (.bool false)).setCell ⟨w.heap.size + 1 + 1, 10, none⟩ (.slice none 0 0)).setCell ⟨w.heap.size + 1 + 1, 11, none⟩ (.int .i64 0)) := below_all (w := ((((((((((((w4.setCell ⟨w.heap.size + 1, 0, none⟩ (.bool false)).setCell ⟨w.heap.size + 1, 1, none⟩ (.slice none 0 0)).setCell ⟨w.heap.size + 1, 2, none⟩ (.int .i64 0)).setCell ⟨w.heap.size + 1, 3, none⟩ (.bool false)).setCell ⟨w.heap.size + 1, 4, none⟩ (.slice none 0 0)).setCell ⟨w.heap.size + 1, 5, none⟩ (.int .i64 0)).setCell ⟨w.heap.size + 1, 6, none⟩ (.bool false)).setCell ⟨w.heap.size + 1, 7, none⟩ (.slice none 0 0)).setCell ⟨w.heap.size + 1, 8, none⟩ (.int .i64 0)).setCell ⟨w.heap.size + 1, 9, none⟩ (.bool false)).setCell ⟨w.heap.size + 1, 10, none⟩ (.slice none 0 0)).setCell ⟨w.heap.size + 1, 11, none⟩ (.int .i64 0))) (below_all hVb (show w.heap.size ≤ w.heap.size + 1 by omega) ZM) (show w.heap.size ≤ w.heap.size + 1 + 1 by omega) ZM
   generalize ((((((((((((((((((((((((w4.setCell ⟨w.heap.size + 1, 0, none⟩ (.bool false)).setCell ⟨w.heap.size + 1, 1, none⟩ (.slice none 0 0)).setCell ⟨w.heap.size + 1, 2, none⟩ (.int .i64 0)).setCell ⟨w.heap.size + 1, 3, none⟩ (.bool false)).setCell ⟨w.heap.size + 1, 4, none⟩ (.slice none 0 0)).setCell ⟨w.heap.size + 1, 5, none⟩ (.int .i64 0)).setCell ⟨w.heap.size + 1, 6, none⟩ (.bool false)).setCell ⟨w.heap.size + 1, 7, none⟩ (.slice none 0 0)).setCell ⟨w.heap.size + 1, 8, none⟩ (.int .i64 0)).setCell ⟨w.heap.size + 1, 9, none⟩ (.bool false)).setCell ⟨w.heap.size + 1, 10, none⟩ (.slice none 0 0)).setCell ⟨w.heap.size + 1, 11, none⟩ (.int .i64 0)).setCell ⟨w.heap.size + 1 + 1, 0, none⟩ (.bool false)).setCell ⟨w.heap.size + 1 + 1, 1, none⟩ (.slice none 0 0)).setCell ⟨w.heap.size + 1 + 1, 2, none⟩ (.int .i64 0)).setCell ⟨w.heap.size + 1 + 1, 3, none⟩ (.bool false)).setCell ⟨w.heap.size + 1 + 1, 4, none⟩ (.slice none 0 0)).setCell ⟨w.heap.size + 1 + 1, 5, none⟩ (.int .i64 0)).setCell ⟨w.heap.size + 1 + 1, 6, none⟩ (.bool false)).setCell ⟨w.heap.size + 1 + 1, 7, none⟩ (.slice none 0 0)).setCell ⟨w.heap.size + 1 + 1, 8, none⟩ (.int .i64 0)).setCell ⟨w.heap.size + 1 + 1, 9, none⟩ (.bool false)).setCell ⟨w.heap.size + 1 + 1, 10, none⟩ (.slice none 0 0)).setCell ⟨w.heap.size + 1 + 1, 11, none⟩ (.int .i64 0)) = U at *
   obtain ⟨M, hMe⟩ : ∃ M : Mv, M = ZM := ⟨_, rfl⟩
   rw [← hMe] at hX1 hX2
   obtain ⟨⟨k0, k1, k2, k3, k4, k5, k6, k7, k8, k9, k10, k11⟩, kf⟩ := MBox.cells hX1
   obtain ⟨⟨y0, y1, y2, y3, y4, y5, y6, y7, y8, y9, y10, y11⟩, yf⟩ := MBox.cells hX2
   refine bodyPost_ret (v := .tuple #[.agg #[.bool M.S.s, .slice M.S.A M.S.n M.S.c, .int .i64 M.S.e, .bool M.W.s, .slice M.W.A M.W.n M.W.c, .int .i64 M.W.e, .bool M.C.s, .slice M.C.A M.C.n M.C.c, .int .i64 M.C.e, .bool M.A.s, .slice M.A.A M.A.n M.A.c, .int .i64 M.A.e], .agg #[.bool M.S.s, .slice M.S.A M.S.n M.S.c, .int .i64 M.S.e, .bool M.W.s, .slice M.W.A M.W.n M.W.c, .int .i64 M.W.e, .bool M.C.s, .slice M.C.A M.C.n M.C.c, .int .i64 M.C.e, .bool M.A.s, .slice M.A.A M.A.n M.A.c, .int .i64 M.A.e], .int .i64 10]) (by simp [results, Tryd.results36, go_sem, k0, k1, k2, k3, k4, k5, k6, k7, k8, k9, k10, k11, y0, y1, y2, y3, y4, y5, y6, y7, y8, y9, y10, y11]) rfl ⟨M, M, 10, rfl, hY, ?_⟩
   exact .inr ⟨rfl, .inl (by decide), hMe, hMe⟩
 · obtain ⟨⟨k0, k1, k2, k3, k4, k5, k6, k7, k8, k9, k10, k11⟩, kf⟩ := MBox.cells hM1
   have hne : w.heap.size ≠ w.heap.size + 1 + 1 := by omega
   go_wp2_with fail
   clear y0 y1 y2 y3 y4 y5 y6 y7 y8 y9 y10 y11 yf k0 k1 k2 k3 k4 k5 k6 k7 k8 k9 k10 k11 kf
   replace hM1 : MBox (((w3.setCell ⟨w.heap.size + 1 + 1, 0, none⟩ (.bool r1.neg)).setCell ⟨w.heap.size + 1 + 1, 1, none⟩ (.slice P1 i1 d1)).setCell ⟨w.heap.size + 1 + 1, 2, none⟩ (.int .i64 r1.e)) w.heap.size m := (hVf _ hne).trans hM1
   replace hZ1 : MBox (((w3.setCell ⟨w.heap.size + 1 + 1, 0, none⟩ (.bool r1.neg)).setCell ⟨w.heap.size + 1 + 1, 1, none⟩ (.slice P1 i1 d1)).setCell ⟨w.heap.size + 1 + 1, 2, none⟩ (.int .i64 r1.e)) (w.heap.size + 1) ZM := (hVf _ (by omega)).trans hZ1
   replace hR := rows_rng hR (w' := (((w3.setCell ⟨w.heap.size + 1 + 1, 0, none⟩ (.bool r1.neg)).setCell ⟨w.heap.size + 1 + 1, 1, none⟩ (.slice P1 i1 d1)).setCell ⟨w.heap.size + 1 + 1, 2, none⟩ (.int .i64 r1.e))) (fun b _ h2 => hVf b (by omega))
   replace I1 := ints_rng I1 (w' := (((w3.setCell ⟨w.heap.size + 1 + 1, 0, none⟩ (.bool r1.neg)).setCell ⟨w.heap.size + 1 + 1, 1, none⟩ (.slice P1 i1 d1)).setCell ⟨w.heap.size + 1 + 1, 2, none⟩ (.int .i64 r1.e))) (fun b h1 _ => hVf b (by omega))
   replace tT := tT.keep (hVf 0 (by omega))
   clear hVf hZ2 hb
   generalize (((w3.setCell ⟨w.heap.size + 1 + 1, 0, none⟩ (.bool r1.neg)).setCell ⟨w.heap.size + 1 + 1, 1, none⟩ (.slice P1 i1 d1)).setCell ⟨w.heap.size + 1 + 1, 2, none⟩ (.int .i64 r1.e)) = w4 at *
   have l4 : w3.heap.size ≤ w4.heap.size := by omega
   refine (Half_all w4 m.W.s m.W.A m.W.n m.W.c m.W.xs m.W.e (Ints.more hR.W (Nat.le_refl _) (by omega)) tT r2 q2 HQ2.out).mono ?_
   rintro e w5 ⟨P2, i2, d2, rfl, lc2, hB, hI⟩
   have l5 := hB.size
   have I2 : Ints w5 w4.heap.size w5.heap.size .u32 P2 i2 (canon 4294967296 r2.m) := hI
   replace hM1 : MBox w5 w.heap.size m := box_on hM1 hB (by omega)
   replace hZ1 : MBox w5 (w.heap.size + 1) ZM := box_on hZ1 hB (by omega)
   replace hV2 : MBox w5 (w.heap.size + 1 + 1) ⟨⟨r1.neg, P1, i1, d1, r1.e, canon 4294967296 r1.m⟩, ZM.W, ZM.C, ZM.A⟩ := box_on hV2 hB (by omega)
   replace hR := hR.below hB (by omega)
   replace I1 := I1.below hB (by omega)
   replace hVb := hVb.trans (hB.mono (by omega))
   clear hB hI tT
   have hW2 := MBox.put hV2 (x := 1) (by decide) ⟨r2.neg, P2, i2, d2, r2.e, canon 4294967296 r2.m⟩
   have hWs : ((((w5.setCell ⟨w.heap.size + 1 + 1, 3, none⟩ (.bool r2.neg)).setCell ⟨w.heap.size + 1 + 1, 4, none⟩ (.slice P2 i2 d2)).setCell ⟨w.heap.size + 1 + 1, 5, none⟩ (.int .i64 r2.e))).heap.size = w5.heap.size := by simp only [size_set]
   have hWf : ∀ k, k ≠ w.heap.size + 1 + 1 → ((((w5.setCell ⟨w.heap.size + 1 + 1, 3, none⟩ (.bool r2.neg)).setCell ⟨w.heap.size + 1 + 1, 4, none⟩ (.slice P2 i2 d2)).setCell ⟨w.heap.size + 1 + 1, 5, none⟩ (.int .i64 r2.e))).heap[k]? = w5.heap[k]? := fun k hk => (Below.heap_setCell _ _ _ _ hk).trans ((Below.heap_setCell _ _ _ _ hk).trans (Below.heap_setCell _ _ _ _ hk))
   have hWb : Below w.heap.size w (((w5.setCell ⟨w.heap.size + 1 + 1, 3, none⟩ (.bool r2.neg)).setCell ⟨w.heap.size + 1 + 1, 4, none⟩ (.slice P2 i2 d2)).setCell ⟨w.heap.size + 1 + 1, 5, none⟩ (.int .i64 r2.e)) := ((hVb.setCell (by simp; omega) _).setCell (by simp; omega) _).setCell (by simp; omega) _
   obtain ⟨M2, hM2e⟩ : ∃ M : Mv, M = ⟨⟨r1.neg, P1, i1, d1, r1.e, canon 4294967296 r1.m⟩, ⟨r2.neg, P2, i2, d2, r2.e, canon 4294967296 r2.m⟩, ZM.C, ZM.A⟩ := ⟨_, rfl⟩
   replace hW2 : MBox (((w5.setCell ⟨w.heap.size + 1 + 1, 3, none⟩ (.bool r2.neg)).setCell ⟨w.heap.size + 1 + 1, 4, none⟩ (.slice P2 i2 d2)).setCell ⟨w.heap.size + 1 + 1, 5, none⟩ (.int .i64 r2.e)) (w.heap.size + 1 + 1) M2 := by rw [hM2e]; exact hW2
   have HM2 := Lib.hid hM2e
   clear hM2e
   obtain ⟨⟨y0, y1, y2, y3, y4, y5, y6, y7, y8, y9, y10, y11⟩, yf⟩ := MBox.cells hV2
   rcases c2 with rfl | rfl
   rotate_left
   · obtain ⟨⟨z0, z1, z2, z3, z4, z5, z6, z7, z8, z9, z10, z11⟩, zf⟩ := MBox.cells hZ1
     have hne3 : w.heap.size + 1 ≠ w.heap.size + 1 + 1 := by omega
     go_wp2
     clear y0 y1 y2 y3 y4 y5 y6 y7 y8 y9 y10 y11 yf z0 z1 z2 z3 z4 z5 z6 z7 z8 z9 z10 z11 zf
     replace hZ1 := (hWf _ hne3).trans hZ1
     clear hWf
     generalize (((w5.setCell ⟨w.heap.size + 1 + 1, 3, none⟩ (.bool r2.neg)).setCell ⟨w.heap.size + 1 + 1, 4, none⟩ (.slice P2 i2 d2)).setCell ⟨w.heap.size + 1 + 1, 5, none⟩ (.int .i64 r2.e)) = w6 at *
     have hX1 : MBox ((((((((((((((((((((((((w6.setCell ⟨w.heap.size + 1, 0, none⟩ (.bool false)).setCell ⟨w.heap.size + 1, 1, none⟩ (.slice none 0 0)).setCell ⟨w.heap.size + 1, 2, none⟩ (.int .i64 0)).setCell ⟨w.heap.size + 1, 3, none⟩ (.bool false)).setCell ⟨w.heap.size + 1, 4, none⟩ (.slice none 0 0)).setCell ⟨w.heap.size + 1, 5, none⟩ (.int .i64 0)).setCell ⟨w.heap.size + 1, 6, none⟩ (.bool false)).setCell ⟨w.heap.size + 1, 7, none⟩ (.slice none 0 0)).setCell ⟨w.heap.size + 1, 8, none⟩ (.int .i64 0)).setCell ⟨w.heap.size + 1, 9, none⟩ (.bool false)).setCell ⟨w.heap.size + 1, 10, none⟩ (.slice none 0 0)).setCell ⟨w.heap.size + 1, 11, none⟩ (.int .i64 0)).setCell ⟨w.heap.size + 1 + 1, 0, none⟩ (.bool false)).setCell ⟨w.heap.size + 1 + 1, 1, none⟩ (.slice none 0 0)).setCell ⟨w.heap.size + 1 + 1, 2, none⟩ (.int .i64 0)).setCell ⟨w.heap.size + 1 + 1, 3, none⟩ (.bool false)).setCell ⟨w.heap.size + 1 + 1, 4, none⟩ (.slice none 0 0)).setCell ⟨w.heap.size + 1 + 1, 5, none⟩ (.int .i64 0)).setCell ⟨w.heap.size + 1 + 1, 6, none⟩ (.bool false)).setCell ⟨w.heap.size + 1 + 1, 7, none⟩ (.slice none 0 0)).setCell ⟨w.heap.size + 1 + 1, 8, none⟩ (.int .i64 0)).setCell ⟨w.heap.size + 1 + 1, 9, none⟩ (.bool false)).setCell ⟨w.heap.size + 1 + 1, 10, none⟩ (.slice none 0 0)).setCell ⟨w.heap.size + 1 + 1, 11, none⟩ (.int .i64 0)) (w.heap.size + 1) ZM := (far_all (w := ((((((((((((w6.setCell ⟨w.heap.size + 1, 0, none⟩ (.bool false)).setCell ⟨w.heap.size + 1, 1, none⟩ (.slice none 0 0)).setCell ⟨w.heap.size + 1, 2, none⟩ (.int .i64 0)).setCell ⟨w.heap.size + 1, 3, none⟩ (.bool false)).setCell ⟨w.heap.size + 1, 4, none⟩ (.slice none 0 0)).setCell ⟨w.heap.size + 1, 5, none⟩ (.int .i64 0)).setCell ⟨w.heap.size + 1, 6, none⟩ (.bool false)).setCell ⟨w.heap.size + 1, 7, none⟩ (.slice none 0 0)).setCell ⟨w.heap.size + 1, 8, none⟩ (.int .i64 0)).setCell ⟨w.heap.size + 1, 9, none⟩ (.bool false)).setCell ⟨w.heap.size + 1, 10, none⟩ (.slice none 0 0)).setCell ⟨w.heap.size + 1, 11, none⟩ (.int .i64 0))) (g := w.heap.size + 1 + 1) (by omega) ZM).trans (MBox.all hZ1 ZM)
     have hX2 : MBox ((((((((((((((((((((((((w6.setCell ⟨w.heap.size + 1, 0, none⟩ (.bool false)).setCell ⟨w.heap.size + 1, 1, none⟩ (.slice none 0 0)).setCell ⟨w.heap.size + 1, 2, none⟩ (.int .i64 0)).setCell ⟨w.heap.size + 1, 3, none⟩ (.bool false)).setCell ⟨w.heap.size + 1, 4, none⟩ (.slice none 0 0)).setCell ⟨w.heap.size + 1, 5, none⟩ (.int .i64 0)).setCell ⟨w.heap.size + 1, 6, none⟩ (.bool false)).setCell ⟨w.heap.size + 1, 7, none⟩ (.slice none 0 0)).setCell ⟨w.heap.size + 1, 8, none⟩ (.int .i64 0)).setCell ⟨w.heap.size + 1, 9, none⟩ (.bool false)).setCell ⟨w.heap.size + 1, 10, none⟩ (.slice none 0 0)).setCell ⟨w.heap.size + 1, 11, none⟩ (.int .i64 0)).setCell ⟨w.heap.size + 1 + 1, 0, none⟩ (.bool false)).setCell ⟨w.heap.size + 1 + 1, 1, none⟩ (.slice none 0 0)).setCell ⟨w.heap.size + 1 + 1, 2, none⟩ (.int .i64 0)).setCell ⟨w.heap.size + 1 + 1, 3, none⟩ (.bool false)).setCell ⟨w.heap.size + 1 + 1, 4, none⟩ (.slice none 0 0)).setCell ⟨w.heap.size + 1 + 1, 5, none⟩ (.int .i64 0)).setCell ⟨w.heap.size + 1 + 1, 6, none⟩ (.bool false)).setCell ⟨w.heap.size + 1 + 1, 7, none⟩ (.slice none 0 0)).setCell ⟨w.heap.size + 1 + 1, 8, none⟩ (.int .i64 0)).setCell ⟨w.heap.size + 1 + 1, 9, none⟩ (.bool false)).setCell ⟨w.heap.size + 1 + 1, 10, none⟩ (.slice none 0 0)).setCell ⟨w.heap.size + 1 + 1, 11, none⟩ (.int .i64 0)) (w.heap.size + 1 + 1) ZM := MBox.all (w := ((((((((((((w6.setCell ⟨w.heap.size + 1, 0, none⟩ (.bool false)).setCell ⟨w.heap.size + 1, 1, none⟩ (.slice none 0 0)).setCell ⟨w.heap.size + 1, 2, none⟩ (.int .i64 0)).setCell ⟨w.heap.size + 1, 3, none⟩ (.bool false)).setCell ⟨w.heap.size + 1, 4, none⟩ (.slice none 0 0)).setCell ⟨w.heap.size + 1, 5, none⟩ (.int .i64 0)).setCell ⟨w.heap.size + 1, 6, none⟩ (.bool false)).setCell ⟨w.heap.size + 1, 7, none⟩ (.slice none 0 0)).setCell ⟨w.heap.size + 1, 8, none⟩ (.int .i64 0)).setCell ⟨w.heap.size + 1, 9, none⟩ (.bool false)).setCell ⟨w.heap.size + 1, 10, none⟩ (.slice none 0 0)).setCell ⟨w.heap.size + 1, 11, none⟩ (.int .i64 0))) ((far_all (w := w6) (g := w.heap.size + 1) (by omega) ZM).trans hW2) ZM
     have hY : Below w.heap.size w ((((((((((((((((((((((((w6.setCell ⟨w.heap.size + 1, 0, none⟩ (.bool false)).setCell ⟨w.heap.size + 1, 1, none⟩ (.slice none 0 0)).setCell ⟨w.heap.size + 1, 2, none⟩ (.int .i64 0)).setCell ⟨w.heap.size + 1, 3, none⟩ (.bool false)).setCell ⟨w.heap.size + 1, 4, none⟩ (.slice none 0 0)).setCell ⟨w.heap.size + 1, 5, none⟩ (.int .i64 0)).setCell ⟨w.heap.size + 1, 6, none⟩ (.bool false)).setCell ⟨w.heap.size + 1, 7, none⟩ (.slice none 0 0)).setCell ⟨w.heap.size + 1, 8, none⟩ (.int .i64 0)).setCell ⟨w.heap.size + 1, 9, none⟩ (.bool false)).setCell ⟨w.heap.size + 1, 10, none⟩ (.slice none 0 0)).setCell ⟨w.heap.size + 1, 11, none⟩ (.int .i64 0)).setCell ⟨w.heap.size + 1 + 1, 0, none⟩ (.bool false)).setCell ⟨w.heap.size + 1 + 1, 1, none⟩ (.slice none 0 0)).setCell ⟨w.heap.size + 1 + 1, 2, none⟩ (.int .i64 0)).setCell ⟨w.heap.size + 1 + 1, 3, none⟩ (.bool false)).setCell ⟨w.heap.size + 1 + 1, 4, none⟩ (.slice none 0 0)).setCell ⟨w.heap.size + 1 + 1, 5, none⟩ (.int .i64 0)).setCell ⟨w.heap.size + 1 + 1, 6, none⟩ (.bool false)).setCell ⟨w.heap.size + 1 + 1, 7, none⟩ (.slice none 0 0)).setCell ⟨w.heap.size + 1 + 1, 8, none⟩ (.int .i64 0)).setCell ⟨w.heap.size + 1 + 1, 9, none⟩ (.bool false)).setCell ⟨w.heap.size + 1 + 1, 10, none⟩ (.slice none 0 0)).setCell ⟨w.heap.size + 1 + 1, 11, none⟩ (.int .i64 0)) := below_all (w := ((((((((((((w6.setCell ⟨w.heap.size + 1, 0, none⟩ (.bool false)).setCell ⟨w.heap.size + 1, 1, none⟩ (.slice none 0 0)).setCell ⟨w.heap.size + 1, 2, none⟩ (.int .i64 0)).setCell ⟨w.heap.size + 1, 3, none⟩ (.bool false)).setCell ⟨w.heap.size + 1, 4, none⟩ (.slice none 0 0)).setCell ⟨w.heap.size + 1, 5, none⟩ (.int .i64 0)).setCell ⟨w.heap.size + 1, 6, none⟩ (.bool false)).setCell ⟨w.heap.size + 1, 7, none⟩ (.slice none 0 0)).setCell ⟨w.heap.size + 1, 8, none⟩ (.int .i64 0)).setCell ⟨w.heap.size + 1, 9, none⟩ (.bool false)).setCell ⟨w.heap.size + 1, 10, none⟩ (.slice none 0 0)).setCell ⟨w.heap.size + 1, 11, none⟩ (.int .i64 0))) (below_all hWb (show w.heap.size ≤ w.heap.size + 1 by omega) ZM) (show w.heap.size ≤ w.heap.size + 1 + 1 by omega) ZM
     generalize ((((((((((((((((((((((((w6.setCell ⟨w.heap.size + 1, 0, none⟩ (.bool false)).setCell ⟨w.heap.size + 1, 1, none⟩ (.slice none 0 0)).setCell ⟨w.heap.size + 1, 2, none⟩ (.int .i64 0)).setCell ⟨w.heap.size + 1, 3, none⟩ (.bool false)).setCell ⟨w.heap.size + 1, 4, none⟩ (.slice none 0 0)).setCell ⟨w.heap.size + 1, 5, none⟩ (.int .i64 0)).setCell ⟨w.heap.size + 1, 6, none⟩ (.bool false)).setCell ⟨w.heap.size + 1, 7, none⟩ (.slice none 0 0)).setCell ⟨w.heap.size + 1, 8, none⟩ (.int .i64 0)).setCell ⟨w.heap.size + 1, 9, none⟩ (.bool false)).setCell ⟨w.heap.size + 1, 10, none⟩ (.slice none 0 0)).setCell ⟨w.heap.size + 1, 11, none⟩ (.int .i64 0)).setCell ⟨w.heap.size + 1 + 1, 0, none⟩ (.bool false)).setCell ⟨w.heap.size + 1 + 1, 1, none⟩ (.slice none 0 0)).setCell ⟨w.heap.size + 1 + 1, 2, none⟩ (.int .i64 0)).setCell ⟨w.heap.size + 1 + 1, 3, none⟩ (.bool false)).setCell ⟨w.heap.size + 1 + 1, 4, none⟩ (.slice none 0 0)).setCell ⟨w.heap.size + 1 + 1, 5, none⟩ (.int .i64 0)).setCell ⟨w.heap.size + 1 + 1, 6, none⟩ (.bool false)).setCell ⟨w.heap.size + 1 + 1, 7, none⟩ (.slice none 0 0)).setCell ⟨w.heap.size + 1 + 1, 8, none⟩ (.int .i64 0)).setCell ⟨w.heap.size + 1 + 1, 9, none⟩ (.bool false)).setCell ⟨w.heap.size + 1 + 1, 10, none⟩ (.slice none 0 0)).setCell ⟨w.heap.size + 1 + 1, 11, none⟩ (.int .i64 0)) = U at *
     obtain ⟨M, hMe⟩ : ∃ M : Mv, M = ZM := ⟨_, rfl⟩
     rw [← hMe] at hX1 hX2
     obtain ⟨⟨k0, k1, k2, k3, k4, k5, k6, k7, k8, k9, k10, k11⟩, kf⟩ := MBox.cells hX1
     obtain ⟨⟨y0, y1, y2, y3, y4, y5, y6, y7, y8, y9, y10, y11⟩, yf⟩ := MBox.cells hX2
     refine bodyPost_ret (v := .tuple #[.agg #[.bool M.S.s, .slice M.S.A M.S.n M.S.c, .int .i64 M.S.e, .bool M.W.s, .slice M.W.A M.W.n M.W.c, .int .i64 M.W.e, .bool M.C.s, .slice M.C.A M.C.n M.C.c, .int .i64 M.C.e, .bool M.A.s, .slice M.A.A M.A.n M.A.c, .int .i64 M.A.e], .agg #[.bool M.S.s, .slice M.S.A M.S.n M.S.c, .int .i64 M.S.e, .bool M.W.s, .slice M.W.A M.W.n M.W.c, .int .i64 M.W.e, .bool M.C.s, .slice M.C.A M.C.n M.C.c, .int .i64 M.C.e, .bool M.A.s, .slice M.A.A M.A.n M.A.c, .int .i64 M.A.e], .int .i64 10]) (by simp [results, Tryd.results36, go_sem, k0, k1, k2, k3, k4, k5, k6, k7, k8, k9, k10, k11, y0, y1, y2, y3, y4, y5, y6, y7, y8, y9, y10, y11]) rfl ⟨M, M, 10, rfl, hY, ?_⟩
     first | exact .inr ⟨rfl, .inr (by decide), hMe, hMe⟩ | exact .inr ⟨rfl, hMe, hMe⟩ | exact ⟨rfl, hMe, hMe⟩
   · go_wp2_with fail
     clear y0 y1 y2 y3 y4 y5 y6 y7 y8 y9 y10 y11 yf
     replace hM1 : MBox (((w5.setCell ⟨w.heap.size + 1 + 1, 3, none⟩ (.bool r2.neg)).setCell ⟨w.heap.size + 1 + 1, 4, none⟩ (.slice P2 i2 d2)).setCell ⟨w.heap.size + 1 + 1, 5, none⟩ (.int .i64 r2.e)) w.heap.size m := (hWf _ (by omega)).trans hM1
     replace hZ1 : MBox (((w5.setCell ⟨w.heap.size + 1 + 1, 3, none⟩ (.bool r2.neg)).setCell ⟨w.heap.size + 1 + 1, 4, none⟩ (.slice P2 i2 d2)).setCell ⟨w.heap.size + 1 + 1, 5, none⟩ (.int .i64 r2.e)) (w.heap.size + 1) ZM := (hWf _ (by omega)).trans hZ1
     replace hR := rows_rng hR (w' := (((w5.setCell ⟨w.heap.size + 1 + 1, 3, none⟩ (.bool r2.neg)).setCell ⟨w.heap.size + 1 + 1, 4, none⟩ (.slice P2 i2 d2)).setCell ⟨w.heap.size + 1 + 1, 5, none⟩ (.int .i64 r2.e))) (fun b _ h2 => hWf b (by omega))
     replace I1 := ints_rng I1 (w' := (((w5.setCell ⟨w.heap.size + 1 + 1, 3, none⟩ (.bool r2.neg)).setCell ⟨w.heap.size + 1 + 1, 4, none⟩ (.slice P2 i2 d2)).setCell ⟨w.heap.size + 1 + 1, 5, none⟩ (.int .i64 r2.e))) (fun b h1 _ => hWf b (by omega))
     replace I2 := ints_rng I2 (w' := (((w5.setCell ⟨w.heap.size + 1 + 1, 3, none⟩ (.bool r2.neg)).setCell ⟨w.heap.size + 1 + 1, 4, none⟩ (.slice P2 i2 d2)).setCell ⟨w.heap.size + 1 + 1, 5, none⟩ (.int .i64 r2.e))) (fun b h1 _ => hWf b (by omega))
     clear hWf hV2 hVb
     generalize (((w5.setCell ⟨w.heap.size + 1 + 1, 3, none⟩ (.bool r2.neg)).setCell ⟨w.heap.size + 1 + 1, 4, none⟩ (.slice P2 i2 d2)).setCell ⟨w.heap.size + 1 + 1, 5, none⟩ (.int .i64 r2.e)) = w6 at *
     have l6 : w5.heap.size ≤ w6.heap.size := by omega
     refine region_E (fun W' => MBox W' (w.heap.size + 1 + 1) M2) [] (m := 8) (L := #[zF,zF,zF,zF,zF,zF,zF,zF]) (by kernel_rfl) (by rfl) (by rfl) ?_
     have hS0 : MBox w6.drew (w.heap.size + 1 + 1) M2 := hW2
     refine zE 0 #[zT,zF,zF,zF,zF,zF,zF,zF] ?_ rfl ?hy1 ?rest1
     case hy1 => intro w; go_simp; (try with_reducible rfl)
     try simp only [Act.put, zp]
     refine readE (i := 1) (L := #[zT,zT,zF,zF,zF,zF,zF,zF]) (v := .agg #[.bool M2.S.s, .slice M2.S.A M2.S.n M2.S.c, .int .i64 M2.S.e]) rfl (by rfl) (by kernel_rfl) (by kernel_rfl) (by kernel_rfl) (fun _ _ _ h => h) (by assumption) (by rfl) ?ryA ?rrA
     case ryA =>
      intro w' h1
      obtain ⟨⟨k0, k1, k2, k3, k4, k5, k6, k7, k8, k9, k10, k11⟩, kf⟩ := MBox.cells h1
      go_simp
     try simp only [Act.put, zp]
     refine zE 2 #[zT,zT,zT,zF,zF,zF,zF,zF] ?_ rfl ?hy3 ?rest3
     case hy3 => intro w; go_simp; (try with_reducible rfl)
     try simp only [Act.put, zp]
     refine readE (i := 3) (L := #[zT,zT,zT,zT,zF,zF,zF,zF]) (v := .agg #[.bool M2.W.s, .slice M2.W.A M2.W.n M2.W.c, .int .i64 M2.W.e]) rfl (by rfl) (by kernel_rfl) (by kernel_rfl) (by kernel_rfl) (fun _ _ _ h => h) (by assumption) (by rfl) ?ryB ?rrB
     case ryB =>
      intro w' h1
      obtain ⟨⟨k0, k1, k2, k3, k4, k5, k6, k7, k8, k9, k10, k11⟩, kf⟩ := MBox.cells h1
      go_simp
     try simp only [Act.put, zp]
     refine zE 4 #[zT,zT,zT,zT,zT,zF,zF,zF] ?_ rfl ?hy5 ?rest5
     case hy5 => intro w; go_simp; (try with_reducible rfl)
     try simp only [Act.put, zp]
     have hM6 : MBox w6.drew w.heap.size m := hM1
     have hZ6 : MBox w6.drew (w.heap.size + 1) ZM := hZ1
     have hb6 : Below w.heap.size w w6.drew := hWb.drew
     have lz6 : w6.heap.size ≤ w6.drew.heap.size := Nat.le_refl _
     have lz7 : w6.drew.heap.size ≤ w6.heap.size := Nat.le_refl _
     replace hR : MRows w6.drew 0 w.heap.size m := ⟨Ints.drewN hR.S 1, Ints.drewN hR.W 1, Ints.drewN hR.C 1, Ints.drewN hR.A 1⟩
     replace I1 := Ints.drewN I1 1
     replace I2 := Ints.drewN I2 1
     clear hM1 hZ1 hWb hW2 hWs
     replace I1 : Ints w6.drew w2.heap.size w3.heap.size .u32 P1 i1 (canon 4294967296 r1.m) := I1
     replace I2 : Ints w6.drew w4.heap.size w5.heap.size .u32 P2 i2 (canon 4294967296 r2.m) := I2
     generalize w6.drew = w7 at *
     have hfar : ∀ (V : World) (g a : Nat) (v : Value) (M : Mv), MBox V g M → g ≠ w.heap.size → MBox (V.setCell ⟨w.heap.size, a, none⟩ v) g M := fun V g a v M h hg => (Below.heap_setCell _ _ _ _ hg).trans h
     obtain ⟨⟨k0, k1, k2, k3, k4, k5, k6, k7, k8, k9, k10, k11⟩, kf⟩ := MBox.cells hM6
     refine stepK (i := 5) (L := #[zT,zT,zT,zT,zT,zT,zF,zF]) rfl (by rfl) (by kernel_rfl) (by rfl) (fun K hK => ?_)
     go_simp
     refine hK _ _ ⟨fun _ h => hfar _ _ _ _ _ (hfar _ _ _ _ _ (hfar _ _ _ _ _ h (by omega)) (by omega)) (by omega), ?_⟩
     clear hK K k0 k1 k2 k3 k4 k5 k6 k7 k8 k9 k10 k11 kf
     try simp only [Act.put, zp]
     have hM8 := MBox.put hM6 (x := 0) (by decide) M2.S
     replace hM8 : MBox (((w7.setCell ⟨w.heap.size, 0, none⟩ (.bool M2.S.s)).setCell ⟨w.heap.size, 1, none⟩ (.slice M2.S.A M2.S.n M2.S.c)).setCell ⟨w.heap.size, 2, none⟩ (.int .i64 M2.S.e)) w.heap.size ⟨M2.S, m.W, m.C, m.A⟩ := hM8
     have hZ8 : MBox (((w7.setCell ⟨w.heap.size, 0, none⟩ (.bool M2.S.s)).setCell ⟨w.heap.size, 1, none⟩ (.slice M2.S.A M2.S.n M2.S.c)).setCell ⟨w.heap.size, 2, none⟩ (.int .i64 M2.S.e)) (w.heap.size + 1) ZM := hfar _ _ _ _ _ (hfar _ _ _ _ _ (hfar _ _ _ _ _ hZ6 (by omega)) (by omega)) (by omega)
     have hS8 : MBox (((w7.setCell ⟨w.heap.size, 0, none⟩ (.bool M2.S.s)).setCell ⟨w.heap.size, 1, none⟩ (.slice M2.S.A M2.S.n M2.S.c)).setCell ⟨w.heap.size, 2, none⟩ (.int .i64 M2.S.e)) (w.heap.size + 1 + 1) M2 := hfar _ _ _ _ _ (hfar _ _ _ _ _ (hfar _ _ _ _ _ hS0 (by omega)) (by omega)) (by omega)
     have hb8 : Below w.heap.size w (((w7.setCell ⟨w.heap.size, 0, none⟩ (.bool M2.S.s)).setCell ⟨w.heap.size, 1, none⟩ (.slice M2.S.A M2.S.n M2.S.c)).setCell ⟨w.heap.size, 2, none⟩ (.int .i64 M2.S.e)) := ((hb6.setCell (Nat.le_refl _) _).setCell (Nat.le_refl _) _).setCell (Nat.le_refl _) _
     have hs8 : ((((w7.setCell ⟨w.heap.size, 0, none⟩ (.bool M2.S.s)).setCell ⟨w.heap.size, 1, none⟩ (.slice M2.S.A M2.S.n M2.S.c)).setCell ⟨w.heap.size, 2, none⟩ (.int .i64 M2.S.e))).heap.size = w7.heap.size := by simp only [size_set]
     have hf8 : ∀ k, k ≠ w.heap.size → ((((w7.setCell ⟨w.heap.size, 0, none⟩ (.bool M2.S.s)).setCell ⟨w.heap.size, 1, none⟩ (.slice M2.S.A M2.S.n M2.S.c)).setCell ⟨w.heap.size, 2, none⟩ (.int .i64 M2.S.e))).heap[k]? = w7.heap[k]? := fun k hk => (Below.heap_setCell _ _ _ _ hk).trans ((Below.heap_setCell _ _ _ _ hk).trans (Below.heap_setCell _ _ _ _ hk))
     generalize (((w7.setCell ⟨w.heap.size, 0, none⟩ (.bool M2.S.s)).setCell ⟨w.heap.size, 1, none⟩ (.slice M2.S.A M2.S.n M2.S.c)).setCell ⟨w.heap.size, 2, none⟩ (.int .i64 M2.S.e)) = w8 at *
     clear hS0 hM6 hZ6 hb6
     refine zE 6 #[zT,zT,zT,zT,zT,zT,zT,zF] ?_ rfl ?hy7 ?rest7
     case hy7 => intro w; go_simp; (try with_reducible rfl)
     try simp only [Act.put, zp]
     obtain ⟨⟨k0, k1, k2, k3, k4, k5, k6, k7, k8, k9, k10, k11⟩, kf⟩ := MBox.cells hM8
     refine stepK (i := 7) (L := #[zT,zT,zT,zT,zT,zT,zT,zT]) rfl (by rfl) (by kernel_rfl) (by rfl) (fun K hK => ?_)
     go_simp
     refine hK _ _ ⟨fun _ h => hfar _ _ _ _ _ (hfar _ _ _ _ _ (hfar _ _ _ _ _ h (by omega)) (by omega)) (by omega), ?_⟩
     clear hK K k0 k1 k2 k3 k4 k5 k6 k7 k8 k9 k10 k11 kf
     try simp only [Act.put, zp]
     have hM9 := MBox.put hM8 (x := 1) (by decide) M2.W
     replace hM9 : MBox (((w8.setCell ⟨w.heap.size, 3, none⟩ (.bool M2.W.s)).setCell ⟨w.heap.size, 4, none⟩ (.slice M2.W.A M2.W.n M2.W.c)).setCell ⟨w.heap.size, 5, none⟩ (.int .i64 M2.W.e)) w.heap.size ⟨M2.S, M2.W, m.C, m.A⟩ := hM9
     have hZ9 : MBox (((w8.setCell ⟨w.heap.size, 3, none⟩ (.bool M2.W.s)).setCell ⟨w.heap.size, 4, none⟩ (.slice M2.W.A M2.W.n M2.W.c)).setCell ⟨w.heap.size, 5, none⟩ (.int .i64 M2.W.e)) (w.heap.size + 1) ZM := hfar _ _ _ _ _ (hfar _ _ _ _ _ (hfar _ _ _ _ _ hZ8 (by omega)) (by omega)) (by omega)
     have hS9 : MBox (((w8.setCell ⟨w.heap.size, 3, none⟩ (.bool M2.W.s)).setCell ⟨w.heap.size, 4, none⟩ (.slice M2.W.A M2.W.n M2.W.c)).setCell ⟨w.heap.size, 5, none⟩ (.int .i64 M2.W.e)) (w.heap.size + 1 + 1) M2 := hfar _ _ _ _ _ (hfar _ _ _ _ _ (hfar _ _ _ _ _ hS8 (by omega)) (by omega)) (by omega)
     have hb9 : Below w.heap.size w (((w8.setCell ⟨w.heap.size, 3, none⟩ (.bool M2.W.s)).setCell ⟨w.heap.size, 4, none⟩ (.slice M2.W.A M2.W.n M2.W.c)).setCell ⟨w.heap.size, 5, none⟩ (.int .i64 M2.W.e)) := ((hb8.setCell (Nat.le_refl _) _).setCell (Nat.le_refl _) _).setCell (Nat.le_refl _) _
     have hs9 : ((((w8.setCell ⟨w.heap.size, 3, none⟩ (.bool M2.W.s)).setCell ⟨w.heap.size, 4, none⟩ (.slice M2.W.A M2.W.n M2.W.c)).setCell ⟨w.heap.size, 5, none⟩ (.int .i64 M2.W.e))).heap.size = w8.heap.size := by simp only [size_set]
     have hf9 : ∀ k, k ≠ w.heap.size → ((((w8.setCell ⟨w.heap.size, 3, none⟩ (.bool M2.W.s)).setCell ⟨w.heap.size, 4, none⟩ (.slice M2.W.A M2.W.n M2.W.c)).setCell ⟨w.heap.size, 5, none⟩ (.int .i64 M2.W.e))).heap[k]? = w8.heap[k]? := fun k hk => (Below.heap_setCell _ _ _ _ hk).trans ((Below.heap_setCell _ _ _ _ hk).trans (Below.heap_setCell _ _ _ _ hk))
     generalize (((w8.setCell ⟨w.heap.size, 3, none⟩ (.bool M2.W.s)).setCell ⟨w.heap.size, 4, none⟩ (.slice M2.W.A M2.W.n M2.W.c)).setCell ⟨w.heap.size, 5, none⟩ (.int .i64 M2.W.e)) = w9 at *
     refine doneE (by kernel_rfl) ?_ _
     go_wp2_with fail
     obtain ⟨M3, hM3e⟩ : ∃ M : Mv, M = ⟨M2.S, M2.W, m.C, m.A⟩ := ⟨_, rfl⟩
     replace hM9 : MBox w9 w.heap.size M3 := by rw [hM3e]; exact hM9
     have l7 : w9.heap.size ≤ w7.heap.size := by omega
     have l8 : w7.heap.size ≤ w9.heap.size := by omega
     have hf : ∀ k, k ≠ w.heap.size → w9.heap[k]? = w7.heap[k]? := fun k hk => (hf9 k hk).trans (hf8 k hk)
     replace I1 := ints_rng I1 (w' := w9) (fun b h1 _ => hf b (by omega))
     replace I2 := ints_rng I2 (w' := w9) (fun b h1 _ => hf b (by omega))
     replace hR := rows_rng hR (w' := w9) (fun b _ h2 => hf b (by omega))
     have hR3 : MRows w9 0 w9.heap.size M3 := by
      rw [hM3e, HM2.out]
      exact ⟨I1.more (by omega) (by omega), I2.more (by omega) (by omega), Ints.more hR.C (by omega) (by omega), Ints.more hR.A (by omega) (by omega)⟩
     have hn3 : ∀ x, x < 4 → (M3.get x).n ≤ 1000000 := by
      rw [hM3e, HM2.out]
      intro x hx
      have hx' : x = 0 ∨ x = 1 ∨ x = 2 ∨ x = 3 := by omega
      have a1 := I1.len
      have a2 := I2.len
      rcases hx' with rfl | rfl | rfl | rfl
      · show i1 ≤ 1000000
        omega
      · show i2 ≤ 1000000
        omega
      · exact nC
      · exact nA
     have HM3 := Lib.hid hM3e
     clear hM3e hf hf8 hf9 hs8 hs9 hb8 hM8 hS8 hZ8
     refine region_E (fun W' => MBox W' w.heap.size M3 ∧ MBox W' (w.heap.size + 1 + 1) M2) [] (m := 6) (L := #[zF,zF,zF,zF,zF,zF]) (by kernel_rfl) (by rfl) (by rfl) ?_
     have hS10 : MBox w9.drew w.heap.size M3 ∧ MBox w9.drew (w.heap.size + 1 + 1) M2 := ⟨hM9, hS9⟩
     refine readE (i := 0) (L := #[zT,zF,zF,zF,zF,zF]) (v := .agg #[.bool M3.S.s, .slice M3.S.A M3.S.n M3.S.c, .int .i64 M3.S.e, .bool M3.W.s, .slice M3.W.A M3.W.n M3.W.c, .int .i64 M3.W.e, .bool M3.C.s, .slice M3.C.A M3.C.n M3.C.c, .int .i64 M3.C.e, .bool M3.A.s, .slice M3.A.A M3.A.n M3.A.c, .int .i64 M3.A.e]) rfl (by rfl) (by kernel_rfl) (by kernel_rfl) (by kernel_rfl) (fun _ _ _ h => h) (by assumption) (by rfl) ?ryC ?rrC
     case ryC =>
      intro w' h1
      obtain ⟨⟨k0, k1, k2, k3, k4, k5, k6, k7, k8, k9, k10, k11⟩, kf⟩ := MBox.cells h1.1
      go_simp
     try simp only [Act.put, zp]
     refine readE (i := 2) (L := #[zT,zF,zT,zF,zF,zF]) (v := .agg #[.bool M2.S.s, .slice M2.S.A M2.S.n M2.S.c, .int .i64 M2.S.e, .bool M2.W.s, .slice M2.W.A M2.W.n M2.W.c, .int .i64 M2.W.e, .bool M2.C.s, .slice M2.C.A M2.C.n M2.C.c, .int .i64 M2.C.e, .bool M2.A.s, .slice M2.A.A M2.A.n M2.A.c, .int .i64 M2.A.e]) rfl (by rfl) (by kernel_rfl) (by kernel_rfl) (by kernel_rfl) (fun _ _ _ h => h) (by assumption) (by rfl) ?ryD ?rrD
     case ryD =>
      intro w' h1
      obtain ⟨⟨k0, k1, k2, k3, k4, k5, k6, k7, k8, k9, k10, k11⟩, kf⟩ := MBox.cells h1.2
      go_simp
     try simp only [Act.put, zp]
     have hZ10 : MBox w9.drew (w.heap.size + 1) ZM := hZ9
     have hb10 : Below w.heap.size w w9.drew := hb9.drew
     have lw9 : w9.heap.size ≤ w9.drew.heap.size := Nat.le_refl _
     have lw10 : w9.drew.heap.size ≤ w9.heap.size := Nat.le_refl _
     replace hR3 : MRows w9.drew 0 w9.drew.heap.size M3 := ⟨Ints.drewN hR3.S 1, Ints.drewN hR3.W 1, Ints.drewN hR3.C 1, Ints.drewN hR3.A 1⟩
     replace I1 : Ints w9.drew w2.heap.size w3.heap.size .u32 P1 i1 (canon 4294967296 r1.m) := Ints.drewN I1 1
     replace I2 : Ints w9.drew w4.heap.size w5.heap.size .u32 P2 i2 (canon 4294967296 r2.m) := Ints.drewN I2 1
     clear hM9 hZ9 hS9 hb9 hR
     generalize w9.drew = w10 at *
     refine stepK (i := 1) (L := #[zT,zT,zT,zF,zF,zF]) rfl (by rfl) (by kernel_rfl) (by rfl) (fun K hK => ?_)
     go_simp
     go_at_call 37
     refine (MTwin_any w10 M3 hR3 hn3).mono ?_
     rintro e w11 ⟨k, rfl, hTw, hB, hRk⟩
     have l11 := hB.size
     have hS11 : MBox w11 w.heap.size M3 ∧ MBox w11 (w.heap.size + 1 + 1) M2 := ⟨box_on hS10.1 hB (by omega), box_on hS10.2 hB (by omega)⟩
     have hZ11 : MBox w11 (w.heap.size + 1) ZM := box_on hZ10 hB (by omega)
     have hb11 := hb10.trans (hB.mono (by omega))
     replace I1 := I1.below hB (by omega)
     replace I2 := I2.below hB (by omega)
     clear hB hZ10 hb10 hR3 hn3 hS10
     refine hK _ _ ⟨fun _ _ => hS11, ?_⟩
     clear hK K
     try simp only [Act.put, zp]
     obtain ⟨⟨z0, z1, z2, z3, z4, z5, z6, z7, z8, z9, z10, z11⟩, zf⟩ := MBox.cells hZ11
     refine stepK (i := 3) (L := #[zT,zT,zT,zT,zF,zF]) rfl (by rfl) (by kernel_rfl) (by rfl) (fun K hK => ?_)
     go_simp
     refine hK _ _ ⟨fun _ h => ⟨(far_all (by omega) k).trans h.1, (far_all (by omega) k).trans h.2⟩, ?_⟩
     clear hK K z0 z1 z2 z3 z4 z5 z6 z7 z8 z9 z10 z11 zf
     try simp only [Act.put, zp]
     have hk12 : MBox ((((((((((((w11.setCell ⟨w.heap.size + 1, 0, none⟩ (.bool k.S.s)).setCell ⟨w.heap.size + 1, 1, none⟩ (.slice k.S.A k.S.n k.S.c)).setCell ⟨w.heap.size + 1, 2, none⟩ (.int .i64 k.S.e)).setCell ⟨w.heap.size + 1, 3, none⟩ (.bool k.W.s)).setCell ⟨w.heap.size + 1, 4, none⟩ (.slice k.W.A k.W.n k.W.c)).setCell ⟨w.heap.size + 1, 5, none⟩ (.int .i64 k.W.e)).setCell ⟨w.heap.size + 1, 6, none⟩ (.bool k.C.s)).setCell ⟨w.heap.size + 1, 7, none⟩ (.slice k.C.A k.C.n k.C.c)).setCell ⟨w.heap.size + 1, 8, none⟩ (.int .i64 k.C.e)).setCell ⟨w.heap.size + 1, 9, none⟩ (.bool k.A.s)).setCell ⟨w.heap.size + 1, 10, none⟩ (.slice k.A.A k.A.n k.A.c)).setCell ⟨w.heap.size + 1, 11, none⟩ (.int .i64 k.A.e)) (w.heap.size + 1) k := MBox.all hZ11 k
     have hS12 : MBox ((((((((((((w11.setCell ⟨w.heap.size + 1, 0, none⟩ (.bool k.S.s)).setCell ⟨w.heap.size + 1, 1, none⟩ (.slice k.S.A k.S.n k.S.c)).setCell ⟨w.heap.size + 1, 2, none⟩ (.int .i64 k.S.e)).setCell ⟨w.heap.size + 1, 3, none⟩ (.bool k.W.s)).setCell ⟨w.heap.size + 1, 4, none⟩ (.slice k.W.A k.W.n k.W.c)).setCell ⟨w.heap.size + 1, 5, none⟩ (.int .i64 k.W.e)).setCell ⟨w.heap.size + 1, 6, none⟩ (.bool k.C.s)).setCell ⟨w.heap.size + 1, 7, none⟩ (.slice k.C.A k.C.n k.C.c)).setCell ⟨w.heap.size + 1, 8, none⟩ (.int .i64 k.C.e)).setCell ⟨w.heap.size + 1, 9, none⟩ (.bool k.A.s)).setCell ⟨w.heap.size + 1, 10, none⟩ (.slice k.A.A k.A.n k.A.c)).setCell ⟨w.heap.size + 1, 11, none⟩ (.int .i64 k.A.e)) (w.heap.size + 1 + 1) M2 := (far_all (by omega) k).trans hS11.2
     have hb12 : Below w.heap.size w ((((((((((((w11.setCell ⟨w.heap.size + 1, 0, none⟩ (.bool k.S.s)).setCell ⟨w.heap.size + 1, 1, none⟩ (.slice k.S.A k.S.n k.S.c)).setCell ⟨w.heap.size + 1, 2, none⟩ (.int .i64 k.S.e)).setCell ⟨w.heap.size + 1, 3, none⟩ (.bool k.W.s)).setCell ⟨w.heap.size + 1, 4, none⟩ (.slice k.W.A k.W.n k.W.c)).setCell ⟨w.heap.size + 1, 5, none⟩ (.int .i64 k.W.e)).setCell ⟨w.heap.size + 1, 6, none⟩ (.bool k.C.s)).setCell ⟨w.heap.size + 1, 7, none⟩ (.slice k.C.A k.C.n k.C.c)).setCell ⟨w.heap.size + 1, 8, none⟩ (.int .i64 k.C.e)).setCell ⟨w.heap.size + 1, 9, none⟩ (.bool k.A.s)).setCell ⟨w.heap.size + 1, 10, none⟩ (.slice k.A.A k.A.n k.A.c)).setCell ⟨w.heap.size + 1, 11, none⟩ (.int .i64 k.A.e)) := below_all hb11 (by omega) k
     have hf12 : ∀ j, j ≠ w.heap.size + 1 → ((((((((((((w11.setCell ⟨w.heap.size + 1, 0, none⟩ (.bool k.S.s)).setCell ⟨w.heap.size + 1, 1, none⟩ (.slice k.S.A k.S.n k.S.c)).setCell ⟨w.heap.size + 1, 2, none⟩ (.int .i64 k.S.e)).setCell ⟨w.heap.size + 1, 3, none⟩ (.bool k.W.s)).setCell ⟨w.heap.size + 1, 4, none⟩ (.slice k.W.A k.W.n k.W.c)).setCell ⟨w.heap.size + 1, 5, none⟩ (.int .i64 k.W.e)).setCell ⟨w.heap.size + 1, 6, none⟩ (.bool k.C.s)).setCell ⟨w.heap.size + 1, 7, none⟩ (.slice k.C.A k.C.n k.C.c)).setCell ⟨w.heap.size + 1, 8, none⟩ (.int .i64 k.C.e)).setCell ⟨w.heap.size + 1, 9, none⟩ (.bool k.A.s)).setCell ⟨w.heap.size + 1, 10, none⟩ (.slice k.A.A k.A.n k.A.c)).setCell ⟨w.heap.size + 1, 11, none⟩ (.int .i64 k.A.e)).heap[j]? = w11.heap[j]? := fun j hj => far_all hj k
     have hs12 : ((((((((((((w11.setCell ⟨w.heap.size + 1, 0, none⟩ (.bool k.S.s)).setCell ⟨w.heap.size + 1, 1, none⟩ (.slice k.S.A k.S.n k.S.c)).setCell ⟨w.heap.size + 1, 2, none⟩ (.int .i64 k.S.e)).setCell ⟨w.heap.size + 1, 3, none⟩ (.bool k.W.s)).setCell ⟨w.heap.size + 1, 4, none⟩ (.slice k.W.A k.W.n k.W.c)).setCell ⟨w.heap.size + 1, 5, none⟩ (.int .i64 k.W.e)).setCell ⟨w.heap.size + 1, 6, none⟩ (.bool k.C.s)).setCell ⟨w.heap.size + 1, 7, none⟩ (.slice k.C.A k.C.n k.C.c)).setCell ⟨w.heap.size + 1, 8, none⟩ (.int .i64 k.C.e)).setCell ⟨w.heap.size + 1, 9, none⟩ (.bool k.A.s)).setCell ⟨w.heap.size + 1, 10, none⟩ (.slice k.A.A k.A.n k.A.c)).setCell ⟨w.heap.size + 1, 11, none⟩ (.int .i64 k.A.e)).heap.size = w11.heap.size := size_all k
     generalize ((((((((((((w11.setCell ⟨w.heap.size + 1, 0, none⟩ (.bool k.S.s)).setCell ⟨w.heap.size + 1, 1, none⟩ (.slice k.S.A k.S.n k.S.c)).setCell ⟨w.heap.size + 1, 2, none⟩ (.int .i64 k.S.e)).setCell ⟨w.heap.size + 1, 3, none⟩ (.bool k.W.s)).setCell ⟨w.heap.size + 1, 4, none⟩ (.slice k.W.A k.W.n k.W.c)).setCell ⟨w.heap.size + 1, 5, none⟩ (.int .i64 k.W.e)).setCell ⟨w.heap.size + 1, 6, none⟩ (.bool k.C.s)).setCell ⟨w.heap.size + 1, 7, none⟩ (.slice k.C.A k.C.n k.C.c)).setCell ⟨w.heap.size + 1, 8, none⟩ (.int .i64 k.C.e)).setCell ⟨w.heap.size + 1, 9, none⟩ (.bool k.A.s)).setCell ⟨w.heap.size + 1, 10, none⟩ (.slice k.A.A k.A.n k.A.c)).setCell ⟨w.heap.size + 1, 11, none⟩ (.int .i64 k.A.e)) = w12 at *
     replace I1 := ints_rng I1 (w' := w12) (fun b h1 _ => hf12 b (by omega))
     replace I2 := ints_rng I2 (w' := w12) (fun b h1 _ => hf12 b (by omega))
     replace hRk := rows_rng hRk (w' := w12) (fun b h1 _ => hf12 b (by omega))
     have l12 : w12.heap.size ≤ w11.heap.size := Nat.le_of_eq hs12
     have l12' : w11.heap.size ≤ w12.heap.size := Nat.le_of_eq hs12.symm
     clear hs12 hf12 hS11 hZ11 hb11
     obtain ⟨⟨y0, y1, y2, y3, y4, y5, y6, y7, y8, y9, y10, y11⟩, yf⟩ := MBox.cells hS12
     refine stepK (i := 4) (L := #[zT,zT,zT,zT,zT,zF]) rfl (by rfl) (by kernel_rfl) (by rfl) (fun K hK => ?_)
     go_simp
     refine hK _ _ ⟨fun _ h => ⟨(far_all (by omega) M2).trans h.1, MBox.all h.2 M2⟩, ?_⟩
     clear hK K y0 y1 y2 y3 y4 y5 y6 y7 y8 y9 y10 y11 yf
     try simp only [Act.put, zp]
     have hk13 : MBox ((((((((((((w12.setCell ⟨w.heap.size + 1 + 1, 0, none⟩ (.bool M2.S.s)).setCell ⟨w.heap.size + 1 + 1, 1, none⟩ (.slice M2.S.A M2.S.n M2.S.c)).setCell ⟨w.heap.size + 1 + 1, 2, none⟩ (.int .i64 M2.S.e)).setCell ⟨w.heap.size + 1 + 1, 3, none⟩ (.bool M2.W.s)).setCell ⟨w.heap.size + 1 + 1, 4, none⟩ (.slice M2.W.A M2.W.n M2.W.c)).setCell ⟨w.heap.size + 1 + 1, 5, none⟩ (.int .i64 M2.W.e)).setCell ⟨w.heap.size + 1 + 1, 6, none⟩ (.bool M2.C.s)).setCell ⟨w.heap.size + 1 + 1, 7, none⟩ (.slice M2.C.A M2.C.n M2.C.c)).setCell ⟨w.heap.size + 1 + 1, 8, none⟩ (.int .i64 M2.C.e)).setCell ⟨w.heap.size + 1 + 1, 9, none⟩ (.bool M2.A.s)).setCell ⟨w.heap.size + 1 + 1, 10, none⟩ (.slice M2.A.A M2.A.n M2.A.c)).setCell ⟨w.heap.size + 1 + 1, 11, none⟩ (.int .i64 M2.A.e)) (w.heap.size + 1) k := (far_all (by omega) M2).trans hk12
     have hS13 : MBox ((((((((((((w12.setCell ⟨w.heap.size + 1 + 1, 0, none⟩ (.bool M2.S.s)).setCell ⟨w.heap.size + 1 + 1, 1, none⟩ (.slice M2.S.A M2.S.n M2.S.c)).setCell ⟨w.heap.size + 1 + 1, 2, none⟩ (.int .i64 M2.S.e)).setCell ⟨w.heap.size + 1 + 1, 3, none⟩ (.bool M2.W.s)).setCell ⟨w.heap.size + 1 + 1, 4, none⟩ (.slice M2.W.A M2.W.n M2.W.c)).setCell ⟨w.heap.size + 1 + 1, 5, none⟩ (.int .i64 M2.W.e)).setCell ⟨w.heap.size + 1 + 1, 6, none⟩ (.bool M2.C.s)).setCell ⟨w.heap.size + 1 + 1, 7, none⟩ (.slice M2.C.A M2.C.n M2.C.c)).setCell ⟨w.heap.size + 1 + 1, 8, none⟩ (.int .i64 M2.C.e)).setCell ⟨w.heap.size + 1 + 1, 9, none⟩ (.bool M2.A.s)).setCell ⟨w.heap.size + 1 + 1, 10, none⟩ (.slice M2.A.A M2.A.n M2.A.c)).setCell ⟨w.heap.size + 1 + 1, 11, none⟩ (.int .i64 M2.A.e)) (w.heap.size + 1 + 1) M2 := MBox.all hS12 M2
     have hb13 : Below w.heap.size w ((((((((((((w12.setCell ⟨w.heap.size + 1 + 1, 0, none⟩ (.bool M2.S.s)).setCell ⟨w.heap.size + 1 + 1, 1, none⟩ (.slice M2.S.A M2.S.n M2.S.c)).setCell ⟨w.heap.size + 1 + 1, 2, none⟩ (.int .i64 M2.S.e)).setCell ⟨w.heap.size + 1 + 1, 3, none⟩ (.bool M2.W.s)).setCell ⟨w.heap.size + 1 + 1, 4, none⟩ (.slice M2.W.A M2.W.n M2.W.c)).setCell ⟨w.heap.size + 1 + 1, 5, none⟩ (.int .i64 M2.W.e)).setCell ⟨w.heap.size + 1 + 1, 6, none⟩ (.bool M2.C.s)).setCell ⟨w.heap.size + 1 + 1, 7, none⟩ (.slice M2.C.A M2.C.n M2.C.c)).setCell ⟨w.heap.size + 1 + 1, 8, none⟩ (.int .i64 M2.C.e)).setCell ⟨w.heap.size + 1 + 1, 9, none⟩ (.bool M2.A.s)).setCell ⟨w.heap.size + 1 + 1, 10, none⟩ (.slice M2.A.A M2.A.n M2.A.c)).setCell ⟨w.heap.size + 1 + 1, 11, none⟩ (.int .i64 M2.A.e)) := below_all hb12 (by omega) M2
     have hf13 : ∀ j, j ≠ w.heap.size + 1 + 1 → ((((((((((((w12.setCell ⟨w.heap.size + 1 + 1, 0, none⟩ (.bool M2.S.s)).setCell ⟨w.heap.size + 1 + 1, 1, none⟩ (.slice M2.S.A M2.S.n M2.S.c)).setCell ⟨w.heap.size + 1 + 1, 2, none⟩ (.int .i64 M2.S.e)).setCell ⟨w.heap.size + 1 + 1, 3, none⟩ (.bool M2.W.s)).setCell ⟨w.heap.size + 1 + 1, 4, none⟩ (.slice M2.W.A M2.W.n M2.W.c)).setCell ⟨w.heap.size + 1 + 1, 5, none⟩ (.int .i64 M2.W.e)).setCell ⟨w.heap.size + 1 + 1, 6, none⟩ (.bool M2.C.s)).setCell ⟨w.heap.size + 1 + 1, 7, none⟩ (.slice M2.C.A M2.C.n M2.C.c)).setCell ⟨w.heap.size + 1 + 1, 8, none⟩ (.int .i64 M2.C.e)).setCell ⟨w.heap.size + 1 + 1, 9, none⟩ (.bool M2.A.s)).setCell ⟨w.heap.size + 1 + 1, 10, none⟩ (.slice M2.A.A M2.A.n M2.A.c)).setCell ⟨w.heap.size + 1 + 1, 11, none⟩ (.int .i64 M2.A.e)).heap[j]? = w12.heap[j]? := fun j hj => far_all hj M2
     have hs13 : ((((((((((((w12.setCell ⟨w.heap.size + 1 + 1, 0, none⟩ (.bool M2.S.s)).setCell ⟨w.heap.size + 1 + 1, 1, none⟩ (.slice M2.S.A M2.S.n M2.S.c)).setCell ⟨w.heap.size + 1 + 1, 2, none⟩ (.int .i64 M2.S.e)).setCell ⟨w.heap.size + 1 + 1, 3, none⟩ (.bool M2.W.s)).setCell ⟨w.heap.size + 1 + 1, 4, none⟩ (.slice M2.W.A M2.W.n M2.W.c)).setCell ⟨w.heap.size + 1 + 1, 5, none⟩ (.int .i64 M2.W.e)).setCell ⟨w.heap.size + 1 + 1, 6, none⟩ (.bool M2.C.s)).setCell ⟨w.heap.size + 1 + 1, 7, none⟩ (.slice M2.C.A M2.C.n M2.C.c)).setCell ⟨w.heap.size + 1 + 1, 8, none⟩ (.int .i64 M2.C.e)).setCell ⟨w.heap.size + 1 + 1, 9, none⟩ (.bool M2.A.s)).setCell ⟨w.heap.size + 1 + 1, 10, none⟩ (.slice M2.A.A M2.A.n M2.A.c)).setCell ⟨w.heap.size + 1 + 1, 11, none⟩ (.int .i64 M2.A.e)).heap.size = w12.heap.size := size_all M2
     generalize ((((((((((((w12.setCell ⟨w.heap.size + 1 + 1, 0, none⟩ (.bool M2.S.s)).setCell ⟨w.heap.size + 1 + 1, 1, none⟩ (.slice M2.S.A M2.S.n M2.S.c)).setCell ⟨w.heap.size + 1 + 1, 2, none⟩ (.int .i64 M2.S.e)).setCell ⟨w.heap.size + 1 + 1, 3, none⟩ (.bool M2.W.s)).setCell ⟨w.heap.size + 1 + 1, 4, none⟩ (.slice M2.W.A M2.W.n M2.W.c)).setCell ⟨w.heap.size + 1 + 1, 5, none⟩ (.int .i64 M2.W.e)).setCell ⟨w.heap.size + 1 + 1, 6, none⟩ (.bool M2.C.s)).setCell ⟨w.heap.size + 1 + 1, 7, none⟩ (.slice M2.C.A M2.C.n M2.C.c)).setCell ⟨w.heap.size + 1 + 1, 8, none⟩ (.int .i64 M2.C.e)).setCell ⟨w.heap.size + 1 + 1, 9, none⟩ (.bool M2.A.s)).setCell ⟨w.heap.size + 1 + 1, 10, none⟩ (.slice M2.A.A M2.A.n M2.A.c)).setCell ⟨w.heap.size + 1 + 1, 11, none⟩ (.int .i64 M2.A.e)) = w13 at *
     replace I1 := ints_rng I1 (w' := w13) (fun b h1 _ => hf13 b (by omega))
     replace I2 := ints_rng I2 (w' := w13) (fun b h1 _ => hf13 b (by omega))
     replace hRk := rows_rng hRk (w' := w13) (fun b h1 _ => hf13 b (by omega))
     have l13 : w13.heap.size ≤ w12.heap.size := Nat.le_of_eq hs13
     have l13' : w12.heap.size ≤ w13.heap.size := Nat.le_of_eq hs13.symm
     clear hs13 hf13 hk12 hS12 hb12
     refine zE 5 #[zT,zT,zT,zT,zT,zT] ?_ rfl ?hy14 ?rest14
     case hy14 => intro w; go_simp; (try with_reducible rfl)
     try simp only [Act.put, zp]
     refine doneE (by kernel_rfl) ?_ _
     go_wp2
     obtain ⟨⟨k0, k1, k2, k3, k4, k5, k6, k7, k8, k9, k10, k11⟩, kf⟩ := MBox.cells hk13
     obtain ⟨⟨y0, y1, y2, y3, y4, y5, y6, y7, y8, y9, y10, y11⟩, yf⟩ := MBox.cells hS13
     have hMS : MRows w13 w.heap.size w10.heap.size M2 := by
      rw [HM2.out]
      exact ⟨I1.more (by omega) (by omega), I2.more (by omega) (by omega), Ints.nil_ .., Ints.nil_ ..⟩
     have hMK : MRows w13 w10.heap.size w13.heap.size k := hRk.more (Nat.le_refl _) (by omega)
     have t0 := hTw 0 (by decide)
     have t1 := hTw 1 (by decide)
     have t2 := hTw 2 (by decide)
     have t3 := hTw 3 (by decide)
     rw [HM3.out] at t0 t1 t2 t3
     refine bodyPost_ret (v := .tuple #[.agg #[.bool k.S.s, .slice k.S.A k.S.n k.S.c, .int .i64 k.S.e, .bool k.W.s, .slice k.W.A k.W.n k.W.c, .int .i64 k.W.e, .bool k.C.s, .slice k.C.A k.C.n k.C.c, .int .i64 k.C.e, .bool k.A.s, .slice k.A.A k.A.n k.A.c, .int .i64 k.A.e], .agg #[.bool M2.S.s, .slice M2.S.A M2.S.n M2.S.c, .int .i64 M2.S.e, .bool M2.W.s, .slice M2.W.A M2.W.n M2.W.c, .int .i64 M2.W.e, .bool M2.C.s, .slice M2.C.A M2.C.n M2.C.c, .int .i64 M2.C.e, .bool M2.A.s, .slice M2.A.A M2.A.n M2.A.c, .int .i64 M2.A.e], .int .i64 0]) (by simp [results, Tryd.results36, go_sem, k0, k1, k2, k3, k4, k5, k6, k7, k8, k9, k10, k11, y0, y1, y2, y3, y4, y5, y6, y7, y8, y9, y10, y11]) rfl ⟨k, M2, 0, rfl, hb13, ⟨rfl, ?_, ?_, w10.heap.size, by omega, by omega, hMS, hMK⟩⟩
     · have q1 := Ints.more hMS.S (Nat.le_refl _) (show _ ≤ w13.heap.size by omega)
       have q2 := Ints.more hMS.W (Nat.le_refl _) (show _ ≤ w13.heap.size by omega)
       rw [HM2.out] at q1 q2 ⊢
       exact ⟨⟨rfl, rfl, rfl, lc1, q1⟩, ⟨rfl, rfl, rfl, lc2, q2⟩, rfl, rfl⟩
     · have q1 := Ints.more hMK.S (show w.heap.size ≤ _ by omega) (Nat.le_refl _)
       have q2 := Ints.more hMK.W (show w.heap.size ≤ _ by omega) (Nat.le_refl _)
       obtain ⟨a1, a2, a3, a4, a5⟩ := t0
       obtain ⟨b1, b2, b3, b4, b5⟩ := t1
       refine ⟨⟨a1.trans ?_, a3.trans ?_, a4.trans ?_, a5, q1⟩, ⟨b1.trans ?_, b3.trans ?_, b4.trans ?_, b5, q2⟩, t2, t3⟩ <;> (rw [HM2.out]; rfl)
end Ma
end Go.Proofs.YtbbnbgllgomolaaDoor