/- mean.Meet: walks (printed by a program of mine). -/
import Derived.Test.YtlbkepiflhchdaaDoorBv10
import Derived.Test.YtlbkepiflhchdaaDoorBv06
namespace Go.Proofs.YtlbkepiflhchdaaDoor
open Go.RowKit
namespace Ma
open Dp Dy
open Classical in
/-- Averages of two. -/
noncomputable def meetM (a b : Mv) : ((Nat → Dn) × (Nat → Dn)) × Int :=
  if a.may ∧ b.may then (if (midD (dnM a 2) (dnM b 2)).2 = 0 ∧ (midD (dnM a 3) (dnM b 3)).2 = 0 then
    ((fun x => if x = 2 then (midD (dnM a 2) (dnM b 2)).1.1 else if x = 3 then (midD (dnM a 3) (dnM b 3)).1.1 else dnM b x, fun x => if x = 2 then (midD (dnM a 2) (dnM b 2)).1.2 else if x = 3 then (midD (dnM a 3) (dnM b 3)).1.2 else Dn.zero), 0)
    else ((zR, zR), 10)) else ((zR, zR), 8)
theorem mid_two {A B : Dn} {X : Dn × Dn} {q : Int} (h : midD A B = (X, q)) : q = 0 ∨ q = 10 := by
  unfold midD at h
  split at h
  · injection h with _ h
    exact .inl h.symm
  · injection h with _ h
    exact .inr h.symm
/-- What stands amid Meet's rounds. -/
def PartI (b : Mv) (lo : Nat) (X Y : Dn × Dn) (q1 q2 : Int) (i : Nat) (wr : World) (O K_ : Mv) : Prop :=
  O.S = b.S ∧ O.W = b.W ∧ K_.S = ZM.S ∧ K_.W = ZM.W ∧ (i = 0 → O.C = b.C ∧ K_.C = ZM.C) ∧
  (0 < i → (Is X.1 O.C ∧ Is X.2 K_.C) ∧ (Ints wr lo wr.heap.size .u32 O.C.A O.C.n O.C.xs ∧ Ints wr lo wr.heap.size .u32 K_.C.A K_.C.n K_.C.xs) ∧ q1 = 0) ∧
  (i ≤ 1 → O.A = b.A ∧ K_.A = ZM.A) ∧
  (1 < i → (Is Y.1 O.A ∧ Is Y.2 K_.A) ∧ (Ints wr lo wr.heap.size .u32 O.A.A O.A.n O.A.xs ∧ Ints wr lo wr.heap.size .u32 K_.A.A K_.A.n K_.A.xs) ∧ q2 = 0)
theorem isM_n2 {w : World} {lo hi : Nat} {R : Nat → Dn} {m : Mv} (hR : MRows w lo hi m) (h : IsM R m) (hr : MayR R) : ∀ x, x < 4 → (m.get x).n ≤ 1000000 := fun x hx => by
  have h1 := (hR.get x).len
  have h2 : (m.get x).xs.length ≤ 40 := ((h x hx).may (hr x hx)).1.1
  omega
theorem mid_may {A B : Dn} {r d : Dn} {q : Int} (h : midD A B = ((r, d), q)) : r.May ∧ d.May := by
  unfold midD at h
  split at h
  · injection h with h _
    injection h with h1 h2
    subst h1 h2
    exact ⟨half_may _, sub_may _ _⟩
  · injection h with h _
    injection h with h1 h2
    subst h1 h2
    exact ⟨zero_may, zero_may⟩
theorem far3 {w : World} {g g' o1 o2 o3 : Nat} (h : g' ≠ g) (x y z : Value) : (((w.setCell ⟨g, o1, none⟩ x).setCell ⟨g, o2, none⟩ y).setCell ⟨g, o3, none⟩ z).heap[g']? = w.heap[g']? :=
  (Below.heap_setCell _ _ _ _ h).trans ((Below.heap_setCell _ _ _ _ h).trans (Below.heap_setCell _ _ _ _ h))
theorem below3 {w0 w : World} {B g o1 o2 o3 : Nat} (h : Below B w0 w) (hg : B ≤ g) (x y z : Value) : Below B w0 (((w.setCell ⟨g, o1, none⟩ x).setCell ⟨g, o2, none⟩ y).setCell ⟨g, o3, none⟩ z) := ((h.setCell hg _).setCell hg _).setCell hg _
theorem size3 {w : World} {g o1 o2 o3 : Nat} (x y z : Value) : (((w.setCell ⟨g, o1, none⟩ x).setCell ⟨g, o2, none⟩ y).setCell ⟨g, o3, none⟩ z).heap.size = w.heap.size := by simp [World.setCell]
set_option maxHeartbeats 51200000 in
set_option maxRecDepth 100000 in
theorem Meet_num (w : World) (a b : Mv) (hA : MRows w 0 w.heap.size a) (hBb : MRows w 0 w.heap.size b) (hT : Tab w) (mR lR : Nat → Dn) (code : Int) (hR : meetM a b = ((mR, lR), code)) :
    Calls Tryd.prog 43 #[.agg #[.bool a.S.s, .slice a.S.A a.S.n a.S.c, .int .i64 a.S.e, .bool a.W.s, .slice a.W.A a.W.n a.W.c, .int .i64 a.W.e, .bool a.C.s, .slice a.C.A a.C.n a.C.c, .int .i64 a.C.e, .bool a.A.s, .slice a.A.A a.A.n a.A.c, .int .i64 a.A.e], .agg #[.bool b.S.s, .slice b.S.A b.S.n b.S.c, .int .i64 b.S.e, .bool b.W.s, .slice b.W.A b.W.n b.W.c, .int .i64 b.W.e, .bool b.C.s, .slice b.C.A b.C.n b.C.c, .int .i64 b.C.e, .bool b.A.s, .slice b.A.A b.A.n b.A.c, .int .i64 b.A.e]] w fun e w' => ∃ m l : Mv, e = .returned (.tuple #[.agg #[.bool m.S.s, .slice m.S.A m.S.n m.S.c, .int .i64 m.S.e, .bool m.W.s, .slice m.W.A m.W.n m.W.c, .int .i64 m.W.e, .bool m.C.s, .slice m.C.A m.C.n m.C.c, .int .i64 m.C.e, .bool m.A.s, .slice m.A.A m.A.n m.A.c, .int .i64 m.A.e], .agg #[.bool l.S.s, .slice l.S.A l.S.n l.S.c, .int .i64 l.S.e, .bool l.W.s, .slice l.W.A l.W.n l.W.c, .int .i64 l.W.e, .bool l.C.s, .slice l.C.A l.C.n l.C.c, .int .i64 l.C.e, .bool l.A.s, .slice l.A.A l.A.n l.A.c, .int .i64 l.A.e], .int .i64 code]) ∧ Below w.heap.size w w' ∧ IsM mR m ∧ IsM lR l ∧ ∃ B, w.heap.size ≤ B ∧ B ≤ w'.heap.size ∧ MRows w' w.heap.size B m ∧ MRows w' B w'.heap.size l := by
  generalize hw1 : (((w.alloc (.cells #[.bool a.S.s, .slice a.S.A a.S.n a.S.c, .int .i64 a.S.e, .bool a.W.s, .slice a.W.A a.W.n a.W.c, .int .i64 a.W.e, .bool a.C.s, .slice a.C.A a.C.n a.C.c, .int .i64 a.C.e, .bool a.A.s, .slice a.A.A a.A.n a.A.c, .int .i64 a.A.e] 39)).alloc (.cells #[.bool b.S.s, .slice b.S.A b.S.n b.S.c, .int .i64 b.S.e, .bool b.W.s, .slice b.W.A b.W.n b.W.c, .int .i64 b.W.e, .bool b.C.s, .slice b.C.A b.C.n b.C.c, .int .i64 b.C.e, .bool b.A.s, .slice b.A.A b.A.n b.A.c, .int .i64 b.A.e] 39)).alloc (.cells #[.bool false, .slice none 0 0, .int .i64 0, .bool false, .slice none 0 0, .int .i64 0, .bool false, .slice none 0 0, .int .i64 0, .bool false, .slice none 0 0, .int .i64 0] 39)).alloc (.cells #[.bool false, .slice none 0 0, .int .i64 0, .bool false, .slice none 0 0, .int .i64 0, .bool false, .slice none 0 0, .int .i64 0, .bool false, .slice none 0 0, .int .i64 0] 39) = w1
  obtain ⟨⟨hMa, hMb, hZ, hY⟩, hBL, lo1, hi1⟩ := boxes4 w _ _ _ _ hw1
  replace hMa : MBox w1 w.heap.size a := hMa
  replace hMb : MBox w1 (w.heap.size + 1) b := hMb
  replace hZ : MBox w1 (w.heap.size + 1 + 1) ZM := hZ
  replace hY : MBox w1 (w.heap.size + 1 + 1 + 1) ZM := hY
  replace hBL : Below w.heap.size w w1 := hBL
  have Ra : MRows w1 0 w1.heap.size a := hA.on hBL
  have Rb : MRows w1 0 w1.heap.size b := hBb.on hBL
  have tT := hT.below hBL hT.lt
  have g0 := hT.lt
  have HR := Lib.hid hR
  clear hR
  obtain ⟨ka, hka⟩ : ∃ k, chkM a = k := ⟨_, rfl⟩
  obtain ⟨kb, hkb⟩ : ∃ k, chkM b = k := ⟨_, rfl⟩
  have HKA := Lib.hid hka
  have HKB := Lib.hid hkb
  clear hka hkb
  go_enter Tryd.func43, Tryd.ntmps43
  obtain ⟨⟨q_1_0, q_1_1, q_1_2, q_1_3, q_1_4, q_1_5, q_1_6, q_1_7, q_1_8, q_1_9, q_1_10, q_1_11⟩, q_1f⟩ := MBox.cells hMa
  by_cases hm : a.may
  rotate_left
  · skip
    have k8 : (8 : Int) = ka := by rw [← HKA.out, chk_not hm]
    subst k8
    have hcode : ((zR, zR), (8 : Int)) = ((mR, lR), code) := by
      rw [← HR.out]
      unfold meetM
      rw [if_neg fun k => hm k.1]
    injection hcode with h1 h2
    injection h1 with h1 h3
    subst h1 h2 h3
    clear hm
    go_wp2_with fail
    refine (MCheck_any w1 a Ra 8 HKA.out).mono ?_
    rintro e' w_2 ⟨rfl, hB⟩
    clear q_1_0 q_1_1 q_1_2 q_1_3 q_1_4 q_1_5 q_1_6 q_1_7 q_1_8 q_1_9 q_1_10 q_1_11 q_1f
    have lw_2 : w1.heap.size ≤ w_2.heap.size := hB.size
    replace hMa := box_on hMa hB (by omega)
    replace hMb := box_on hMb hB (by omega)
    replace hZ := box_on hZ hB (by omega)
    replace hY := box_on hY hB (by omega)
    replace Ra := MRows.on Ra hB
    replace Rb := MRows.on Rb hB
    replace hBL := hBL.trans (hB.mono (by omega))
    replace tT := tT.below hB tT.lt
    try clear hw1
    clear hB
    obtain ⟨⟨q_3_0, q_3_1, q_3_2, q_3_3, q_3_4, q_3_5, q_3_6, q_3_7, q_3_8, q_3_9, q_3_10, q_3_11⟩, q_3f⟩ := MBox.cells hZ
    obtain ⟨⟨q_4_0, q_4_1, q_4_2, q_4_3, q_4_4, q_4_5, q_4_6, q_4_7, q_4_8, q_4_9, q_4_10, q_4_11⟩, q_4f⟩ := MBox.cells hY
    go_wp2
    obtain ⟨U1, M1, hc1, hM1, hX1, hb1, hf1, _, _⟩ := zero_to hZ
    rw [hc1]
    obtain ⟨U, M, hc2, hMe, hX2, hb2, hf2, _, _⟩ := zero_to (show MBox U1 (w.heap.size + 1 + 1 + 1) _ from (hf1 _ (by omega)).trans hY)
    rw [hc2]
    replace hX1 : MBox U (w.heap.size + 1 + 1) M := by rw [hMe, ← hM1]; exact (hf2 _ (by omega)).trans hX1
    have hQ := hb2 _ _ (hb1 _ _ hBL (by omega)) (by omega)
    clear q_3_0 q_3_1 q_3_2 q_3_3 q_3_4 q_3_5 q_3_6 q_3_7 q_3_8 q_3_9 q_3_10 q_3_11 q_3f q_4_0 q_4_1 q_4_2 q_4_3 q_4_4 q_4_5 q_4_6 q_4_7 q_4_8 q_4_9 q_4_10 q_4_11 q_4f
    clear hc1 hc2
    obtain ⟨⟨k0, k1, k2, k3, k4, k5, k6, k7, k8, k9, k10, k11⟩, kf⟩ := MBox.cells hX1
    obtain ⟨⟨y0, y1, y2, y3, y4, y5, y6, y7, y8, y9, y10, y11⟩, yf⟩ := MBox.cells hX2
    refine bodyPost_ret (v := .tuple #[.agg #[.bool M.S.s, .slice M.S.A M.S.n M.S.c, .int .i64 M.S.e, .bool M.W.s, .slice M.W.A M.W.n M.W.c, .int .i64 M.W.e, .bool M.C.s, .slice M.C.A M.C.n M.C.c, .int .i64 M.C.e, .bool M.A.s, .slice M.A.A M.A.n M.A.c, .int .i64 M.A.e], .agg #[.bool M.S.s, .slice M.S.A M.S.n M.S.c, .int .i64 M.S.e, .bool M.W.s, .slice M.W.A M.W.n M.W.c, .int .i64 M.W.e, .bool M.C.s, .slice M.C.A M.C.n M.C.c, .int .i64 M.C.e, .bool M.A.s, .slice M.A.A M.A.n M.A.c, .int .i64 M.A.e], .int .i64 8]) (by simp [results, Tryd.results43, go_sem, k0, k1, k2, k3, k4, k5, k6, k7, k8, k9, k10, k11, y0, y1, y2, y3, y4, y5, y6, y7, y8, y9, y10, y11]) rfl ⟨M, M, rfl, hQ, ?_⟩
    rw [hMe]
    exact ⟨IsM.zero, IsM.zero, w.heap.size, Nat.le_refl _, hQ.size, ZM_rows .., ZM_rows ..⟩
  · skip
    have k0 : (0 : Int) = ka := by rw [← HKA.out, chk_may hm]
    subst k0
    have HMA := Lib.hid hm
    clear hm
    go_wp2_with fail
    refine (MCheck_any w1 a Ra 0 HKA.out).mono ?_
    rintro e' w_5 ⟨rfl, hB⟩
    clear q_1_0 q_1_1 q_1_2 q_1_3 q_1_4 q_1_5 q_1_6 q_1_7 q_1_8 q_1_9 q_1_10 q_1_11 q_1f
    have lw_5 : w1.heap.size ≤ w_5.heap.size := hB.size
    replace hMa := box_on hMa hB (by omega)
    replace hMb := box_on hMb hB (by omega)
    replace hZ := box_on hZ hB (by omega)
    replace hY := box_on hY hB (by omega)
    replace Ra := MRows.on Ra hB
    replace Rb := MRows.on Rb hB
    replace hBL := hBL.trans (hB.mono (by omega))
    replace tT := tT.below hB tT.lt
    try clear hw1
    clear hB
    obtain ⟨⟨q_6_0, q_6_1, q_6_2, q_6_3, q_6_4, q_6_5, q_6_6, q_6_7, q_6_8, q_6_9, q_6_10, q_6_11⟩, q_6f⟩ := MBox.cells hMb
    by_cases hm : b.may
    rotate_left
    · skip
      have k8 : (8 : Int) = kb := by rw [← HKB.out, chk_not hm]
      subst k8
      have hcode : ((zR, zR), (8 : Int)) = ((mR, lR), code) := by
        rw [← HR.out]
        unfold meetM
        rw [if_neg fun k => hm k.2]
      injection hcode with h1 h2
      injection h1 with h1 h3
      subst h1 h2 h3
      clear hm
      go_wp2_with fail
      refine (MCheck_any w_5 b Rb 8 HKB.out).mono ?_
      rintro e' w_7 ⟨rfl, hB⟩
      clear q_6_0 q_6_1 q_6_2 q_6_3 q_6_4 q_6_5 q_6_6 q_6_7 q_6_8 q_6_9 q_6_10 q_6_11 q_6f
      have lw_7 : w_5.heap.size ≤ w_7.heap.size := hB.size
      replace hMa := box_on hMa hB (by omega)
      replace hMb := box_on hMb hB (by omega)
      replace hZ := box_on hZ hB (by omega)
      replace hY := box_on hY hB (by omega)
      replace Ra := MRows.on Ra hB
      replace Rb := MRows.on Rb hB
      replace hBL := hBL.trans (hB.mono (by omega))
      replace tT := tT.below hB tT.lt
      clear hB
      obtain ⟨⟨q_8_0, q_8_1, q_8_2, q_8_3, q_8_4, q_8_5, q_8_6, q_8_7, q_8_8, q_8_9, q_8_10, q_8_11⟩, q_8f⟩ := MBox.cells hZ
      obtain ⟨⟨q_9_0, q_9_1, q_9_2, q_9_3, q_9_4, q_9_5, q_9_6, q_9_7, q_9_8, q_9_9, q_9_10, q_9_11⟩, q_9f⟩ := MBox.cells hY
      go_wp2
      obtain ⟨U1, M1, hc1, hM1, hX1, hb1, hf1, _, _⟩ := zero_to hZ
      rw [hc1]
      obtain ⟨U, M, hc2, hMe, hX2, hb2, hf2, _, _⟩ := zero_to (show MBox U1 (w.heap.size + 1 + 1 + 1) _ from (hf1 _ (by omega)).trans hY)
      rw [hc2]
      replace hX1 : MBox U (w.heap.size + 1 + 1) M := by rw [hMe, ← hM1]; exact (hf2 _ (by omega)).trans hX1
      have hQ := hb2 _ _ (hb1 _ _ hBL (by omega)) (by omega)
      clear q_8_0 q_8_1 q_8_2 q_8_3 q_8_4 q_8_5 q_8_6 q_8_7 q_8_8 q_8_9 q_8_10 q_8_11 q_8f q_9_0 q_9_1 q_9_2 q_9_3 q_9_4 q_9_5 q_9_6 q_9_7 q_9_8 q_9_9 q_9_10 q_9_11 q_9f
      clear hc1 hc2
      obtain ⟨⟨k0, k1, k2, k3, k4, k5, k6, k7, k8, k9, k10, k11⟩, kf⟩ := MBox.cells hX1
      obtain ⟨⟨y0, y1, y2, y3, y4, y5, y6, y7, y8, y9, y10, y11⟩, yf⟩ := MBox.cells hX2
      refine bodyPost_ret (v := .tuple #[.agg #[.bool M.S.s, .slice M.S.A M.S.n M.S.c, .int .i64 M.S.e, .bool M.W.s, .slice M.W.A M.W.n M.W.c, .int .i64 M.W.e, .bool M.C.s, .slice M.C.A M.C.n M.C.c, .int .i64 M.C.e, .bool M.A.s, .slice M.A.A M.A.n M.A.c, .int .i64 M.A.e], .agg #[.bool M.S.s, .slice M.S.A M.S.n M.S.c, .int .i64 M.S.e, .bool M.W.s, .slice M.W.A M.W.n M.W.c, .int .i64 M.W.e, .bool M.C.s, .slice M.C.A M.C.n M.C.c, .int .i64 M.C.e, .bool M.A.s, .slice M.A.A M.A.n M.A.c, .int .i64 M.A.e], .int .i64 8]) (by simp [results, Tryd.results43, go_sem, k0, k1, k2, k3, k4, k5, k6, k7, k8, k9, k10, k11, y0, y1, y2, y3, y4, y5, y6, y7, y8, y9, y10, y11]) rfl ⟨M, M, rfl, hQ, ?_⟩
      rw [hMe]
      exact ⟨IsM.zero, IsM.zero, w.heap.size, Nat.le_refl _, hQ.size, ZM_rows .., ZM_rows ..⟩
    · skip
      have k0 : (0 : Int) = kb := by rw [← HKB.out, chk_may hm]
      subst k0
      have HMB := Lib.hid hm
      clear hm
      go_wp2_with fail
      refine (MCheck_any w_5 b Rb 0 HKB.out).mono ?_
      rintro e' w_10 ⟨rfl, hB⟩
      clear q_6_0 q_6_1 q_6_2 q_6_3 q_6_4 q_6_5 q_6_6 q_6_7 q_6_8 q_6_9 q_6_10 q_6_11 q_6f
      have lw_10 : w_5.heap.size ≤ w_10.heap.size := hB.size
      replace hMa := box_on hMa hB (by omega)
      replace hMb := box_on hMb hB (by omega)
      replace hZ := box_on hZ hB (by omega)
      replace hY := box_on hY hB (by omega)
      replace Ra := MRows.on Ra hB
      replace Rb := MRows.on Rb hB
      replace hBL := hBL.trans (hB.mono (by omega))
      replace tT := tT.below hB tT.lt
      clear hB
      obtain ⟨⟨q_11_0, q_11_1, q_11_2, q_11_3, q_11_4, q_11_5, q_11_6, q_11_7, q_11_8, q_11_9, q_11_10, q_11_11⟩, q_11f⟩ := MBox.cells hMb
      obtain ⟨⟨q_12_0, q_12_1, q_12_2, q_12_3, q_12_4, q_12_5, q_12_6, q_12_7, q_12_8, q_12_9, q_12_10, q_12_11⟩, q_12f⟩ := MBox.cells hZ
      go_wp2_with fail
      clear q_11_0 q_11_1 q_11_2 q_11_3 q_11_4 q_11_5 q_11_6 q_11_7 q_11_8 q_11_9 q_11_10 q_11_11 q_11f q_12_0 q_12_1 q_12_2 q_12_3 q_12_4 q_12_5 q_12_6 q_12_7 q_12_8 q_12_9 q_12_10 q_12_11 q_12f
      obtain ⟨w_13, hc_, hO, hb_, hf_, lw_13, l2w_13⟩ := all_to hZ b
      rw [hc_]
      clear hc_
      replace hBL := hb_ _ _ hBL (by omega)
      replace hMa : MBox w_13 w.heap.size a := (hf_ _ (by omega)).trans hMa
      replace hY : MBox w_13 (w.heap.size + 1 + 1 + 1) ZM := (hf_ _ (by omega)).trans hY
      replace tT := tT.keep (hf_ 0 (by omega))
      replace Ra : MRows w_13 0 w.heap.size a := hA.below hBL (Nat.le_refl _)
      replace Rb : MRows w_13 0 w.heap.size b := hBb.below hBL (Nat.le_refl _)
      clear hb_ hf_ hZ hMb
      refine (pair_any w_13 w.heap.size).mono ?_
      rintro e' w_14 ⟨rfl, hB⟩
      have lw_14 : w_13.heap.size ≤ w_14.heap.size := hB.size
      replace hMa := box_on hMa hB (by omega)
      replace hO := box_on hO hB (by omega)
      replace hY := box_on hY hB (by omega)
      replace hBL := hBL.trans (hB.mono (by omega))
      replace tT := tT.below hB tT.lt
      replace Ra := MRows.below Ra hB (by omega)
      replace Rb := MRows.below Rb hB (by omega)
      clear hB
      go_wp2_with fail
      refine (pair_any w_14 (w.heap.size + 1 + 1 + 1)).mono ?_
      rintro e' w_15 ⟨rfl, hB⟩
      have lw_15 : w_14.heap.size ≤ w_15.heap.size := hB.size
      replace hMa := box_on hMa hB (by omega)
      replace hO := box_on hO hB (by omega)
      replace hY := box_on hY hB (by omega)
      replace hBL := hBL.trans (hB.mono (by omega))
      replace tT := tT.below hB tT.lt
      replace Ra := MRows.below Ra hB (by omega)
      replace Rb := MRows.below Rb hB (by omega)
      clear hB
      go_wp2_with fail
      generalize hww_16 : (w_15.alloc (.cells #[.pointer (some ⟨w.heap.size, 6, none⟩), .pointer (some ⟨w.heap.size, 9, none⟩)] 102)).alloc (.cells #[.pointer (some ⟨w.heap.size + 1 + 1 + 1, 6, none⟩), .pointer (some ⟨w.heap.size + 1 + 1 + 1, 9, none⟩)] 102) = w_16 at *
      obtain ⟨hWas, hTo, hB, lo2, hi2⟩ := boxes2 w_15 _ _ hww_16
      replace hB : Below w_15.heap.size w_15 w_16 := hB
      have lw_16 : w_15.heap.size ≤ w_16.heap.size := hB.size
      replace hMa := box_on hMa hB (by omega)
      replace hO := box_on hO hB (by omega)
      replace hY := box_on hY hB (by omega)
      replace hBL := hBL.trans (hB.mono (by omega))
      replace tT := tT.below hB tT.lt
      replace Ra := MRows.below Ra hB (by omega)
      replace Rb := MRows.below Rb hB (by omega)
      clear hB
      refine (pair_any w_16 (w.heap.size + 1 + 1)).mono ?_
      rintro e' w_17 ⟨rfl, hB⟩
      have lw_17 : w_16.heap.size ≤ w_17.heap.size := hB.size
      replace hMa := box_on hMa hB (by omega)
      replace hO := box_on hO hB (by omega)
      replace hY := box_on hY hB (by omega)
      replace hWas := (hB.block _ (by omega)).trans hWas
      replace hTo := (hB.block _ (by omega)).trans hTo
      replace hBL := hBL.trans (hB.mono (by omega))
      replace tT := tT.below hB tT.lt
      replace Ra := MRows.below Ra hB (by omega)
      replace Rb := MRows.below Rb hB (by omega)
      try clear hww_16
      clear hB
      obtain ⟨⟨r1, d1⟩, q1, h1⟩ : ∃ X q, midD (dnM a 2) (dnM b 2) = (X, q) := ⟨_, _, rfl⟩
      obtain ⟨⟨r2, d2⟩, q2, h2⟩ : ∃ X q, midD (dnM a 3) (dnM b 3) = (X, q) := ⟨_, _, rfl⟩
      have H1 := Lib.hid h1
      have H2 := Lib.hid h2
      have c1 := Lib.hid (mid_two h1)
      have c2 := Lib.hid (mid_two h2)
      have hmeet : meetM a b = if q1 = 0 ∧ q2 = 0 then ((fun x => if x = 2 then r1 else if x = 3 then r2 else dnM b x, fun x => if x = 2 then d1 else if x = 3 then d2 else Dn.zero), 0) else ((zR, zR), 10) := by
        unfold meetM
        rw [if_pos ⟨HMA.out, HMB.out⟩, h1, h2]
      have HR2 := Lib.hid (hmeet.symm.trans HR.out)
      have iA := Lib.hid (IsM.of hA HMA.out)
      have iB := Lib.hid (IsM.of hBb HMB.out)
      have mA := Lib.hid (dnM_may hA HMA.out)
      have mB := Lib.hid (dnM_may hBb HMB.out)
      clear h1 h2 hmeet
      go_wp2
      go_loopw [9, 10, 11, 12, 13, 28] (fun _ _ _ _ _ iv wr => ∃ (i : Nat) (O K_ : Mv), iv = .int .i64 i ∧ i ≤ 2 ∧ MBox wr w.heap.size a ∧ MBox wr (w.heap.size + 1 + 1) O ∧ MBox wr (w.heap.size + 1 + 1 + 1) K_ ∧ wr.heap[w_15.heap.size]? = some (.cells #[.pointer (some ⟨w.heap.size, 6, none⟩), .pointer (some ⟨w.heap.size, 9, none⟩)] 102 (0, 0)) ∧ wr.heap[w_15.heap.size + 1]? = some (.cells #[.pointer (some ⟨w.heap.size + 1 + 1 + 1, 6, none⟩), .pointer (some ⟨w.heap.size + 1 + 1 + 1, 9, none⟩)] 102 (0, 0)) ∧ Below w.heap.size w wr ∧ w_17.heap.size ≤ wr.heap.size ∧ Hid (PartI b (w.heap.size + 4) (r1, d1) (r2, d2) q1 q2 i wr O K_)) (fun _ _ _ _ _ iv _ => 2 - (intOf iv).toNat)
      case atStart => exact ⟨0, b, ZM, rfl, by omega, hMa, hO, hY, hWas, hTo, hBL, Nat.le_refl _, Lib.hid ⟨rfl, rfl, rfl, rfl, fun _ => ⟨rfl, rfl⟩, fun h => absurd h (Nat.lt_irrefl 0), fun _ => ⟨rfl, rfl⟩, fun h => absurd h (by decide)⟩⟩
      case round =>
        clear hMa hO hY hWas hTo hBL Ra Rb tT
        obtain ⟨i, O, K_, rfl, hi2, hMa, hO, hY, hWas, hTo, hBL, lwr, hP⟩ := hrel
        have tT := hT.below hBL hT.lt
        have Ra := hA.below hBL (Nat.le_refl _)
        have Rb := hBb.below hBL (Nat.le_refl _)
        have hi3 : i = 0 ∨ i = 1 ∨ i = 2 := by omega
        rcases hi3 with rfl | rfl | rfl
        · skip
          have eO := Lib.hid ((hP.out.2.2.2.2.1 rfl).1)
          have ix_ := idx0 (some ⟨w.heap.size + 1 + 1, 6, none⟩) (some ⟨w.heap.size + 1 + 1, 9, none⟩)
          go_upto_region 8 with fail
          clear ix_
          go_cut [11, 12, 13] from 32 to 45 (fun s11 s12 s13 wx => ∃ (g11 g12 : Nat) (M D : Dv), s11 = .pointer (some ⟨g11, 0, none⟩) ∧ s12 = .pointer (some ⟨g12, 0, none⟩) ∧ s13 = .int .i64 q1 ∧ wr.heap.size ≤ g11 ∧ wr.heap.size ≤ g12 ∧ wx.heap[g11]? = some (.cells #[.bool M.s, .slice M.A M.n M.c, .int .i64 M.e] 24 (0, 0)) ∧ wx.heap[g12]? = some (.cells #[.bool D.s, .slice D.A D.n D.c, .int .i64 D.e] 24 (0, 0)) ∧ Below wr.heap.size wr wx ∧ Hid (Is r1 M ∧ Is d1 D) ∧ Ints wx wr.heap.size wx.heap.size .u32 M.A M.n M.xs ∧ Ints wx wr.heap.size wx.heap.size .u32 D.A D.n D.xs)
          case first =>
            refine region_E (Keeps wr) [] (m := 18) (L := #[false, false, false, false, false, false, false, false, false, false, false, false, false, false, false, false, false, false]) (by kernel_rfl) (by rfl) (by rfl) ?_
            have kp_ : Keeps wr wr.drew := fun _ _ => rfl
            have b_ : Below wr.heap.size wr wr.drew := (Below.refl _ _).drew
            have lw_18 : wr.heap.size ≤ wr.drew.heap.size := b_.size
            have Xa : Ints wr.drew 0 w.heap.size .u32 a.C.A a.C.n a.C.xs := Ints.drewN (MRows.get Ra 2) 1
            have Xb : Ints wr.drew 0 w.heap.size .u32 O.C.A O.C.n O.C.xs := by
              rw [eO.out]
              exact Ints.drewN (MRows.get Rb 2) 1
            have lw0 : w.heap.size ≤ wr.heap.size := hBL.size
            have tT2 : Tab wr.drew := tT.keep rfl
            have ib : Hid (Is (dnM b 2) O.C) := Lib.hid (by rw [eO.out]; exact iB.out 2 (by decide))
            generalize wr.drew = w_18 at *
            refine pureE (i := 0) (L := #[true, false, false, false, false, false, false, false, false, false, false, false, false, false, false, false, false, false]) (v := ?_) rfl (by rfl) (by kernel_rfl) (by kernel_rfl) (by kernel_rfl) (fun _ _ _ h => h) (by rfl) ?hy1 ?rest1
            case hy1 => intro w; go_simp; (try with_reducible rfl)
            try simp only [Act.put, List.setIfInBounds_toArray, List.set_cons_zero, List.set_cons_succ]
            refine pureE (i := 1) (L := #[true, true, false, false, false, false, false, false, false, false, false, false, false, false, false, false, false, false]) (v := ?_) rfl (by rfl) (by kernel_rfl) (by kernel_rfl) (by kernel_rfl) (fun _ _ _ h => h) (by rfl) ?hy2 ?rest2
            case hy2 => intro w; go_simp; (try with_reducible rfl)
            try simp only [Act.put, List.setIfInBounds_toArray, List.set_cons_zero, List.set_cons_succ]
            refine readE (i := 2) (L := #[true, true, true, false, false, false, false, false, false, false, false, false, false, false, false, false, false, false]) (v := .pointer (some ⟨w.heap.size, 6, none⟩)) rfl (by rfl) (by kernel_rfl) (by kernel_rfl) (by kernel_rfl) (fun _ _ _ h => h) (by assumption) (by rfl) ?yr_19 ?zr_19
            case yr_19 =>
              intro w' h1
              have c_ := cell_of_row w' _ 0 _ _ _ ((h1 _ (lt_of_heap hWas)).trans hWas)
              go_simp
            try simp only [Act.put, List.setIfInBounds_toArray, List.set_cons_zero, List.set_cons_succ]
            refine pureE (i := 3) (L := #[true, true, true, true, false, false, false, false, false, false, false, false, false, false, false, false, false, false]) (v := ?_) rfl (by rfl) (by kernel_rfl) (by kernel_rfl) (by kernel_rfl) (fun _ _ _ h => h) (by rfl) ?hy4 ?rest4
            case hy4 => intro w; go_simp; (try with_reducible rfl)
            try simp only [Act.put, List.setIfInBounds_toArray, List.set_cons_zero, List.set_cons_succ]
            refine readE (i := 4) (L := #[true, true, true, true, true, false, false, false, false, false, false, false, false, false, false, false, false, false]) (v := .agg #[.bool a.C.s, .slice a.C.A a.C.n a.C.c, .int .i64 a.C.e]) rfl (by rfl) (by kernel_rfl) (by kernel_rfl) (by kernel_rfl) (fun _ _ _ h => h) (by assumption) (by rfl) ?yr_20 ?zr_20
            case yr_20 =>
              intro w' h1
              obtain ⟨⟨k0, k1, k2, k3, k4, k5, k6, k7, k8, k9, k10, k11⟩, kf⟩ := MBox.cells ((h1 _ (lt_of_heap hMa)).trans hMa)
              go_simp
            try simp only [Act.put, List.setIfInBounds_toArray, List.set_cons_zero, List.set_cons_succ]
            refine pureE (i := 5) (L := #[true, true, true, true, true, true, false, false, false, false, false, false, false, false, false, false, false, false]) (v := ?_) rfl (by rfl) (by kernel_rfl) (by kernel_rfl) (by kernel_rfl) (fun _ _ _ h => h) (by rfl) ?hy6 ?rest6
            case hy6 => intro w; go_simp; (try with_reducible rfl)
            try simp only [Act.put, List.setIfInBounds_toArray, List.set_cons_zero, List.set_cons_succ]
            refine pureE (i := 6) (L := #[true, true, true, true, true, true, true, false, false, false, false, false, false, false, false, false, false, false]) (v := ?_) rfl (by rfl) (by kernel_rfl) (by kernel_rfl) (by kernel_rfl) (fun _ _ _ h => h) (by rfl) ?hy7 ?rest7
            case hy7 => intro w; go_simp; (try with_reducible rfl)
            try simp only [Act.put, List.setIfInBounds_toArray, List.set_cons_zero, List.set_cons_succ]
            refine readE (i := 7) (L := #[true, true, true, true, true, true, true, true, false, false, false, false, false, false, false, false, false, false]) (v := .agg #[.bool O.C.s, .slice O.C.A O.C.n O.C.c, .int .i64 O.C.e]) rfl (by rfl) (by kernel_rfl) (by kernel_rfl) (by kernel_rfl) (fun _ _ _ h => h) (by assumption) (by rfl) ?yr_21 ?zr_21
            case yr_21 =>
              intro w' h1
              obtain ⟨⟨k0, k1, k2, k3, k4, k5, k6, k7, k8, k9, k10, k11⟩, kf⟩ := MBox.cells ((h1 _ (lt_of_heap hO)).trans hO)
              go_simp
            try simp only [Act.put, List.setIfInBounds_toArray, List.set_cons_zero, List.set_cons_succ]
            refine stepK3 (i := 8) (j := 13) (k := 14) (Li := #[true, true, true, true, true, true, true, true, true, false, false, false, false, false, false, false, false, false]) (Lj := #[true, true, true, true, true, true, true, true, false, false, false, false, false, true, false, false, false, false]) (Lk := #[true, true, true, true, true, true, true, true, false, false, false, false, false, false, true, false, false, false]) rfl rfl rfl (by rfl) (by rfl) (by rfl) (by kernel_rfl) (by rfl) (by rfl) (by rfl) (fun K hK => ?o_22) (fun K hK => ?o_23) (fun K hK => ?o_24)
            case o_22 =>
              
              go_simp
              go_at_call 80
              refine (middle_any w_18 a.C O.C (Xa.more (Nat.le_refl _) (by omega)) (Xb.more (Nat.le_refl _) (by omega)) tT2 (dnM a 2) (dnM b 2) (iA.out 2 (by decide)) ib.out (mA.out 2 (by decide)) (mB.out 2 (by decide)) r1 d1 q1 H1.out).mono ?_
              rintro e' w_25 ⟨M, D, rfl, hB, iM, iD, IM, ID⟩
              replace iM := Lib.hid iM
              replace iD := Lib.hid iD
              replace kp_ := Keeps.on kp_ (by omega) hB
              have lw_25 : w_18.heap.size ≤ w_25.heap.size := hB.size
              replace Xa := Ints.below Xa hB (by omega)
              replace Xb := Ints.below Xb hB (by omega)
              replace tT2 := tT2.below hB tT2.lt
              replace b_ := b_.trans (hB.mono (by omega))
              clear hB
              refine hK _ _ ⟨fun _ _ => kp_, ?_⟩
              clear hK K
              try simp only [Act.put, List.setIfInBounds_toArray, List.set_cons_zero, List.set_cons_succ]
              refine pureE (i := 9) (L := #[true, true, true, true, true, true, true, true, true, true, false, false, false, false, false, false, false, false]) (v := ?_) rfl (by rfl) (by kernel_rfl) (by kernel_rfl) (by kernel_rfl) (fun _ _ _ h => h) (by rfl) ?hy9 ?rest9
              case hy9 => intro w; go_simp; (try with_reducible rfl)
              try simp only [Act.put, List.setIfInBounds_toArray, List.set_cons_zero, List.set_cons_succ]
              refine pureE (i := 10) (L := #[true, true, true, true, true, true, true, true, true, true, true, false, false, false, false, false, false, false]) (v := ?_) rfl (by rfl) (by kernel_rfl) (by kernel_rfl) (by kernel_rfl) (fun _ _ _ h => h) (by rfl) ?hy10 ?rest10
              case hy10 => intro w; go_simp; (try with_reducible rfl)
              try simp only [Act.put, List.setIfInBounds_toArray, List.set_cons_zero, List.set_cons_succ]
              refine pureE (i := 11) (L := #[true, true, true, true, true, true, true, true, true, true, true, true, false, false, false, false, false, false]) (v := ?_) rfl (by rfl) (by kernel_rfl) (by kernel_rfl) (by kernel_rfl) (fun _ _ _ h => h) (by rfl) ?hy11 ?rest11
              case hy11 => intro w; go_simp; (try with_reducible rfl)
              try simp only [Act.put, List.setIfInBounds_toArray, List.set_cons_zero, List.set_cons_succ]
              refine pureE (i := 12) (L := #[true, true, true, true, true, true, true, true, true, true, true, true, true, false, false, false, false, false]) (v := ?_) rfl (by rfl) (by kernel_rfl) (by kernel_rfl) (by kernel_rfl) (fun _ _ _ h => h) (by rfl) ?hy12 ?rest12
              case hy12 => intro w; go_simp; (try with_reducible rfl)
              try simp only [Act.put, List.setIfInBounds_toArray, List.set_cons_zero, List.set_cons_succ]
              refine stepK2 (i := 13) (j := 14) (Li := #[true, true, true, true, true, true, true, true, true, true, true, true, true, true, false, false, false, false]) (Lj := #[true, true, true, true, true, true, true, true, true, true, true, true, true, false, true, false, false, false]) rfl rfl (by rfl) (by rfl) (by kernel_rfl) (by rfl) (by rfl) (fun K hK => ?o_26) (fun K hK => ?o_27)
              case o_26 =>
                
                go_simp
                have hB := (Below.refl w_25.heap.size w_25).alloc (Nat.le_refl _) (.cells #[.bool false, .slice none 0 0, .int .i64 0] 24)
                have hV13 := heap_alloc_last w_25 (.cells #[.bool false, .slice none 0 0, .int .i64 0] 24)
                have mw_28 : w_25.heap.size < (w_25.alloc (.cells #[.bool false, .slice none 0 0, .int .i64 0] 24)).heap.size := by simp
                generalize hww_28 : w_25.alloc (.cells #[.bool false, .slice none 0 0, .int .i64 0] 24) = w_28 at *
                replace kp_ := Keeps.on kp_ (by omega) hB
                have lw_28 : w_25.heap.size ≤ w_28.heap.size := hB.size
                replace Xa := Ints.below Xa hB (by omega)
                replace Xb := Ints.below Xb hB (by omega)
                replace IM := Ints.below IM hB (by omega)
                replace ID := Ints.below ID hB (by omega)
                replace tT2 := tT2.below hB tT2.lt
                replace b_ := b_.trans (hB.mono (by omega))
                clear hB
                refine hK _ _ ⟨fun _ _ => kp_, ?_⟩
                clear hK K
                try simp only [Act.put, List.setIfInBounds_toArray, List.set_cons_zero, List.set_cons_succ]
                try clear hww_28
                refine stepK (i := 14) (L := #[true, true, true, true, true, true, true, true, true, true, true, true, true, true, true, false, false, false]) rfl (by rfl) (by kernel_rfl) (by rfl) (fun K hK => ?_)
                go_simp
                have hB := (Below.refl w_28.heap.size w_28).alloc (Nat.le_refl _) (.cells #[.bool false, .slice none 0 0, .int .i64 0] 24)
                have hV14 := heap_alloc_last w_28 (.cells #[.bool false, .slice none 0 0, .int .i64 0] 24)
                have mw_29 : w_28.heap.size < (w_28.alloc (.cells #[.bool false, .slice none 0 0, .int .i64 0] 24)).heap.size := by simp
                generalize hww_29 : w_28.alloc (.cells #[.bool false, .slice none 0 0, .int .i64 0] 24) = w_29 at *
                replace kp_ := Keeps.on kp_ (by omega) hB
                have lw_29 : w_28.heap.size ≤ w_29.heap.size := hB.size
                replace hV13 := (hB.block _ (lt_of_heap hV13)).trans hV13
                replace Xa := Ints.below Xa hB (by omega)
                replace Xb := Ints.below Xb hB (by omega)
                replace IM := Ints.below IM hB (by omega)
                replace ID := Ints.below ID hB (by omega)
                replace tT2 := tT2.below hB tT2.lt
                replace b_ := b_.trans (hB.mono (by omega))
                clear hB
                refine hK _ _ ⟨fun _ _ => kp_, ?_⟩
                clear hK K
                try simp only [Act.put, List.setIfInBounds_toArray, List.set_cons_zero, List.set_cons_succ]
                try clear hww_29
                obtain ⟨⟨z0, z1, z2⟩, z3, z4, z5⟩ := boxD hV13
                refine stepK (i := 15) (L := #[true, true, true, true, true, true, true, true, true, true, true, true, true, true, true, true, false, false]) rfl (by rfl) (by kernel_rfl) (by rfl) (fun K hK => ?_)
                go_simp
                have k_ : Keeps wr (((w_29.setCell ⟨w_25.heap.size, 0, none⟩ (.bool M.s)).setCell ⟨w_25.heap.size, 1, none⟩ (.slice M.A M.n M.c)).setCell ⟨w_25.heap.size, 2, none⟩ (.int .i64 M.e)) := fun p hp => (box_far (by omega) _ _ _).trans (kp_ p hp)
                have x_ := box_put hV13 (.bool M.s) (.slice M.A M.n M.c) (.int .i64 M.e)
                have hb_ := below_put b_ (g := w_25.heap.size) (by omega) (.bool M.s) (.slice M.A M.n M.c) (.int .i64 M.e)
                have hs_ := size_put (w := w_29) (g := w_25.heap.size) (.bool M.s) (.slice M.A M.n M.c) (.int .i64 M.e)
                have hf_ : ∀ j, j ≠ w_25.heap.size → (((w_29.setCell ⟨w_25.heap.size, 0, none⟩ (.bool M.s)).setCell ⟨w_25.heap.size, 1, none⟩ (.slice M.A M.n M.c)).setCell ⟨w_25.heap.size, 2, none⟩ (.int .i64 M.e)).heap[j]? = w_29.heap[j]? := fun j hj => box_far (Ne.symm hj) _ _ _
                refine hK _ _ ⟨fun _ _ => k_, ?_⟩
                clear hK K z0 z1 z2 z3 z4 z5
                try simp only [Act.put, List.setIfInBounds_toArray, List.set_cons_zero, List.set_cons_succ]
                generalize ((w_29.setCell ⟨w_25.heap.size, 0, none⟩ (.bool M.s)).setCell ⟨w_25.heap.size, 1, none⟩ (.slice M.A M.n M.c)).setCell ⟨w_25.heap.size, 2, none⟩ (.int .i64 M.e) = w_30 at *
                have lw_30 : w_29.heap.size ≤ w_30.heap.size := Nat.le_of_eq hs_.symm
                have l2w_30 : w_30.heap.size ≤ w_29.heap.size := Nat.le_of_eq hs_
                clear hs_ hV13
                have hV13 := x_
                replace kp_ := k_
                replace b_ := hb_
                clear x_ k_ hb_
                replace hV14 := (hf_ _ (by omega)).trans hV14
                replace IM := ints_rng IM (w' := w_30) (fun b h1 h2 => hf_ b (by omega))
                replace ID := ints_rng ID (w' := w_30) (fun b h1 h2 => hf_ b (by omega))
                clear hf_
                obtain ⟨⟨z0, z1, z2⟩, z3, z4, z5⟩ := boxD hV14
                refine stepK (i := 16) (L := #[true, true, true, true, true, true, true, true, true, true, true, true, true, true, true, true, true, false]) rfl (by rfl) (by kernel_rfl) (by rfl) (fun K hK => ?_)
                go_simp
                have k_ : Keeps wr (((w_30.setCell ⟨w_28.heap.size, 0, none⟩ (.bool D.s)).setCell ⟨w_28.heap.size, 1, none⟩ (.slice D.A D.n D.c)).setCell ⟨w_28.heap.size, 2, none⟩ (.int .i64 D.e)) := fun p hp => (box_far (by omega) _ _ _).trans (kp_ p hp)
                have x_ := box_put hV14 (.bool D.s) (.slice D.A D.n D.c) (.int .i64 D.e)
                have hb_ := below_put b_ (g := w_28.heap.size) (by omega) (.bool D.s) (.slice D.A D.n D.c) (.int .i64 D.e)
                have hs_ := size_put (w := w_30) (g := w_28.heap.size) (.bool D.s) (.slice D.A D.n D.c) (.int .i64 D.e)
                have hf_ : ∀ j, j ≠ w_28.heap.size → (((w_30.setCell ⟨w_28.heap.size, 0, none⟩ (.bool D.s)).setCell ⟨w_28.heap.size, 1, none⟩ (.slice D.A D.n D.c)).setCell ⟨w_28.heap.size, 2, none⟩ (.int .i64 D.e)).heap[j]? = w_30.heap[j]? := fun j hj => box_far (Ne.symm hj) _ _ _
                refine hK _ _ ⟨fun _ _ => k_, ?_⟩
                clear hK K z0 z1 z2 z3 z4 z5
                try simp only [Act.put, List.setIfInBounds_toArray, List.set_cons_zero, List.set_cons_succ]
                generalize ((w_30.setCell ⟨w_28.heap.size, 0, none⟩ (.bool D.s)).setCell ⟨w_28.heap.size, 1, none⟩ (.slice D.A D.n D.c)).setCell ⟨w_28.heap.size, 2, none⟩ (.int .i64 D.e) = w_31 at *
                have lw_31 : w_30.heap.size ≤ w_31.heap.size := Nat.le_of_eq hs_.symm
                have l2w_31 : w_31.heap.size ≤ w_30.heap.size := Nat.le_of_eq hs_
                clear hs_ hV14
                have hV14 := x_
                replace kp_ := k_
                replace b_ := hb_
                clear x_ k_ hb_
                replace hV13 := (hf_ _ (by omega)).trans hV13
                replace IM := ints_rng IM (w' := w_31) (fun b h1 h2 => hf_ b (by omega))
                replace ID := ints_rng ID (w' := w_31) (fun b h1 h2 => hf_ b (by omega))
                clear hf_
                refine pureE (i := 17) (L := #[true, true, true, true, true, true, true, true, true, true, true, true, true, true, true, true, true, true]) (v := ?_) rfl (by rfl) (by kernel_rfl) (by kernel_rfl) (by kernel_rfl) (fun _ _ _ h => h) (by rfl) ?hy16 ?rest16
                case hy16 => intro w; go_simp; (try with_reducible rfl)
                try simp only [Act.put, List.setIfInBounds_toArray, List.set_cons_zero, List.set_cons_succ]
                refine doneE (by kernel_rfl) ?_ _
                go_wp2_with fail
                go_meet
                exact ⟨w_25.heap.size, w_28.heap.size, M, D, rfl, rfl, rfl, by omega, by omega, hV13, hV14, b_, Lib.hid ⟨iM.out, iD.out⟩, IM.more (by omega) (by omega), ID.more (by omega) (by omega)⟩
              case o_27 =>
                
                go_simp
                have hB := (Below.refl w_25.heap.size w_25).alloc (Nat.le_refl _) (.cells #[.bool false, .slice none 0 0, .int .i64 0] 24)
                have hV14 := heap_alloc_last w_25 (.cells #[.bool false, .slice none 0 0, .int .i64 0] 24)
                have mw_32 : w_25.heap.size < (w_25.alloc (.cells #[.bool false, .slice none 0 0, .int .i64 0] 24)).heap.size := by simp
                generalize hww_32 : w_25.alloc (.cells #[.bool false, .slice none 0 0, .int .i64 0] 24) = w_32 at *
                replace kp_ := Keeps.on kp_ (by omega) hB
                have lw_32 : w_25.heap.size ≤ w_32.heap.size := hB.size
                replace Xa := Ints.below Xa hB (by omega)
                replace Xb := Ints.below Xb hB (by omega)
                replace IM := Ints.below IM hB (by omega)
                replace ID := Ints.below ID hB (by omega)
                replace tT2 := tT2.below hB tT2.lt
                replace b_ := b_.trans (hB.mono (by omega))
                clear hB
                refine hK _ _ ⟨fun _ _ => kp_, ?_⟩
                clear hK K
                try simp only [Act.put, List.setIfInBounds_toArray, List.set_cons_zero, List.set_cons_succ]
                try clear hww_32
                refine stepK (i := 13) (L := #[true, true, true, true, true, true, true, true, true, true, true, true, true, true, true, false, false, false]) rfl (by rfl) (by kernel_rfl) (by rfl) (fun K hK => ?_)
                go_simp
                have hB := (Below.refl w_32.heap.size w_32).alloc (Nat.le_refl _) (.cells #[.bool false, .slice none 0 0, .int .i64 0] 24)
                have hV13 := heap_alloc_last w_32 (.cells #[.bool false, .slice none 0 0, .int .i64 0] 24)
                have mw_33 : w_32.heap.size < (w_32.alloc (.cells #[.bool false, .slice none 0 0, .int .i64 0] 24)).heap.size := by simp
                generalize hww_33 : w_32.alloc (.cells #[.bool false, .slice none 0 0, .int .i64 0] 24) = w_33 at *
                replace kp_ := Keeps.on kp_ (by omega) hB
                have lw_33 : w_32.heap.size ≤ w_33.heap.size := hB.size
                replace hV14 := (hB.block _ (lt_of_heap hV14)).trans hV14
                replace Xa := Ints.below Xa hB (by omega)
                replace Xb := Ints.below Xb hB (by omega)
                replace IM := Ints.below IM hB (by omega)
                replace ID := Ints.below ID hB (by omega)
                replace tT2 := tT2.below hB tT2.lt
                replace b_ := b_.trans (hB.mono (by omega))
                clear hB
                refine hK _ _ ⟨fun _ _ => kp_, ?_⟩
                clear hK K
                try simp only [Act.put, List.setIfInBounds_toArray, List.set_cons_zero, List.set_cons_succ]
                try clear hww_33
                obtain ⟨⟨z0, z1, z2⟩, z3, z4, z5⟩ := boxD hV13
                refine stepK (i := 15) (L := #[true, true, true, true, true, true, true, true, true, true, true, true, true, true, true, true, false, false]) rfl (by rfl) (by kernel_rfl) (by rfl) (fun K hK => ?_)
                go_simp
                have k_ : Keeps wr (((w_33.setCell ⟨w_32.heap.size, 0, none⟩ (.bool M.s)).setCell ⟨w_32.heap.size, 1, none⟩ (.slice M.A M.n M.c)).setCell ⟨w_32.heap.size, 2, none⟩ (.int .i64 M.e)) := fun p hp => (box_far (by omega) _ _ _).trans (kp_ p hp)
                have x_ := box_put hV13 (.bool M.s) (.slice M.A M.n M.c) (.int .i64 M.e)
                have hb_ := below_put b_ (g := w_32.heap.size) (by omega) (.bool M.s) (.slice M.A M.n M.c) (.int .i64 M.e)
                have hs_ := size_put (w := w_33) (g := w_32.heap.size) (.bool M.s) (.slice M.A M.n M.c) (.int .i64 M.e)
                have hf_ : ∀ j, j ≠ w_32.heap.size → (((w_33.setCell ⟨w_32.heap.size, 0, none⟩ (.bool M.s)).setCell ⟨w_32.heap.size, 1, none⟩ (.slice M.A M.n M.c)).setCell ⟨w_32.heap.size, 2, none⟩ (.int .i64 M.e)).heap[j]? = w_33.heap[j]? := fun j hj => box_far (Ne.symm hj) _ _ _
                refine hK _ _ ⟨fun _ _ => k_, ?_⟩
                clear hK K z0 z1 z2 z3 z4 z5
                try simp only [Act.put, List.setIfInBounds_toArray, List.set_cons_zero, List.set_cons_succ]
                generalize ((w_33.setCell ⟨w_32.heap.size, 0, none⟩ (.bool M.s)).setCell ⟨w_32.heap.size, 1, none⟩ (.slice M.A M.n M.c)).setCell ⟨w_32.heap.size, 2, none⟩ (.int .i64 M.e) = w_34 at *
                have lw_34 : w_33.heap.size ≤ w_34.heap.size := Nat.le_of_eq hs_.symm
                have l2w_34 : w_34.heap.size ≤ w_33.heap.size := Nat.le_of_eq hs_
                clear hs_ hV13
                have hV13 := x_
                replace kp_ := k_
                replace b_ := hb_
                clear x_ k_ hb_
                replace hV14 := (hf_ _ (by omega)).trans hV14
                replace IM := ints_rng IM (w' := w_34) (fun b h1 h2 => hf_ b (by omega))
                replace ID := ints_rng ID (w' := w_34) (fun b h1 h2 => hf_ b (by omega))
                clear hf_
                obtain ⟨⟨z0, z1, z2⟩, z3, z4, z5⟩ := boxD hV14
                refine stepK (i := 16) (L := #[true, true, true, true, true, true, true, true, true, true, true, true, true, true, true, true, true, false]) rfl (by rfl) (by kernel_rfl) (by rfl) (fun K hK => ?_)
                go_simp
                have k_ : Keeps wr (((w_34.setCell ⟨w_25.heap.size, 0, none⟩ (.bool D.s)).setCell ⟨w_25.heap.size, 1, none⟩ (.slice D.A D.n D.c)).setCell ⟨w_25.heap.size, 2, none⟩ (.int .i64 D.e)) := fun p hp => (box_far (by omega) _ _ _).trans (kp_ p hp)
                have x_ := box_put hV14 (.bool D.s) (.slice D.A D.n D.c) (.int .i64 D.e)
                have hb_ := below_put b_ (g := w_25.heap.size) (by omega) (.bool D.s) (.slice D.A D.n D.c) (.int .i64 D.e)
                have hs_ := size_put (w := w_34) (g := w_25.heap.size) (.bool D.s) (.slice D.A D.n D.c) (.int .i64 D.e)
                have hf_ : ∀ j, j ≠ w_25.heap.size → (((w_34.setCell ⟨w_25.heap.size, 0, none⟩ (.bool D.s)).setCell ⟨w_25.heap.size, 1, none⟩ (.slice D.A D.n D.c)).setCell ⟨w_25.heap.size, 2, none⟩ (.int .i64 D.e)).heap[j]? = w_34.heap[j]? := fun j hj => box_far (Ne.symm hj) _ _ _
                refine hK _ _ ⟨fun _ _ => k_, ?_⟩
                clear hK K z0 z1 z2 z3 z4 z5
                try simp only [Act.put, List.setIfInBounds_toArray, List.set_cons_zero, List.set_cons_succ]
                generalize ((w_34.setCell ⟨w_25.heap.size, 0, none⟩ (.bool D.s)).setCell ⟨w_25.heap.size, 1, none⟩ (.slice D.A D.n D.c)).setCell ⟨w_25.heap.size, 2, none⟩ (.int .i64 D.e) = w_35 at *
                have lw_35 : w_34.heap.size ≤ w_35.heap.size := Nat.le_of_eq hs_.symm
                have l2w_35 : w_35.heap.size ≤ w_34.heap.size := Nat.le_of_eq hs_
                clear hs_ hV14
                have hV14 := x_
                replace kp_ := k_
                replace b_ := hb_
                clear x_ k_ hb_
                replace hV13 := (hf_ _ (by omega)).trans hV13
                replace IM := ints_rng IM (w' := w_35) (fun b h1 h2 => hf_ b (by omega))
                replace ID := ints_rng ID (w' := w_35) (fun b h1 h2 => hf_ b (by omega))
                clear hf_
                refine pureE (i := 17) (L := #[true, true, true, true, true, true, true, true, true, true, true, true, true, true, true, true, true, true]) (v := ?_) rfl (by rfl) (by kernel_rfl) (by kernel_rfl) (by kernel_rfl) (fun _ _ _ h => h) (by rfl) ?hy20 ?rest20
                case hy20 => intro w; go_simp; (try with_reducible rfl)
                try simp only [Act.put, List.setIfInBounds_toArray, List.set_cons_zero, List.set_cons_succ]
                refine doneE (by kernel_rfl) ?_ _
                go_wp2_with fail
                go_meet
                exact ⟨w_32.heap.size, w_25.heap.size, M, D, rfl, rfl, rfl, by omega, by omega, hV13, hV14, b_, Lib.hid ⟨iM.out, iD.out⟩, IM.more (by omega) (by omega), ID.more (by omega) (by omega)⟩
            case o_23 =>
              
              go_simp
              have hB := (Below.refl w_18.heap.size w_18).alloc (Nat.le_refl _) (.cells #[.bool false, .slice none 0 0, .int .i64 0] 24)
              have hV13 := heap_alloc_last w_18 (.cells #[.bool false, .slice none 0 0, .int .i64 0] 24)
              have mw_36 : w_18.heap.size < (w_18.alloc (.cells #[.bool false, .slice none 0 0, .int .i64 0] 24)).heap.size := by simp
              generalize hww_36 : w_18.alloc (.cells #[.bool false, .slice none 0 0, .int .i64 0] 24) = w_36 at *
              replace kp_ := Keeps.on kp_ (by omega) hB
              have lw_36 : w_18.heap.size ≤ w_36.heap.size := hB.size
              replace Xa := Ints.below Xa hB (by omega)
              replace Xb := Ints.below Xb hB (by omega)
              replace tT2 := tT2.below hB tT2.lt
              replace b_ := b_.trans (hB.mono (by omega))
              clear hB
              refine hK _ _ ⟨fun _ _ => kp_, ?_⟩
              clear hK K
              try simp only [Act.put, List.setIfInBounds_toArray, List.set_cons_zero, List.set_cons_succ]
              try clear hww_36
              refine stepK2 (i := 8) (j := 14) (Li := #[true, true, true, true, true, true, true, true, true, false, false, false, false, true, false, false, false, false]) (Lj := #[true, true, true, true, true, true, true, true, false, false, false, false, false, true, true, false, false, false]) rfl rfl (by rfl) (by rfl) (by kernel_rfl) (by rfl) (by rfl) (fun K hK => ?o_37) (fun K hK => ?o_38)
              case o_37 =>
                
                go_simp
                go_at_call 80
                refine (middle_any w_36 a.C O.C (Xa.more (Nat.le_refl _) (by omega)) (Xb.more (Nat.le_refl _) (by omega)) tT2 (dnM a 2) (dnM b 2) (iA.out 2 (by decide)) ib.out (mA.out 2 (by decide)) (mB.out 2 (by decide)) r1 d1 q1 H1.out).mono ?_
                rintro e' w_39 ⟨M, D, rfl, hB, iM, iD, IM, ID⟩
                replace iM := Lib.hid iM
                replace iD := Lib.hid iD
                replace kp_ := Keeps.on kp_ (by omega) hB
                have lw_39 : w_36.heap.size ≤ w_39.heap.size := hB.size
                replace hV13 := (hB.block _ (lt_of_heap hV13)).trans hV13
                replace Xa := Ints.below Xa hB (by omega)
                replace Xb := Ints.below Xb hB (by omega)
                replace tT2 := tT2.below hB tT2.lt
                replace b_ := b_.trans (hB.mono (by omega))
                clear hB
                refine hK _ _ ⟨fun _ _ => kp_, ?_⟩
                clear hK K
                try simp only [Act.put, List.setIfInBounds_toArray, List.set_cons_zero, List.set_cons_succ]
                refine pureE (i := 9) (L := #[true, true, true, true, true, true, true, true, true, true, false, false, false, true, false, false, false, false]) (v := ?_) rfl (by rfl) (by kernel_rfl) (by kernel_rfl) (by kernel_rfl) (fun _ _ _ h => h) (by rfl) ?hy21 ?rest21
                case hy21 => intro w; go_simp; (try with_reducible rfl)
                try simp only [Act.put, List.setIfInBounds_toArray, List.set_cons_zero, List.set_cons_succ]
                refine pureE (i := 10) (L := #[true, true, true, true, true, true, true, true, true, true, true, false, false, true, false, false, false, false]) (v := ?_) rfl (by rfl) (by kernel_rfl) (by kernel_rfl) (by kernel_rfl) (fun _ _ _ h => h) (by rfl) ?hy22 ?rest22
                case hy22 => intro w; go_simp; (try with_reducible rfl)
                try simp only [Act.put, List.setIfInBounds_toArray, List.set_cons_zero, List.set_cons_succ]
                refine pureE (i := 11) (L := #[true, true, true, true, true, true, true, true, true, true, true, true, false, true, false, false, false, false]) (v := ?_) rfl (by rfl) (by kernel_rfl) (by kernel_rfl) (by kernel_rfl) (fun _ _ _ h => h) (by rfl) ?hy23 ?rest23
                case hy23 => intro w; go_simp; (try with_reducible rfl)
                try simp only [Act.put, List.setIfInBounds_toArray, List.set_cons_zero, List.set_cons_succ]
                refine pureE (i := 12) (L := #[true, true, true, true, true, true, true, true, true, true, true, true, true, true, false, false, false, false]) (v := ?_) rfl (by rfl) (by kernel_rfl) (by kernel_rfl) (by kernel_rfl) (fun _ _ _ h => h) (by rfl) ?hy24 ?rest24
                case hy24 => intro w; go_simp; (try with_reducible rfl)
                try simp only [Act.put, List.setIfInBounds_toArray, List.set_cons_zero, List.set_cons_succ]
                refine stepK (i := 14) (L := #[true, true, true, true, true, true, true, true, true, true, true, true, true, true, true, false, false, false]) rfl (by rfl) (by kernel_rfl) (by rfl) (fun K hK => ?_)
                go_simp
                have hB := (Below.refl w_39.heap.size w_39).alloc (Nat.le_refl _) (.cells #[.bool false, .slice none 0 0, .int .i64 0] 24)
                have hV14 := heap_alloc_last w_39 (.cells #[.bool false, .slice none 0 0, .int .i64 0] 24)
                have mw_40 : w_39.heap.size < (w_39.alloc (.cells #[.bool false, .slice none 0 0, .int .i64 0] 24)).heap.size := by simp
                generalize hww_40 : w_39.alloc (.cells #[.bool false, .slice none 0 0, .int .i64 0] 24) = w_40 at *
                replace kp_ := Keeps.on kp_ (by omega) hB
                have lw_40 : w_39.heap.size ≤ w_40.heap.size := hB.size
                replace hV13 := (hB.block _ (lt_of_heap hV13)).trans hV13
                replace Xa := Ints.below Xa hB (by omega)
                replace Xb := Ints.below Xb hB (by omega)
                replace IM := Ints.below IM hB (by omega)
                replace ID := Ints.below ID hB (by omega)
                replace tT2 := tT2.below hB tT2.lt
                replace b_ := b_.trans (hB.mono (by omega))
                clear hB
                refine hK _ _ ⟨fun _ _ => kp_, ?_⟩
                clear hK K
                try simp only [Act.put, List.setIfInBounds_toArray, List.set_cons_zero, List.set_cons_succ]
                try clear hww_40
                obtain ⟨⟨z0, z1, z2⟩, z3, z4, z5⟩ := boxD hV13
                refine stepK (i := 15) (L := #[true, true, true, true, true, true, true, true, true, true, true, true, true, true, true, true, false, false]) rfl (by rfl) (by kernel_rfl) (by rfl) (fun K hK => ?_)
                go_simp
                have k_ : Keeps wr (((w_40.setCell ⟨w_18.heap.size, 0, none⟩ (.bool M.s)).setCell ⟨w_18.heap.size, 1, none⟩ (.slice M.A M.n M.c)).setCell ⟨w_18.heap.size, 2, none⟩ (.int .i64 M.e)) := fun p hp => (box_far (by omega) _ _ _).trans (kp_ p hp)
                have x_ := box_put hV13 (.bool M.s) (.slice M.A M.n M.c) (.int .i64 M.e)
                have hb_ := below_put b_ (g := w_18.heap.size) (by omega) (.bool M.s) (.slice M.A M.n M.c) (.int .i64 M.e)
                have hs_ := size_put (w := w_40) (g := w_18.heap.size) (.bool M.s) (.slice M.A M.n M.c) (.int .i64 M.e)
                have hf_ : ∀ j, j ≠ w_18.heap.size → (((w_40.setCell ⟨w_18.heap.size, 0, none⟩ (.bool M.s)).setCell ⟨w_18.heap.size, 1, none⟩ (.slice M.A M.n M.c)).setCell ⟨w_18.heap.size, 2, none⟩ (.int .i64 M.e)).heap[j]? = w_40.heap[j]? := fun j hj => box_far (Ne.symm hj) _ _ _
                refine hK _ _ ⟨fun _ _ => k_, ?_⟩
                clear hK K z0 z1 z2 z3 z4 z5
                try simp only [Act.put, List.setIfInBounds_toArray, List.set_cons_zero, List.set_cons_succ]
                generalize ((w_40.setCell ⟨w_18.heap.size, 0, none⟩ (.bool M.s)).setCell ⟨w_18.heap.size, 1, none⟩ (.slice M.A M.n M.c)).setCell ⟨w_18.heap.size, 2, none⟩ (.int .i64 M.e) = w_41 at *
                have lw_41 : w_40.heap.size ≤ w_41.heap.size := Nat.le_of_eq hs_.symm
                have l2w_41 : w_41.heap.size ≤ w_40.heap.size := Nat.le_of_eq hs_
                clear hs_ hV13
                have hV13 := x_
                replace kp_ := k_
                replace b_ := hb_
                clear x_ k_ hb_
                replace hV14 := (hf_ _ (by omega)).trans hV14
                replace IM := ints_rng IM (w' := w_41) (fun b h1 h2 => hf_ b (by omega))
                replace ID := ints_rng ID (w' := w_41) (fun b h1 h2 => hf_ b (by omega))
                clear hf_
                obtain ⟨⟨z0, z1, z2⟩, z3, z4, z5⟩ := boxD hV14
                refine stepK (i := 16) (L := #[true, true, true, true, true, true, true, true, true, true, true, true, true, true, true, true, true, false]) rfl (by rfl) (by kernel_rfl) (by rfl) (fun K hK => ?_)
                go_simp
                have k_ : Keeps wr (((w_41.setCell ⟨w_39.heap.size, 0, none⟩ (.bool D.s)).setCell ⟨w_39.heap.size, 1, none⟩ (.slice D.A D.n D.c)).setCell ⟨w_39.heap.size, 2, none⟩ (.int .i64 D.e)) := fun p hp => (box_far (by omega) _ _ _).trans (kp_ p hp)
                have x_ := box_put hV14 (.bool D.s) (.slice D.A D.n D.c) (.int .i64 D.e)
                have hb_ := below_put b_ (g := w_39.heap.size) (by omega) (.bool D.s) (.slice D.A D.n D.c) (.int .i64 D.e)
                have hs_ := size_put (w := w_41) (g := w_39.heap.size) (.bool D.s) (.slice D.A D.n D.c) (.int .i64 D.e)
                have hf_ : ∀ j, j ≠ w_39.heap.size → (((w_41.setCell ⟨w_39.heap.size, 0, none⟩ (.bool D.s)).setCell ⟨w_39.heap.size, 1, none⟩ (.slice D.A D.n D.c)).setCell ⟨w_39.heap.size, 2, none⟩ (.int .i64 D.e)).heap[j]? = w_41.heap[j]? := fun j hj => box_far (Ne.symm hj) _ _ _
                refine hK _ _ ⟨fun _ _ => k_, ?_⟩
                clear hK K z0 z1 z2 z3 z4 z5
                try simp only [Act.put, List.setIfInBounds_toArray, List.set_cons_zero, List.set_cons_succ]
                generalize ((w_41.setCell ⟨w_39.heap.size, 0, none⟩ (.bool D.s)).setCell ⟨w_39.heap.size, 1, none⟩ (.slice D.A D.n D.c)).setCell ⟨w_39.heap.size, 2, none⟩ (.int .i64 D.e) = w_42 at *
                have lw_42 : w_41.heap.size ≤ w_42.heap.size := Nat.le_of_eq hs_.symm
                have l2w_42 : w_42.heap.size ≤ w_41.heap.size := Nat.le_of_eq hs_
                clear hs_ hV14
                have hV14 := x_
                replace kp_ := k_
                replace b_ := hb_
                clear x_ k_ hb_
                replace hV13 := (hf_ _ (by omega)).trans hV13
                replace IM := ints_rng IM (w' := w_42) (fun b h1 h2 => hf_ b (by omega))
                replace ID := ints_rng ID (w' := w_42) (fun b h1 h2 => hf_ b (by omega))
                clear hf_
                refine pureE (i := 17) (L := #[true, true, true, true, true, true, true, true, true, true, true, true, true, true, true, true, true, true]) (v := ?_) rfl (by rfl) (by kernel_rfl) (by kernel_rfl) (by kernel_rfl) (fun _ _ _ h => h) (by rfl) ?hy28 ?rest28
                case hy28 => intro w; go_simp; (try with_reducible rfl)
                try simp only [Act.put, List.setIfInBounds_toArray, List.set_cons_zero, List.set_cons_succ]
                refine doneE (by kernel_rfl) ?_ _
                go_wp2_with fail
                go_meet
                exact ⟨w_18.heap.size, w_39.heap.size, M, D, rfl, rfl, rfl, by omega, by omega, hV13, hV14, b_, Lib.hid ⟨iM.out, iD.out⟩, IM.more (by omega) (by omega), ID.more (by omega) (by omega)⟩
              case o_38 =>
                
                go_simp
                have hB := (Below.refl w_36.heap.size w_36).alloc (Nat.le_refl _) (.cells #[.bool false, .slice none 0 0, .int .i64 0] 24)
                have hV14 := heap_alloc_last w_36 (.cells #[.bool false, .slice none 0 0, .int .i64 0] 24)
                have mw_43 : w_36.heap.size < (w_36.alloc (.cells #[.bool false, .slice none 0 0, .int .i64 0] 24)).heap.size := by simp
                generalize hww_43 : w_36.alloc (.cells #[.bool false, .slice none 0 0, .int .i64 0] 24) = w_43 at *
                replace kp_ := Keeps.on kp_ (by omega) hB
                have lw_43 : w_36.heap.size ≤ w_43.heap.size := hB.size
                replace hV13 := (hB.block _ (lt_of_heap hV13)).trans hV13
                replace Xa := Ints.below Xa hB (by omega)
                replace Xb := Ints.below Xb hB (by omega)
                replace tT2 := tT2.below hB tT2.lt
                replace b_ := b_.trans (hB.mono (by omega))
                clear hB
                refine hK _ _ ⟨fun _ _ => kp_, ?_⟩
                clear hK K
                try simp only [Act.put, List.setIfInBounds_toArray, List.set_cons_zero, List.set_cons_succ]
                try clear hww_43
                refine stepK (i := 8) (L := #[true, true, true, true, true, true, true, true, true, false, false, false, false, true, true, false, false, false]) rfl (by rfl) (by kernel_rfl) (by rfl) (fun K hK => ?_)
                go_simp
                go_at_call 80
                refine (middle_any w_43 a.C O.C (Xa.more (Nat.le_refl _) (by omega)) (Xb.more (Nat.le_refl _) (by omega)) tT2 (dnM a 2) (dnM b 2) (iA.out 2 (by decide)) ib.out (mA.out 2 (by decide)) (mB.out 2 (by decide)) r1 d1 q1 H1.out).mono ?_
                rintro e' w_44 ⟨M, D, rfl, hB, iM, iD, IM, ID⟩
                replace iM := Lib.hid iM
                replace iD := Lib.hid iD
                replace kp_ := Keeps.on kp_ (by omega) hB
                have lw_44 : w_43.heap.size ≤ w_44.heap.size := hB.size
                replace hV13 := (hB.block _ (lt_of_heap hV13)).trans hV13
                replace hV14 := (hB.block _ (lt_of_heap hV14)).trans hV14
                replace Xa := Ints.below Xa hB (by omega)
                replace Xb := Ints.below Xb hB (by omega)
                replace tT2 := tT2.below hB tT2.lt
                replace b_ := b_.trans (hB.mono (by omega))
                clear hB
                refine hK _ _ ⟨fun _ _ => kp_, ?_⟩
                clear hK K
                try simp only [Act.put, List.setIfInBounds_toArray, List.set_cons_zero, List.set_cons_succ]
                refine pureE (i := 9) (L := #[true, true, true, true, true, true, true, true, true, true, false, false, false, true, true, false, false, false]) (v := ?_) rfl (by rfl) (by kernel_rfl) (by kernel_rfl) (by kernel_rfl) (fun _ _ _ h => h) (by rfl) ?hy30 ?rest30
                case hy30 => intro w; go_simp; (try with_reducible rfl)
                try simp only [Act.put, List.setIfInBounds_toArray, List.set_cons_zero, List.set_cons_succ]
                refine pureE (i := 10) (L := #[true, true, true, true, true, true, true, true, true, true, true, false, false, true, true, false, false, false]) (v := ?_) rfl (by rfl) (by kernel_rfl) (by kernel_rfl) (by kernel_rfl) (fun _ _ _ h => h) (by rfl) ?hy31 ?rest31
                case hy31 => intro w; go_simp; (try with_reducible rfl)
                try simp only [Act.put, List.setIfInBounds_toArray, List.set_cons_zero, List.set_cons_succ]
                refine pureE (i := 11) (L := #[true, true, true, true, true, true, true, true, true, true, true, true, false, true, true, false, false, false]) (v := ?_) rfl (by rfl) (by kernel_rfl) (by kernel_rfl) (by kernel_rfl) (fun _ _ _ h => h) (by rfl) ?hy32 ?rest32
                case hy32 => intro w; go_simp; (try with_reducible rfl)
                try simp only [Act.put, List.setIfInBounds_toArray, List.set_cons_zero, List.set_cons_succ]
                refine pureE (i := 12) (L := #[true, true, true, true, true, true, true, true, true, true, true, true, true, true, true, false, false, false]) (v := ?_) rfl (by rfl) (by kernel_rfl) (by kernel_rfl) (by kernel_rfl) (fun _ _ _ h => h) (by rfl) ?hy33 ?rest33
                case hy33 => intro w; go_simp; (try with_reducible rfl)
                try simp only [Act.put, List.setIfInBounds_toArray, List.set_cons_zero, List.set_cons_succ]
                obtain ⟨⟨z0, z1, z2⟩, z3, z4, z5⟩ := boxD hV13
                refine stepK (i := 15) (L := #[true, true, true, true, true, true, true, true, true, true, true, true, true, true, true, true, false, false]) rfl (by rfl) (by kernel_rfl) (by rfl) (fun K hK => ?_)
                go_simp
                have k_ : Keeps wr (((w_44.setCell ⟨w_18.heap.size, 0, none⟩ (.bool M.s)).setCell ⟨w_18.heap.size, 1, none⟩ (.slice M.A M.n M.c)).setCell ⟨w_18.heap.size, 2, none⟩ (.int .i64 M.e)) := fun p hp => (box_far (by omega) _ _ _).trans (kp_ p hp)
                have x_ := box_put hV13 (.bool M.s) (.slice M.A M.n M.c) (.int .i64 M.e)
                have hb_ := below_put b_ (g := w_18.heap.size) (by omega) (.bool M.s) (.slice M.A M.n M.c) (.int .i64 M.e)
                have hs_ := size_put (w := w_44) (g := w_18.heap.size) (.bool M.s) (.slice M.A M.n M.c) (.int .i64 M.e)
                have hf_ : ∀ j, j ≠ w_18.heap.size → (((w_44.setCell ⟨w_18.heap.size, 0, none⟩ (.bool M.s)).setCell ⟨w_18.heap.size, 1, none⟩ (.slice M.A M.n M.c)).setCell ⟨w_18.heap.size, 2, none⟩ (.int .i64 M.e)).heap[j]? = w_44.heap[j]? := fun j hj => box_far (Ne.symm hj) _ _ _
                refine hK _ _ ⟨fun _ _ => k_, ?_⟩
                clear hK K z0 z1 z2 z3 z4 z5
                try simp only [Act.put, List.setIfInBounds_toArray, List.set_cons_zero, List.set_cons_succ]
                generalize ((w_44.setCell ⟨w_18.heap.size, 0, none⟩ (.bool M.s)).setCell ⟨w_18.heap.size, 1, none⟩ (.slice M.A M.n M.c)).setCell ⟨w_18.heap.size, 2, none⟩ (.int .i64 M.e) = w_45 at *
                have lw_45 : w_44.heap.size ≤ w_45.heap.size := Nat.le_of_eq hs_.symm
                have l2w_45 : w_45.heap.size ≤ w_44.heap.size := Nat.le_of_eq hs_
                clear hs_ hV13
                have hV13 := x_
                replace kp_ := k_
                replace b_ := hb_
                clear x_ k_ hb_
                replace hV14 := (hf_ _ (by omega)).trans hV14
                replace IM := ints_rng IM (w' := w_45) (fun b h1 h2 => hf_ b (by omega))
                replace ID := ints_rng ID (w' := w_45) (fun b h1 h2 => hf_ b (by omega))
                clear hf_
                obtain ⟨⟨z0, z1, z2⟩, z3, z4, z5⟩ := boxD hV14
                refine stepK (i := 16) (L := #[true, true, true, true, true, true, true, true, true, true, true, true, true, true, true, true, true, false]) rfl (by rfl) (by kernel_rfl) (by rfl) (fun K hK => ?_)
                go_simp
                have k_ : Keeps wr (((w_45.setCell ⟨w_36.heap.size, 0, none⟩ (.bool D.s)).setCell ⟨w_36.heap.size, 1, none⟩ (.slice D.A D.n D.c)).setCell ⟨w_36.heap.size, 2, none⟩ (.int .i64 D.e)) := fun p hp => (box_far (by omega) _ _ _).trans (kp_ p hp)
                have x_ := box_put hV14 (.bool D.s) (.slice D.A D.n D.c) (.int .i64 D.e)
                have hb_ := below_put b_ (g := w_36.heap.size) (by omega) (.bool D.s) (.slice D.A D.n D.c) (.int .i64 D.e)
                have hs_ := size_put (w := w_45) (g := w_36.heap.size) (.bool D.s) (.slice D.A D.n D.c) (.int .i64 D.e)
                have hf_ : ∀ j, j ≠ w_36.heap.size → (((w_45.setCell ⟨w_36.heap.size, 0, none⟩ (.bool D.s)).setCell ⟨w_36.heap.size, 1, none⟩ (.slice D.A D.n D.c)).setCell ⟨w_36.heap.size, 2, none⟩ (.int .i64 D.e)).heap[j]? = w_45.heap[j]? := fun j hj => box_far (Ne.symm hj) _ _ _
                refine hK _ _ ⟨fun _ _ => k_, ?_⟩
                clear hK K z0 z1 z2 z3 z4 z5
                try simp only [Act.put, List.setIfInBounds_toArray, List.set_cons_zero, List.set_cons_succ]
                generalize ((w_45.setCell ⟨w_36.heap.size, 0, none⟩ (.bool D.s)).setCell ⟨w_36.heap.size, 1, none⟩ (.slice D.A D.n D.c)).setCell ⟨w_36.heap.size, 2, none⟩ (.int .i64 D.e) = w_46 at *
                have lw_46 : w_45.heap.size ≤ w_46.heap.size := Nat.le_of_eq hs_.symm
                have l2w_46 : w_46.heap.size ≤ w_45.heap.size := Nat.le_of_eq hs_
                clear hs_ hV14
                have hV14 := x_
                replace kp_ := k_
                replace b_ := hb_
                clear x_ k_ hb_
                replace hV13 := (hf_ _ (by omega)).trans hV13
                replace IM := ints_rng IM (w' := w_46) (fun b h1 h2 => hf_ b (by omega))
                replace ID := ints_rng ID (w' := w_46) (fun b h1 h2 => hf_ b (by omega))
                clear hf_
                refine pureE (i := 17) (L := #[true, true, true, true, true, true, true, true, true, true, true, true, true, true, true, true, true, true]) (v := ?_) rfl (by rfl) (by kernel_rfl) (by kernel_rfl) (by kernel_rfl) (fun _ _ _ h => h) (by rfl) ?hy36 ?rest36
                case hy36 => intro w; go_simp; (try with_reducible rfl)
                try simp only [Act.put, List.setIfInBounds_toArray, List.set_cons_zero, List.set_cons_succ]
                refine doneE (by kernel_rfl) ?_ _
                go_wp2_with fail
                go_meet
                exact ⟨w_18.heap.size, w_36.heap.size, M, D, rfl, rfl, rfl, by omega, by omega, hV13, hV14, b_, Lib.hid ⟨iM.out, iD.out⟩, IM.more (by omega) (by omega), ID.more (by omega) (by omega)⟩
            case o_24 =>
              
              go_simp
              have hB := (Below.refl w_18.heap.size w_18).alloc (Nat.le_refl _) (.cells #[.bool false, .slice none 0 0, .int .i64 0] 24)
              have hV14 := heap_alloc_last w_18 (.cells #[.bool false, .slice none 0 0, .int .i64 0] 24)
              have mw_47 : w_18.heap.size < (w_18.alloc (.cells #[.bool false, .slice none 0 0, .int .i64 0] 24)).heap.size := by simp
              generalize hww_47 : w_18.alloc (.cells #[.bool false, .slice none 0 0, .int .i64 0] 24) = w_47 at *
              replace kp_ := Keeps.on kp_ (by omega) hB
              have lw_47 : w_18.heap.size ≤ w_47.heap.size := hB.size
              replace Xa := Ints.below Xa hB (by omega)
              replace Xb := Ints.below Xb hB (by omega)
              replace tT2 := tT2.below hB tT2.lt
              replace b_ := b_.trans (hB.mono (by omega))
              clear hB
              refine hK _ _ ⟨fun _ _ => kp_, ?_⟩
              clear hK K
              try simp only [Act.put, List.setIfInBounds_toArray, List.set_cons_zero, List.set_cons_succ]
              try clear hww_47
              refine stepK2 (i := 8) (j := 13) (Li := #[true, true, true, true, true, true, true, true, true, false, false, false, false, false, true, false, false, false]) (Lj := #[true, true, true, true, true, true, true, true, false, false, false, false, false, true, true, false, false, false]) rfl rfl (by rfl) (by rfl) (by kernel_rfl) (by rfl) (by rfl) (fun K hK => ?o_48) (fun K hK => ?o_49)
              case o_48 =>
                
                go_simp
                go_at_call 80
                refine (middle_any w_47 a.C O.C (Xa.more (Nat.le_refl _) (by omega)) (Xb.more (Nat.le_refl _) (by omega)) tT2 (dnM a 2) (dnM b 2) (iA.out 2 (by decide)) ib.out (mA.out 2 (by decide)) (mB.out 2 (by decide)) r1 d1 q1 H1.out).mono ?_
                rintro e' w_50 ⟨M, D, rfl, hB, iM, iD, IM, ID⟩
                replace iM := Lib.hid iM
                replace iD := Lib.hid iD
                replace kp_ := Keeps.on kp_ (by omega) hB
                have lw_50 : w_47.heap.size ≤ w_50.heap.size := hB.size
                replace hV14 := (hB.block _ (lt_of_heap hV14)).trans hV14
                replace Xa := Ints.below Xa hB (by omega)
                replace Xb := Ints.below Xb hB (by omega)
                replace tT2 := tT2.below hB tT2.lt
                replace b_ := b_.trans (hB.mono (by omega))
                clear hB
                refine hK _ _ ⟨fun _ _ => kp_, ?_⟩
                clear hK K
                try simp only [Act.put, List.setIfInBounds_toArray, List.set_cons_zero, List.set_cons_succ]
                refine pureE (i := 9) (L := #[true, true, true, true, true, true, true, true, true, true, false, false, false, false, true, false, false, false]) (v := ?_) rfl (by rfl) (by kernel_rfl) (by kernel_rfl) (by kernel_rfl) (fun _ _ _ h => h) (by rfl) ?hy37 ?rest37
                case hy37 => intro w; go_simp; (try with_reducible rfl)
                try simp only [Act.put, List.setIfInBounds_toArray, List.set_cons_zero, List.set_cons_succ]
                refine pureE (i := 10) (L := #[true, true, true, true, true, true, true, true, true, true, true, false, false, false, true, false, false, false]) (v := ?_) rfl (by rfl) (by kernel_rfl) (by kernel_rfl) (by kernel_rfl) (fun _ _ _ h => h) (by rfl) ?hy38 ?rest38
                case hy38 => intro w; go_simp; (try with_reducible rfl)
                try simp only [Act.put, List.setIfInBounds_toArray, List.set_cons_zero, List.set_cons_succ]
                refine pureE (i := 11) (L := #[true, true, true, true, true, true, true, true, true, true, true, true, false, false, true, false, false, false]) (v := ?_) rfl (by rfl) (by kernel_rfl) (by kernel_rfl) (by kernel_rfl) (fun _ _ _ h => h) (by rfl) ?hy39 ?rest39
                case hy39 => intro w; go_simp; (try with_reducible rfl)
                try simp only [Act.put, List.setIfInBounds_toArray, List.set_cons_zero, List.set_cons_succ]
                refine pureE (i := 12) (L := #[true, true, true, true, true, true, true, true, true, true, true, true, true, false, true, false, false, false]) (v := ?_) rfl (by rfl) (by kernel_rfl) (by kernel_rfl) (by kernel_rfl) (fun _ _ _ h => h) (by rfl) ?hy40 ?rest40
                case hy40 => intro w; go_simp; (try with_reducible rfl)
                try simp only [Act.put, List.setIfInBounds_toArray, List.set_cons_zero, List.set_cons_succ]
                refine stepK (i := 13) (L := #[true, true, true, true, true, true, true, true, true, true, true, true, true, true, true, false, false, false]) rfl (by rfl) (by kernel_rfl) (by rfl) (fun K hK => ?_)
                go_simp
                have hB := (Below.refl w_50.heap.size w_50).alloc (Nat.le_refl _) (.cells #[.bool false, .slice none 0 0, .int .i64 0] 24)
                have hV13 := heap_alloc_last w_50 (.cells #[.bool false, .slice none 0 0, .int .i64 0] 24)
                have mw_51 : w_50.heap.size < (w_50.alloc (.cells #[.bool false, .slice none 0 0, .int .i64 0] 24)).heap.size := by simp
                generalize hww_51 : w_50.alloc (.cells #[.bool false, .slice none 0 0, .int .i64 0] 24) = w_51 at *
                replace kp_ := Keeps.on kp_ (by omega) hB
                have lw_51 : w_50.heap.size ≤ w_51.heap.size := hB.size
                replace hV14 := (hB.block _ (lt_of_heap hV14)).trans hV14
                replace Xa := Ints.below Xa hB (by omega)
                replace Xb := Ints.below Xb hB (by omega)
                replace IM := Ints.below IM hB (by omega)
                replace ID := Ints.below ID hB (by omega)
                replace tT2 := tT2.below hB tT2.lt
                replace b_ := b_.trans (hB.mono (by omega))
                clear hB
                refine hK _ _ ⟨fun _ _ => kp_, ?_⟩
                clear hK K
                try simp only [Act.put, List.setIfInBounds_toArray, List.set_cons_zero, List.set_cons_succ]
                try clear hww_51
                obtain ⟨⟨z0, z1, z2⟩, z3, z4, z5⟩ := boxD hV13
                refine stepK (i := 15) (L := #[true, true, true, true, true, true, true, true, true, true, true, true, true, true, true, true, false, false]) rfl (by rfl) (by kernel_rfl) (by rfl) (fun K hK => ?_)
                go_simp
                have k_ : Keeps wr (((w_51.setCell ⟨w_50.heap.size, 0, none⟩ (.bool M.s)).setCell ⟨w_50.heap.size, 1, none⟩ (.slice M.A M.n M.c)).setCell ⟨w_50.heap.size, 2, none⟩ (.int .i64 M.e)) := fun p hp => (box_far (by omega) _ _ _).trans (kp_ p hp)
                have x_ := box_put hV13 (.bool M.s) (.slice M.A M.n M.c) (.int .i64 M.e)
                have hb_ := below_put b_ (g := w_50.heap.size) (by omega) (.bool M.s) (.slice M.A M.n M.c) (.int .i64 M.e)
                have hs_ := size_put (w := w_51) (g := w_50.heap.size) (.bool M.s) (.slice M.A M.n M.c) (.int .i64 M.e)
                have hf_ : ∀ j, j ≠ w_50.heap.size → (((w_51.setCell ⟨w_50.heap.size, 0, none⟩ (.bool M.s)).setCell ⟨w_50.heap.size, 1, none⟩ (.slice M.A M.n M.c)).setCell ⟨w_50.heap.size, 2, none⟩ (.int .i64 M.e)).heap[j]? = w_51.heap[j]? := fun j hj => box_far (Ne.symm hj) _ _ _
                refine hK _ _ ⟨fun _ _ => k_, ?_⟩
                clear hK K z0 z1 z2 z3 z4 z5
                try simp only [Act.put, List.setIfInBounds_toArray, List.set_cons_zero, List.set_cons_succ]
                generalize ((w_51.setCell ⟨w_50.heap.size, 0, none⟩ (.bool M.s)).setCell ⟨w_50.heap.size, 1, none⟩ (.slice M.A M.n M.c)).setCell ⟨w_50.heap.size, 2, none⟩ (.int .i64 M.e) = w_52 at *
                have lw_52 : w_51.heap.size ≤ w_52.heap.size := Nat.le_of_eq hs_.symm
                have l2w_52 : w_52.heap.size ≤ w_51.heap.size := Nat.le_of_eq hs_
                clear hs_ hV13
                have hV13 := x_
                replace kp_ := k_
                replace b_ := hb_
                clear x_ k_ hb_
                replace hV14 := (hf_ _ (by omega)).trans hV14
                replace IM := ints_rng IM (w' := w_52) (fun b h1 h2 => hf_ b (by omega))
                replace ID := ints_rng ID (w' := w_52) (fun b h1 h2 => hf_ b (by omega))
                clear hf_
                obtain ⟨⟨z0, z1, z2⟩, z3, z4, z5⟩ := boxD hV14
                refine stepK (i := 16) (L := #[true, true, true, true, true, true, true, true, true, true, true, true, true, true, true, true, true, false]) rfl (by rfl) (by kernel_rfl) (by rfl) (fun K hK => ?_)
                go_simp
                have k_ : Keeps wr (((w_52.setCell ⟨w_18.heap.size, 0, none⟩ (.bool D.s)).setCell ⟨w_18.heap.size, 1, none⟩ (.slice D.A D.n D.c)).setCell ⟨w_18.heap.size, 2, none⟩ (.int .i64 D.e)) := fun p hp => (box_far (by omega) _ _ _).trans (kp_ p hp)
                have x_ := box_put hV14 (.bool D.s) (.slice D.A D.n D.c) (.int .i64 D.e)
                have hb_ := below_put b_ (g := w_18.heap.size) (by omega) (.bool D.s) (.slice D.A D.n D.c) (.int .i64 D.e)
                have hs_ := size_put (w := w_52) (g := w_18.heap.size) (.bool D.s) (.slice D.A D.n D.c) (.int .i64 D.e)
                have hf_ : ∀ j, j ≠ w_18.heap.size → (((w_52.setCell ⟨w_18.heap.size, 0, none⟩ (.bool D.s)).setCell ⟨w_18.heap.size, 1, none⟩ (.slice D.A D.n D.c)).setCell ⟨w_18.heap.size, 2, none⟩ (.int .i64 D.e)).heap[j]? = w_52.heap[j]? := fun j hj => box_far (Ne.symm hj) _ _ _
                refine hK _ _ ⟨fun _ _ => k_, ?_⟩
                clear hK K z0 z1 z2 z3 z4 z5
                try simp only [Act.put, List.setIfInBounds_toArray, List.set_cons_zero, List.set_cons_succ]
                generalize ((w_52.setCell ⟨w_18.heap.size, 0, none⟩ (.bool D.s)).setCell ⟨w_18.heap.size, 1, none⟩ (.slice D.A D.n D.c)).setCell ⟨w_18.heap.size, 2, none⟩ (.int .i64 D.e) = w_53 at *
                have lw_53 : w_52.heap.size ≤ w_53.heap.size := Nat.le_of_eq hs_.symm
                have l2w_53 : w_53.heap.size ≤ w_52.heap.size := Nat.le_of_eq hs_
                clear hs_ hV14
                have hV14 := x_
                replace kp_ := k_
                replace b_ := hb_
                clear x_ k_ hb_
                replace hV13 := (hf_ _ (by omega)).trans hV13
                replace IM := ints_rng IM (w' := w_53) (fun b h1 h2 => hf_ b (by omega))
                replace ID := ints_rng ID (w' := w_53) (fun b h1 h2 => hf_ b (by omega))
                clear hf_
                refine pureE (i := 17) (L := #[true, true, true, true, true, true, true, true, true, true, true, true, true, true, true, true, true, true]) (v := ?_) rfl (by rfl) (by kernel_rfl) (by kernel_rfl) (by kernel_rfl) (fun _ _ _ h => h) (by rfl) ?hy44 ?rest44
                case hy44 => intro w; go_simp; (try with_reducible rfl)
                try simp only [Act.put, List.setIfInBounds_toArray, List.set_cons_zero, List.set_cons_succ]
                refine doneE (by kernel_rfl) ?_ _
                go_wp2_with fail
                go_meet
                exact ⟨w_50.heap.size, w_18.heap.size, M, D, rfl, rfl, rfl, by omega, by omega, hV13, hV14, b_, Lib.hid ⟨iM.out, iD.out⟩, IM.more (by omega) (by omega), ID.more (by omega) (by omega)⟩
              case o_49 =>
                
                go_simp
                have hB := (Below.refl w_47.heap.size w_47).alloc (Nat.le_refl _) (.cells #[.bool false, .slice none 0 0, .int .i64 0] 24)
                have hV13 := heap_alloc_last w_47 (.cells #[.bool false, .slice none 0 0, .int .i64 0] 24)
                have mw_54 : w_47.heap.size < (w_47.alloc (.cells #[.bool false, .slice none 0 0, .int .i64 0] 24)).heap.size := by simp
                generalize hww_54 : w_47.alloc (.cells #[.bool false, .slice none 0 0, .int .i64 0] 24) = w_54 at *
                replace kp_ := Keeps.on kp_ (by omega) hB
                have lw_54 : w_47.heap.size ≤ w_54.heap.size := hB.size
                replace hV14 := (hB.block _ (lt_of_heap hV14)).trans hV14
                replace Xa := Ints.below Xa hB (by omega)
                replace Xb := Ints.below Xb hB (by omega)
                replace tT2 := tT2.below hB tT2.lt
                replace b_ := b_.trans (hB.mono (by omega))
                clear hB
                refine hK _ _ ⟨fun _ _ => kp_, ?_⟩
                clear hK K
                try simp only [Act.put, List.setIfInBounds_toArray, List.set_cons_zero, List.set_cons_succ]
                try clear hww_54
                refine stepK (i := 8) (L := #[true, true, true, true, true, true, true, true, true, false, false, false, false, true, true, false, false, false]) rfl (by rfl) (by kernel_rfl) (by rfl) (fun K hK => ?_)
                go_simp
                go_at_call 80
                refine (middle_any w_54 a.C O.C (Xa.more (Nat.le_refl _) (by omega)) (Xb.more (Nat.le_refl _) (by omega)) tT2 (dnM a 2) (dnM b 2) (iA.out 2 (by decide)) ib.out (mA.out 2 (by decide)) (mB.out 2 (by decide)) r1 d1 q1 H1.out).mono ?_
                rintro e' w_55 ⟨M, D, rfl, hB, iM, iD, IM, ID⟩
                replace iM := Lib.hid iM
                replace iD := Lib.hid iD
                replace kp_ := Keeps.on kp_ (by omega) hB
                have lw_55 : w_54.heap.size ≤ w_55.heap.size := hB.size
                replace hV14 := (hB.block _ (lt_of_heap hV14)).trans hV14
                replace hV13 := (hB.block _ (lt_of_heap hV13)).trans hV13
                replace Xa := Ints.below Xa hB (by omega)
                replace Xb := Ints.below Xb hB (by omega)
                replace tT2 := tT2.below hB tT2.lt
                replace b_ := b_.trans (hB.mono (by omega))
                clear hB
                refine hK _ _ ⟨fun _ _ => kp_, ?_⟩
                clear hK K
                try simp only [Act.put, List.setIfInBounds_toArray, List.set_cons_zero, List.set_cons_succ]
                refine pureE (i := 9) (L := #[true, true, true, true, true, true, true, true, true, true, false, false, false, true, true, false, false, false]) (v := ?_) rfl (by rfl) (by kernel_rfl) (by kernel_rfl) (by kernel_rfl) (fun _ _ _ h => h) (by rfl) ?hy46 ?rest46
                case hy46 => intro w; go_simp; (try with_reducible rfl)
                try simp only [Act.put, List.setIfInBounds_toArray, List.set_cons_zero, List.set_cons_succ]
                refine pureE (i := 10) (L := #[true, true, true, true, true, true, true, true, true, true, true, false, false, true, true, false, false, false]) (v := ?_) rfl (by rfl) (by kernel_rfl) (by kernel_rfl) (by kernel_rfl) (fun _ _ _ h => h) (by rfl) ?hy47 ?rest47
                case hy47 => intro w; go_simp; (try with_reducible rfl)
                try simp only [Act.put, List.setIfInBounds_toArray, List.set_cons_zero, List.set_cons_succ]
                refine pureE (i := 11) (L := #[true, true, true, true, true, true, true, true, true, true, true, true, false, true, true, false, false, false]) (v := ?_) rfl (by rfl) (by kernel_rfl) (by kernel_rfl) (by kernel_rfl) (fun _ _ _ h => h) (by rfl) ?hy48 ?rest48
                case hy48 => intro w; go_simp; (try with_reducible rfl)
                try simp only [Act.put, List.setIfInBounds_toArray, List.set_cons_zero, List.set_cons_succ]
                refine pureE (i := 12) (L := #[true, true, true, true, true, true, true, true, true, true, true, true, true, true, true, false, false, false]) (v := ?_) rfl (by rfl) (by kernel_rfl) (by kernel_rfl) (by kernel_rfl) (fun _ _ _ h => h) (by rfl) ?hy49 ?rest49
                case hy49 => intro w; go_simp; (try with_reducible rfl)
                try simp only [Act.put, List.setIfInBounds_toArray, List.set_cons_zero, List.set_cons_succ]
                obtain ⟨⟨z0, z1, z2⟩, z3, z4, z5⟩ := boxD hV13
                refine stepK (i := 15) (L := #[true, true, true, true, true, true, true, true, true, true, true, true, true, true, true, true, false, false]) rfl (by rfl) (by kernel_rfl) (by rfl) (fun K hK => ?_)
                go_simp
                have k_ : Keeps wr (((w_55.setCell ⟨w_47.heap.size, 0, none⟩ (.bool M.s)).setCell ⟨w_47.heap.size, 1, none⟩ (.slice M.A M.n M.c)).setCell ⟨w_47.heap.size, 2, none⟩ (.int .i64 M.e)) := fun p hp => (box_far (by omega) _ _ _).trans (kp_ p hp)
                have x_ := box_put hV13 (.bool M.s) (.slice M.A M.n M.c) (.int .i64 M.e)
                have hb_ := below_put b_ (g := w_47.heap.size) (by omega) (.bool M.s) (.slice M.A M.n M.c) (.int .i64 M.e)
                have hs_ := size_put (w := w_55) (g := w_47.heap.size) (.bool M.s) (.slice M.A M.n M.c) (.int .i64 M.e)
                have hf_ : ∀ j, j ≠ w_47.heap.size → (((w_55.setCell ⟨w_47.heap.size, 0, none⟩ (.bool M.s)).setCell ⟨w_47.heap.size, 1, none⟩ (.slice M.A M.n M.c)).setCell ⟨w_47.heap.size, 2, none⟩ (.int .i64 M.e)).heap[j]? = w_55.heap[j]? := fun j hj => box_far (Ne.symm hj) _ _ _
                refine hK _ _ ⟨fun _ _ => k_, ?_⟩
                clear hK K z0 z1 z2 z3 z4 z5
                try simp only [Act.put, List.setIfInBounds_toArray, List.set_cons_zero, List.set_cons_succ]
                generalize ((w_55.setCell ⟨w_47.heap.size, 0, none⟩ (.bool M.s)).setCell ⟨w_47.heap.size, 1, none⟩ (.slice M.A M.n M.c)).setCell ⟨w_47.heap.size, 2, none⟩ (.int .i64 M.e) = w_56 at *
                have lw_56 : w_55.heap.size ≤ w_56.heap.size := Nat.le_of_eq hs_.symm
                have l2w_56 : w_56.heap.size ≤ w_55.heap.size := Nat.le_of_eq hs_
                clear hs_ hV13
                have hV13 := x_
                replace kp_ := k_
                replace b_ := hb_
                clear x_ k_ hb_
                replace hV14 := (hf_ _ (by omega)).trans hV14
                replace IM := ints_rng IM (w' := w_56) (fun b h1 h2 => hf_ b (by omega))
                replace ID := ints_rng ID (w' := w_56) (fun b h1 h2 => hf_ b (by omega))
                clear hf_
                obtain ⟨⟨z0, z1, z2⟩, z3, z4, z5⟩ := boxD hV14
                refine stepK (i := 16) (L := #[true, true, true, true, true, true, true, true, true, true, true, true, true, true, true, true, true, false]) rfl (by rfl) (by kernel_rfl) (by rfl) (fun K hK => ?_)
                go_simp
                have k_ : Keeps wr (((w_56.setCell ⟨w_18.heap.size, 0, none⟩ (.bool D.s)).setCell ⟨w_18.heap.size, 1, none⟩ (.slice D.A D.n D.c)).setCell ⟨w_18.heap.size, 2, none⟩ (.int .i64 D.e)) := fun p hp => (box_far (by omega) _ _ _).trans (kp_ p hp)
                have x_ := box_put hV14 (.bool D.s) (.slice D.A D.n D.c) (.int .i64 D.e)
                have hb_ := below_put b_ (g := w_18.heap.size) (by omega) (.bool D.s) (.slice D.A D.n D.c) (.int .i64 D.e)
                have hs_ := size_put (w := w_56) (g := w_18.heap.size) (.bool D.s) (.slice D.A D.n D.c) (.int .i64 D.e)
                have hf_ : ∀ j, j ≠ w_18.heap.size → (((w_56.setCell ⟨w_18.heap.size, 0, none⟩ (.bool D.s)).setCell ⟨w_18.heap.size, 1, none⟩ (.slice D.A D.n D.c)).setCell ⟨w_18.heap.size, 2, none⟩ (.int .i64 D.e)).heap[j]? = w_56.heap[j]? := fun j hj => box_far (Ne.symm hj) _ _ _
                refine hK _ _ ⟨fun _ _ => k_, ?_⟩
                clear hK K z0 z1 z2 z3 z4 z5
                try simp only [Act.put, List.setIfInBounds_toArray, List.set_cons_zero, List.set_cons_succ]
                generalize ((w_56.setCell ⟨w_18.heap.size, 0, none⟩ (.bool D.s)).setCell ⟨w_18.heap.size, 1, none⟩ (.slice D.A D.n D.c)).setCell ⟨w_18.heap.size, 2, none⟩ (.int .i64 D.e) = w_57 at *
                have lw_57 : w_56.heap.size ≤ w_57.heap.size := Nat.le_of_eq hs_.symm
                have l2w_57 : w_57.heap.size ≤ w_56.heap.size := Nat.le_of_eq hs_
                clear hs_ hV14
                have hV14 := x_
                replace kp_ := k_
                replace b_ := hb_
                clear x_ k_ hb_
                replace hV13 := (hf_ _ (by omega)).trans hV13
                replace IM := ints_rng IM (w' := w_57) (fun b h1 h2 => hf_ b (by omega))
                replace ID := ints_rng ID (w' := w_57) (fun b h1 h2 => hf_ b (by omega))
                clear hf_
                refine pureE (i := 17) (L := #[true, true, true, true, true, true, true, true, true, true, true, true, true, true, true, true, true, true]) (v := ?_) rfl (by rfl) (by kernel_rfl) (by kernel_rfl) (by kernel_rfl) (fun _ _ _ h => h) (by rfl) ?hy52 ?rest52
                case hy52 => intro w; go_simp; (try with_reducible rfl)
                try simp only [Act.put, List.setIfInBounds_toArray, List.set_cons_zero, List.set_cons_succ]
                refine doneE (by kernel_rfl) ?_ _
                go_wp2_with fail
                go_meet
                exact ⟨w_47.heap.size, w_18.heap.size, M, D, rfl, rfl, rfl, by omega, by omega, hV13, hV14, b_, Lib.hid ⟨iM.out, iD.out⟩, IM.more (by omega) (by omega), ID.more (by omega) (by omega)⟩
          case rest =>
            obtain ⟨g11, g12, M, D, rfl, rfl, rfl, lg11, lg12, X11, X12, hB, hI, IM, ID⟩ := hcut
            obtain ⟨w2, hwc⟩ : ∃ W : World, W = wc := ⟨_, rfl⟩
            subst hwc
            have lw2 : wr.heap.size ≤ w2.heap.size := hB.size
            replace hMa := box_on hMa hB (lt_of_heap hMa)
            replace hO := box_on hO hB (lt_of_heap hO)
            replace hY := box_on hY hB (lt_of_heap hY)
            replace hWas := (hB.block _ (lt_of_heap hWas)).trans hWas
            replace hTo := (hB.block _ (lt_of_heap hTo)).trans hTo
            have hBW := hBL.trans (hB.mono hBL.size)
            have lw0 : w.heap.size ≤ wr.heap.size := hBL.size
            have lg11' : g11 < w2.heap.size := lt_of_heap X11
            have lg12' : g12 < w2.heap.size := lt_of_heap X12
            clear Ra Rb tT
            obtain ⟨hi0, hhi0⟩ : ∃ h, h = w2.heap.size := ⟨_, rfl⟩
            have lh1 : hi0 ≤ w2.heap.size := by omega
            have lh2 : w2.heap.size ≤ hi0 := by omega
            rw [← hhi0] at IM ID
            clear hhi0
            rcases c1.out with rfl | rfl
            rotate_left
            · skip
              have hcode := HR2.out
              rw [if_neg (by simp)] at hcode
              injection hcode with h1 h2
              injection h1 with h1 h3
              subst h1 h2 h3
              have hZ := hO
              clear hO
              obtain ⟨⟨q_58_0, q_58_1, q_58_2, q_58_3, q_58_4, q_58_5, q_58_6, q_58_7, q_58_8, q_58_9, q_58_10, q_58_11⟩, q_58f⟩ := MBox.cells hZ
              obtain ⟨⟨q_59_0, q_59_1, q_59_2, q_59_3, q_59_4, q_59_5, q_59_6, q_59_7, q_59_8, q_59_9, q_59_10, q_59_11⟩, q_59f⟩ := MBox.cells hY
              go_wp2
              obtain ⟨U1, M1, hc1, hM1, hX1, hb1, hf1, _, _⟩ := zero_to hZ
              rw [hc1]
              obtain ⟨U, M, hc2, hMe, hX2, hb2, hf2, _, _⟩ := zero_to (show MBox U1 (w.heap.size + 1 + 1 + 1) _ from (hf1 _ (by omega)).trans hY)
              rw [hc2]
              replace hX1 : MBox U (w.heap.size + 1 + 1) M := by rw [hMe, ← hM1]; exact (hf2 _ (by omega)).trans hX1
              have hQ := hb2 _ _ (hb1 _ _ hBW (by omega)) (by omega)
              clear q_58_0 q_58_1 q_58_2 q_58_3 q_58_4 q_58_5 q_58_6 q_58_7 q_58_8 q_58_9 q_58_10 q_58_11 q_58f q_59_0 q_59_1 q_59_2 q_59_3 q_59_4 q_59_5 q_59_6 q_59_7 q_59_8 q_59_9 q_59_10 q_59_11 q_59f
              clear hc1 hc2
              obtain ⟨⟨k0, k1, k2, k3, k4, k5, k6, k7, k8, k9, k10, k11⟩, kf⟩ := MBox.cells hX1
              obtain ⟨⟨y0, y1, y2, y3, y4, y5, y6, y7, y8, y9, y10, y11⟩, yf⟩ := MBox.cells hX2
              refine bodyPost_ret (v := .tuple #[.agg #[.bool M.S.s, .slice M.S.A M.S.n M.S.c, .int .i64 M.S.e, .bool M.W.s, .slice M.W.A M.W.n M.W.c, .int .i64 M.W.e, .bool M.C.s, .slice M.C.A M.C.n M.C.c, .int .i64 M.C.e, .bool M.A.s, .slice M.A.A M.A.n M.A.c, .int .i64 M.A.e], .agg #[.bool M.S.s, .slice M.S.A M.S.n M.S.c, .int .i64 M.S.e, .bool M.W.s, .slice M.W.A M.W.n M.W.c, .int .i64 M.W.e, .bool M.C.s, .slice M.C.A M.C.n M.C.c, .int .i64 M.C.e, .bool M.A.s, .slice M.A.A M.A.n M.A.c, .int .i64 M.A.e], .int .i64 10]) (by simp [results, Tryd.results43, go_sem, k0, k1, k2, k3, k4, k5, k6, k7, k8, k9, k10, k11, y0, y1, y2, y3, y4, y5, y6, y7, y8, y9, y10, y11]) rfl ⟨M, M, rfl, hQ, ?_⟩
              rw [hMe]
              exact ⟨IsM.zero, IsM.zero, w.heap.size, Nat.le_refl _, hQ.size, ZM_rows .., ZM_rows ..⟩
            · skip
              go_upto_region 11 with fail
              refine region_E (fun W' : World => W'.heap[g11]? = some (.cells #[.bool M.s, .slice M.A M.n M.c, .int .i64 M.e] 24 (0, 0)) ∧ W'.heap[g12]? = some (.cells #[.bool D.s, .slice D.A D.n D.c, .int .i64 D.e] 24 (0, 0)) ∧ W'.heap[w_15.heap.size + 1]? = some (.cells #[.pointer (some ⟨w.heap.size + 1 + 1 + 1, 6, none⟩), .pointer (some ⟨w.heap.size + 1 + 1 + 1, 9, none⟩)] 102 (0, 0))) [] (m := 10) (L := #[false, false, false, false, false, false, false, false, false, false]) (by kernel_rfl) (by rfl) (by rfl) ?_
              have hS0 : w2.drew.heap[g11]? = some (.cells #[.bool M.s, .slice M.A M.n M.c, .int .i64 M.e] 24 (0, 0)) ∧ w2.drew.heap[g12]? = some (.cells #[.bool D.s, .slice D.A D.n D.c, .int .i64 D.e] 24 (0, 0)) ∧ w2.drew.heap[w_15.heap.size + 1]? = some (.cells #[.pointer (some ⟨w.heap.size + 1 + 1 + 1, 6, none⟩), .pointer (some ⟨w.heap.size + 1 + 1 + 1, 9, none⟩)] 102 (0, 0)) := ⟨X11, X12, hTo⟩
              refine pureE (i := 0) (L := #[true, false, false, false, false, false, false, false, false, false]) (v := ?_) rfl (by rfl) (by kernel_rfl) (by kernel_rfl) (by kernel_rfl) (fun _ _ _ h => h) (by rfl) ?hy53 ?rest53
              case hy53 => intro w; go_simp; (try with_reducible rfl)
              try simp only [Act.put, List.setIfInBounds_toArray, List.set_cons_zero, List.set_cons_succ]
              refine pureE (i := 1) (L := #[true, true, false, false, false, false, false, false, false, false]) (v := ?_) rfl (by rfl) (by kernel_rfl) (by kernel_rfl) (by kernel_rfl) (fun _ _ _ h => h) (by rfl) ?hy54 ?rest54
              case hy54 => intro w; go_simp; (try with_reducible rfl)
              try simp only [Act.put, List.setIfInBounds_toArray, List.set_cons_zero, List.set_cons_succ]
              refine pureE (i := 2) (L := #[true, true, true, false, false, false, false, false, false, false]) (v := ?_) rfl (by rfl) (by kernel_rfl) (by kernel_rfl) (by kernel_rfl) (fun _ _ _ h => h) (by rfl) ?hy55 ?rest55
              case hy55 => intro w; go_simp; (try with_reducible rfl)
              try simp only [Act.put, List.setIfInBounds_toArray, List.set_cons_zero, List.set_cons_succ]
              refine readE (i := 3) (L := #[true, true, true, true, false, false, false, false, false, false]) (v := .pointer (some ⟨w.heap.size + 1 + 1 + 1, 6, none⟩)) rfl (by rfl) (by kernel_rfl) (by kernel_rfl) (by kernel_rfl) (fun _ _ _ h => h) (by assumption) (by rfl) ?ya0_ ?za0_
              case ya0_ =>
                intro w' h1
                have c_ := cell_of_row w' _ 0 _ _ _ h1.2.2
                go_simp
              try simp only [Act.put, List.setIfInBounds_toArray, List.set_cons_zero, List.set_cons_succ]
              refine readE (i := 4) (L := #[true, true, true, true, true, false, false, false, false, false]) (v := .agg #[.bool M.s, .slice M.A M.n M.c, .int .i64 M.e]) rfl (by rfl) (by kernel_rfl) (by kernel_rfl) (by kernel_rfl) (fun _ _ _ h => h) (by assumption) (by rfl) ?yb0_ ?zb0_
              case yb0_ =>
                intro w' h1
                obtain ⟨⟨e0, e1, e2⟩, _⟩ := boxD h1.1
                go_simp
              try simp only [Act.put, List.setIfInBounds_toArray, List.set_cons_zero, List.set_cons_succ]
              refine readE (i := 5) (L := #[true, true, true, true, true, true, false, false, false, false]) (v := .agg #[.bool D.s, .slice D.A D.n D.c, .int .i64 D.e]) rfl (by rfl) (by kernel_rfl) (by kernel_rfl) (by kernel_rfl) (fun _ _ _ h => h) (by assumption) (by rfl) ?yc0_ ?zc0_
              case yc0_ =>
                intro w' h1
                obtain ⟨⟨e0, e1, e2⟩, _⟩ := boxD h1.2.1
                go_simp
              try simp only [Act.put, List.setIfInBounds_toArray, List.set_cons_zero, List.set_cons_succ]
              refine pureE (i := 6) (L := #[true, true, true, true, true, true, true, false, false, false]) (v := ?_) rfl (by rfl) (by kernel_rfl) (by kernel_rfl) (by kernel_rfl) (fun _ _ _ h => h) (by rfl) ?hy59 ?rest59
              case hy59 => intro w; go_simp; (try with_reducible rfl)
              try simp only [Act.put, List.setIfInBounds_toArray, List.set_cons_zero, List.set_cons_succ]
              have hO2 : MBox w2.drew (w.heap.size + 1 + 1) O := hO
              have hY2 : MBox w2.drew (w.heap.size + 1 + 1 + 1) K_ := hY
              have hMa2 : MBox w2.drew w.heap.size a := hMa
              have hWas2 : w2.drew.heap[w_15.heap.size]? = some (.cells #[.pointer (some ⟨w.heap.size, 6, none⟩), .pointer (some ⟨w.heap.size, 9, none⟩)] 102 (0, 0)) := hWas
              have hb2 : Below w.heap.size w w2.drew := hBW.drew
              have hP2 : ∀ j, j < wr.heap.size → w2.drew.heap[j]? = wr.heap[j]? := fun j hj => hB.block j hj
              replace IM : Ints w2.drew wr.heap.size hi0 .u32 M.A M.n M.xs := Ints.drewN IM 1
              replace ID : Ints w2.drew wr.heap.size hi0 .u32 D.A D.n D.xs := Ints.drewN ID 1
              have l3 : w2.heap.size ≤ w2.drew.heap.size := Nat.le_refl _
              have l3' : w2.drew.heap.size ≤ w2.heap.size := Nat.le_refl _
              clear hO hY hMa hWas hTo X11 X12 hBW hB
              generalize w2.drew = w3 at *
              obtain ⟨⟨k0, k1, k2, k3, k4, k5, k6, k7, k8, k9, k10, k11⟩, kf⟩ := MBox.cells hO2
              refine stepK (i := 7) (L := #[true, true, true, true, true, true, true, true, false, false]) rfl (by rfl) (by kernel_rfl) (by rfl) (fun K hK => ?_)
              go_simp
              refine hK _ _ ⟨fun _ h => ⟨(far3 (by omega) _ _ _).trans h.1, (far3 (by omega) _ _ _).trans h.2.1, (far3 (by omega) _ _ _).trans h.2.2⟩, ?_⟩
              clear hK K k0 k1 k2 k3 k4 k5 k6 k7 k8 k9 k10 k11 kf
              try simp only [Act.put, List.setIfInBounds_toArray, List.set_cons_zero, List.set_cons_succ]
              have n_ : MBox (((w3.setCell ⟨w.heap.size + 1 + 1, 6, none⟩ (.bool M.s)).setCell ⟨w.heap.size + 1 + 1, 7, none⟩ (.slice M.A M.n M.c)).setCell ⟨w.heap.size + 1 + 1, 8, none⟩ (.int .i64 M.e)) (w.heap.size + 1 + 1) (O.put 2 M) := MBox.put hO2 (x := 2) (by decide) M
              have hS1 : (((w3.setCell ⟨w.heap.size + 1 + 1, 6, none⟩ (.bool M.s)).setCell ⟨w.heap.size + 1 + 1, 7, none⟩ (.slice M.A M.n M.c)).setCell ⟨w.heap.size + 1 + 1, 8, none⟩ (.int .i64 M.e)).heap[g11]? = some (.cells #[.bool M.s, .slice M.A M.n M.c, .int .i64 M.e] 24 (0, 0)) ∧ (((w3.setCell ⟨w.heap.size + 1 + 1, 6, none⟩ (.bool M.s)).setCell ⟨w.heap.size + 1 + 1, 7, none⟩ (.slice M.A M.n M.c)).setCell ⟨w.heap.size + 1 + 1, 8, none⟩ (.int .i64 M.e)).heap[g12]? = some (.cells #[.bool D.s, .slice D.A D.n D.c, .int .i64 D.e] 24 (0, 0)) ∧ (((w3.setCell ⟨w.heap.size + 1 + 1, 6, none⟩ (.bool M.s)).setCell ⟨w.heap.size + 1 + 1, 7, none⟩ (.slice M.A M.n M.c)).setCell ⟨w.heap.size + 1 + 1, 8, none⟩ (.int .i64 M.e)).heap[w_15.heap.size + 1]? = some (.cells #[.pointer (some ⟨w.heap.size + 1 + 1 + 1, 6, none⟩), .pointer (some ⟨w.heap.size + 1 + 1 + 1, 9, none⟩)] 102 (0, 0)) := ⟨(far3 (by omega) _ _ _).trans hS0.1, (far3 (by omega) _ _ _).trans hS0.2.1, (far3 (by omega) _ _ _).trans hS0.2.2⟩
              have hf_ : ∀ j, j ≠ w.heap.size + 1 + 1 → (((w3.setCell ⟨w.heap.size + 1 + 1, 6, none⟩ (.bool M.s)).setCell ⟨w.heap.size + 1 + 1, 7, none⟩ (.slice M.A M.n M.c)).setCell ⟨w.heap.size + 1 + 1, 8, none⟩ (.int .i64 M.e)).heap[j]? = w3.heap[j]? := fun j hj => far3 hj _ _ _
              have hb_ : Below w.heap.size w (((w3.setCell ⟨w.heap.size + 1 + 1, 6, none⟩ (.bool M.s)).setCell ⟨w.heap.size + 1 + 1, 7, none⟩ (.slice M.A M.n M.c)).setCell ⟨w.heap.size + 1 + 1, 8, none⟩ (.int .i64 M.e)) := below3 hb2 (by omega) _ _ _
              have hs_ : (((w3.setCell ⟨w.heap.size + 1 + 1, 6, none⟩ (.bool M.s)).setCell ⟨w.heap.size + 1 + 1, 7, none⟩ (.slice M.A M.n M.c)).setCell ⟨w.heap.size + 1 + 1, 8, none⟩ (.int .i64 M.e)).heap.size = w3.heap.size := size3 _ _ _
              generalize ((w3.setCell ⟨w.heap.size + 1 + 1, 6, none⟩ (.bool M.s)).setCell ⟨w.heap.size + 1 + 1, 7, none⟩ (.slice M.A M.n M.c)).setCell ⟨w.heap.size + 1 + 1, 8, none⟩ (.int .i64 M.e) = w4 at *
              have lw4 : w3.heap.size ≤ w4.heap.size := Nat.le_of_eq hs_.symm
              have lw4' : w4.heap.size ≤ w3.heap.size := Nat.le_of_eq hs_
              clear hs_ hO2 hS0
              replace hY2 : MBox w4 _ _ := (hf_ _ (by omega)).trans hY2
              replace hMa2 : MBox w4 _ _ := (hf_ _ (by omega)).trans hMa2
              have hO2 := n_
              have hS0 := hS1
              replace hWas2 := (hf_ _ (by omega)).trans hWas2
              replace hb2 := hb_
              replace IM := ints_rng IM (w' := w4) (fun b h1 h2 => hf_ b (by omega))
              replace ID := ints_rng ID (w' := w4) (fun b h1 h2 => hf_ b (by omega))
              replace hP2 : ∀ j, j < wr.heap.size → j ≠ w.heap.size + 1 + 1 → j ≠ w.heap.size + 1 + 1 + 1 → w4.heap[j]? = wr.heap[j]? := fun j hj h1 h2 => (hf_ j h1).trans (hP2 j hj)
              clear n_ hS1 hb_ hf_
              refine pureE (i := 8) (L := #[true, true, true, true, true, true, true, true, true, false]) (v := ?_) rfl (by rfl) (by kernel_rfl) (by kernel_rfl) (by kernel_rfl) (fun _ _ _ h => h) (by rfl) ?hy61 ?rest61
              case hy61 => intro w; go_simp; (try with_reducible rfl)
              try simp only [Act.put, List.setIfInBounds_toArray, List.set_cons_zero, List.set_cons_succ]
              obtain ⟨⟨k0, k1, k2, k3, k4, k5, k6, k7, k8, k9, k10, k11⟩, kf⟩ := MBox.cells hY2
              refine stepK (i := 9) (L := #[true, true, true, true, true, true, true, true, true, true]) rfl (by rfl) (by kernel_rfl) (by rfl) (fun K hK => ?_)
              go_simp
              refine hK _ _ ⟨fun _ h => ⟨(far3 (by omega) _ _ _).trans h.1, (far3 (by omega) _ _ _).trans h.2.1, (far3 (by omega) _ _ _).trans h.2.2⟩, ?_⟩
              clear hK K k0 k1 k2 k3 k4 k5 k6 k7 k8 k9 k10 k11 kf
              try simp only [Act.put, List.setIfInBounds_toArray, List.set_cons_zero, List.set_cons_succ]
              have n_ : MBox (((w4.setCell ⟨w.heap.size + 1 + 1 + 1, 6, none⟩ (.bool D.s)).setCell ⟨w.heap.size + 1 + 1 + 1, 7, none⟩ (.slice D.A D.n D.c)).setCell ⟨w.heap.size + 1 + 1 + 1, 8, none⟩ (.int .i64 D.e)) (w.heap.size + 1 + 1 + 1) (K_.put 2 D) := MBox.put hY2 (x := 2) (by decide) D
              have hS1 : (((w4.setCell ⟨w.heap.size + 1 + 1 + 1, 6, none⟩ (.bool D.s)).setCell ⟨w.heap.size + 1 + 1 + 1, 7, none⟩ (.slice D.A D.n D.c)).setCell ⟨w.heap.size + 1 + 1 + 1, 8, none⟩ (.int .i64 D.e)).heap[g11]? = some (.cells #[.bool M.s, .slice M.A M.n M.c, .int .i64 M.e] 24 (0, 0)) ∧ (((w4.setCell ⟨w.heap.size + 1 + 1 + 1, 6, none⟩ (.bool D.s)).setCell ⟨w.heap.size + 1 + 1 + 1, 7, none⟩ (.slice D.A D.n D.c)).setCell ⟨w.heap.size + 1 + 1 + 1, 8, none⟩ (.int .i64 D.e)).heap[g12]? = some (.cells #[.bool D.s, .slice D.A D.n D.c, .int .i64 D.e] 24 (0, 0)) ∧ (((w4.setCell ⟨w.heap.size + 1 + 1 + 1, 6, none⟩ (.bool D.s)).setCell ⟨w.heap.size + 1 + 1 + 1, 7, none⟩ (.slice D.A D.n D.c)).setCell ⟨w.heap.size + 1 + 1 + 1, 8, none⟩ (.int .i64 D.e)).heap[w_15.heap.size + 1]? = some (.cells #[.pointer (some ⟨w.heap.size + 1 + 1 + 1, 6, none⟩), .pointer (some ⟨w.heap.size + 1 + 1 + 1, 9, none⟩)] 102 (0, 0)) := ⟨(far3 (by omega) _ _ _).trans hS0.1, (far3 (by omega) _ _ _).trans hS0.2.1, (far3 (by omega) _ _ _).trans hS0.2.2⟩
              have hf_ : ∀ j, j ≠ w.heap.size + 1 + 1 + 1 → (((w4.setCell ⟨w.heap.size + 1 + 1 + 1, 6, none⟩ (.bool D.s)).setCell ⟨w.heap.size + 1 + 1 + 1, 7, none⟩ (.slice D.A D.n D.c)).setCell ⟨w.heap.size + 1 + 1 + 1, 8, none⟩ (.int .i64 D.e)).heap[j]? = w4.heap[j]? := fun j hj => far3 hj _ _ _
              have hb_ : Below w.heap.size w (((w4.setCell ⟨w.heap.size + 1 + 1 + 1, 6, none⟩ (.bool D.s)).setCell ⟨w.heap.size + 1 + 1 + 1, 7, none⟩ (.slice D.A D.n D.c)).setCell ⟨w.heap.size + 1 + 1 + 1, 8, none⟩ (.int .i64 D.e)) := below3 hb2 (by omega) _ _ _
              have hs_ : (((w4.setCell ⟨w.heap.size + 1 + 1 + 1, 6, none⟩ (.bool D.s)).setCell ⟨w.heap.size + 1 + 1 + 1, 7, none⟩ (.slice D.A D.n D.c)).setCell ⟨w.heap.size + 1 + 1 + 1, 8, none⟩ (.int .i64 D.e)).heap.size = w4.heap.size := size3 _ _ _
              generalize ((w4.setCell ⟨w.heap.size + 1 + 1 + 1, 6, none⟩ (.bool D.s)).setCell ⟨w.heap.size + 1 + 1 + 1, 7, none⟩ (.slice D.A D.n D.c)).setCell ⟨w.heap.size + 1 + 1 + 1, 8, none⟩ (.int .i64 D.e) = w5 at *
              have lw5 : w4.heap.size ≤ w5.heap.size := Nat.le_of_eq hs_.symm
              have lw5' : w5.heap.size ≤ w4.heap.size := Nat.le_of_eq hs_
              clear hs_ hY2 hS0
              replace hO2 : MBox w5 _ _ := (hf_ _ (by omega)).trans hO2
              replace hMa2 : MBox w5 _ _ := (hf_ _ (by omega)).trans hMa2
              have hY2 := n_
              have hS0 := hS1
              replace hWas2 := (hf_ _ (by omega)).trans hWas2
              replace hb2 := hb_
              replace IM := ints_rng IM (w' := w5) (fun b h1 h2 => hf_ b (by omega))
              replace ID := ints_rng ID (w' := w5) (fun b h1 h2 => hf_ b (by omega))
              replace hP2 : ∀ j, j < wr.heap.size → j ≠ w.heap.size + 1 + 1 → j ≠ w.heap.size + 1 + 1 + 1 → w5.heap[j]? = wr.heap[j]? := fun j hj h1 h2 => (hf_ j h2).trans (hP2 j hj h1 h2)
              clear n_ hS1 hb_ hf_
              refine doneE (by kernel_rfl) ?_ _
              go_wp2
              go_roundw
              case rel => exact ⟨1, O.put 2 M, K_.put 2 D, by first | rfl | (congr 1; omega) | go_num, by decide, hMa2, hO2, hY2, hWas2, hS0.2.2, hb2, by omega, Lib.hid ⟨hP.out.1, hP.out.2.1, hP.out.2.2.1, hP.out.2.2.2.1, fun h => absurd h (by decide), fun _ => ⟨hI.out, ⟨IM.more (by omega) (by omega), ID.more (by omega) (by omega)⟩, rfl⟩, fun _ => hP.out.2.2.2.2.2.2.1 (by decide), fun h => absurd h (by decide)⟩⟩
              case measure => first | (simp [intOf]; done) | (simp [intOf]; omega)
        · skip
          have eO := Lib.hid ((hP.out.2.2.2.2.2.2.1 (by decide)).1)
          have ix_ := idx1 (some ⟨w.heap.size + 1 + 1, 6, none⟩) (some ⟨w.heap.size + 1 + 1, 9, none⟩)
          go_upto_region 8 with fail
          clear ix_
          go_cut [11, 12, 13] from 32 to 45 (fun s11 s12 s13 wx => ∃ (g11 g12 : Nat) (M D : Dv), s11 = .pointer (some ⟨g11, 0, none⟩) ∧ s12 = .pointer (some ⟨g12, 0, none⟩) ∧ s13 = .int .i64 q2 ∧ wr.heap.size ≤ g11 ∧ wr.heap.size ≤ g12 ∧ wx.heap[g11]? = some (.cells #[.bool M.s, .slice M.A M.n M.c, .int .i64 M.e] 24 (0, 0)) ∧ wx.heap[g12]? = some (.cells #[.bool D.s, .slice D.A D.n D.c, .int .i64 D.e] 24 (0, 0)) ∧ Below wr.heap.size wr wx ∧ Hid (Is r2 M ∧ Is d2 D) ∧ Ints wx wr.heap.size wx.heap.size .u32 M.A M.n M.xs ∧ Ints wx wr.heap.size wx.heap.size .u32 D.A D.n D.xs)
          case first =>
            refine region_E (Keeps wr) [] (m := 18) (L := #[false, false, false, false, false, false, false, false, false, false, false, false, false, false, false, false, false, false]) (by kernel_rfl) (by rfl) (by rfl) ?_
            have kp_ : Keeps wr wr.drew := fun _ _ => rfl
            have b_ : Below wr.heap.size wr wr.drew := (Below.refl _ _).drew
            have lw_60 : wr.heap.size ≤ wr.drew.heap.size := b_.size
            have Xa : Ints wr.drew 0 w.heap.size .u32 a.A.A a.A.n a.A.xs := Ints.drewN (MRows.get Ra 3) 1
            have Xb : Ints wr.drew 0 w.heap.size .u32 O.A.A O.A.n O.A.xs := by
              rw [eO.out]
              exact Ints.drewN (MRows.get Rb 3) 1
            have lw0 : w.heap.size ≤ wr.heap.size := hBL.size
            have tT2 : Tab wr.drew := tT.keep rfl
            have ib : Hid (Is (dnM b 3) O.A) := Lib.hid (by rw [eO.out]; exact iB.out 3 (by decide))
            generalize wr.drew = w_60 at *
            refine pureE (i := 0) (L := #[true, false, false, false, false, false, false, false, false, false, false, false, false, false, false, false, false, false]) (v := ?_) rfl (by rfl) (by kernel_rfl) (by kernel_rfl) (by kernel_rfl) (fun _ _ _ h => h) (by rfl) ?hy63 ?rest63
            case hy63 => intro w; go_simp; (try with_reducible rfl)
            try simp only [Act.put, List.setIfInBounds_toArray, List.set_cons_zero, List.set_cons_succ]
            refine pureE (i := 1) (L := #[true, true, false, false, false, false, false, false, false, false, false, false, false, false, false, false, false, false]) (v := ?_) rfl (by rfl) (by kernel_rfl) (by kernel_rfl) (by kernel_rfl) (fun _ _ _ h => h) (by rfl) ?hy64 ?rest64
            case hy64 => intro w; go_simp; (try with_reducible rfl)
            try simp only [Act.put, List.setIfInBounds_toArray, List.set_cons_zero, List.set_cons_succ]
            refine readE (i := 2) (L := #[true, true, true, false, false, false, false, false, false, false, false, false, false, false, false, false, false, false]) (v := .pointer (some ⟨w.heap.size, 9, none⟩)) rfl (by rfl) (by kernel_rfl) (by kernel_rfl) (by kernel_rfl) (fun _ _ _ h => h) (by assumption) (by rfl) ?yr_61 ?zr_61
            case yr_61 =>
              intro w' h1
              have c_ := cell_of_row w' _ 1 _ _ _ ((h1 _ (lt_of_heap hWas)).trans hWas)
              go_simp
            try simp only [Act.put, List.setIfInBounds_toArray, List.set_cons_zero, List.set_cons_succ]
            refine pureE (i := 3) (L := #[true, true, true, true, false, false, false, false, false, false, false, false, false, false, false, false, false, false]) (v := ?_) rfl (by rfl) (by kernel_rfl) (by kernel_rfl) (by kernel_rfl) (fun _ _ _ h => h) (by rfl) ?hy66 ?rest66
            case hy66 => intro w; go_simp; (try with_reducible rfl)
            try simp only [Act.put, List.setIfInBounds_toArray, List.set_cons_zero, List.set_cons_succ]
            refine readE (i := 4) (L := #[true, true, true, true, true, false, false, false, false, false, false, false, false, false, false, false, false, false]) (v := .agg #[.bool a.A.s, .slice a.A.A a.A.n a.A.c, .int .i64 a.A.e]) rfl (by rfl) (by kernel_rfl) (by kernel_rfl) (by kernel_rfl) (fun _ _ _ h => h) (by assumption) (by rfl) ?yr_62 ?zr_62
            case yr_62 =>
              intro w' h1
              obtain ⟨⟨k0, k1, k2, k3, k4, k5, k6, k7, k8, k9, k10, k11⟩, kf⟩ := MBox.cells ((h1 _ (lt_of_heap hMa)).trans hMa)
              go_simp
            try simp only [Act.put, List.setIfInBounds_toArray, List.set_cons_zero, List.set_cons_succ]
            refine pureE (i := 5) (L := #[true, true, true, true, true, true, false, false, false, false, false, false, false, false, false, false, false, false]) (v := ?_) rfl (by rfl) (by kernel_rfl) (by kernel_rfl) (by kernel_rfl) (fun _ _ _ h => h) (by rfl) ?hy68 ?rest68
            case hy68 => intro w; go_simp; (try with_reducible rfl)
            try simp only [Act.put, List.setIfInBounds_toArray, List.set_cons_zero, List.set_cons_succ]
            refine pureE (i := 6) (L := #[true, true, true, true, true, true, true, false, false, false, false, false, false, false, false, false, false, false]) (v := ?_) rfl (by rfl) (by kernel_rfl) (by kernel_rfl) (by kernel_rfl) (fun _ _ _ h => h) (by rfl) ?hy69 ?rest69
            case hy69 => intro w; go_simp; (try with_reducible rfl)
            try simp only [Act.put, List.setIfInBounds_toArray, List.set_cons_zero, List.set_cons_succ]
            refine readE (i := 7) (L := #[true, true, true, true, true, true, true, true, false, false, false, false, false, false, false, false, false, false]) (v := .agg #[.bool O.A.s, .slice O.A.A O.A.n O.A.c, .int .i64 O.A.e]) rfl (by rfl) (by kernel_rfl) (by kernel_rfl) (by kernel_rfl) (fun _ _ _ h => h) (by assumption) (by rfl) ?yr_63 ?zr_63
            case yr_63 =>
              intro w' h1
              obtain ⟨⟨k0, k1, k2, k3, k4, k5, k6, k7, k8, k9, k10, k11⟩, kf⟩ := MBox.cells ((h1 _ (lt_of_heap hO)).trans hO)
              go_simp
            try simp only [Act.put, List.setIfInBounds_toArray, List.set_cons_zero, List.set_cons_succ]
            refine stepK3 (i := 8) (j := 13) (k := 14) (Li := #[true, true, true, true, true, true, true, true, true, false, false, false, false, false, false, false, false, false]) (Lj := #[true, true, true, true, true, true, true, true, false, false, false, false, false, true, false, false, false, false]) (Lk := #[true, true, true, true, true, true, true, true, false, false, false, false, false, false, true, false, false, false]) rfl rfl rfl (by rfl) (by rfl) (by rfl) (by kernel_rfl) (by rfl) (by rfl) (by rfl) (fun K hK => ?o_64) (fun K hK => ?o_65) (fun K hK => ?o_66)
            case o_64 =>
              
              go_simp
              go_at_call 80
              refine (middle_any w_60 a.A O.A (Xa.more (Nat.le_refl _) (by omega)) (Xb.more (Nat.le_refl _) (by omega)) tT2 (dnM a 3) (dnM b 3) (iA.out 3 (by decide)) ib.out (mA.out 3 (by decide)) (mB.out 3 (by decide)) r2 d2 q2 H2.out).mono ?_
              rintro e' w_67 ⟨M, D, rfl, hB, iM, iD, IM, ID⟩
              replace iM := Lib.hid iM
              replace iD := Lib.hid iD
              replace kp_ := Keeps.on kp_ (by omega) hB
              have lw_67 : w_60.heap.size ≤ w_67.heap.size := hB.size
              replace Xa := Ints.below Xa hB (by omega)
              replace Xb := Ints.below Xb hB (by omega)
              replace tT2 := tT2.below hB tT2.lt
              replace b_ := b_.trans (hB.mono (by omega))
              clear hB
              refine hK _ _ ⟨fun _ _ => kp_, ?_⟩
              clear hK K
              try simp only [Act.put, List.setIfInBounds_toArray, List.set_cons_zero, List.set_cons_succ]
              refine pureE (i := 9) (L := #[true, true, true, true, true, true, true, true, true, true, false, false, false, false, false, false, false, false]) (v := ?_) rfl (by rfl) (by kernel_rfl) (by kernel_rfl) (by kernel_rfl) (fun _ _ _ h => h) (by rfl) ?hy71 ?rest71
              case hy71 => intro w; go_simp; (try with_reducible rfl)
              try simp only [Act.put, List.setIfInBounds_toArray, List.set_cons_zero, List.set_cons_succ]
              refine pureE (i := 10) (L := #[true, true, true, true, true, true, true, true, true, true, true, false, false, false, false, false, false, false]) (v := ?_) rfl (by rfl) (by kernel_rfl) (by kernel_rfl) (by kernel_rfl) (fun _ _ _ h => h) (by rfl) ?hy72 ?rest72
              case hy72 => intro w; go_simp; (try with_reducible rfl)
              try simp only [Act.put, List.setIfInBounds_toArray, List.set_cons_zero, List.set_cons_succ]
              refine pureE (i := 11) (L := #[true, true, true, true, true, true, true, true, true, true, true, true, false, false, false, false, false, false]) (v := ?_) rfl (by rfl) (by kernel_rfl) (by kernel_rfl) (by kernel_rfl) (fun _ _ _ h => h) (by rfl) ?hy73 ?rest73
              case hy73 => intro w; go_simp; (try with_reducible rfl)
              try simp only [Act.put, List.setIfInBounds_toArray, List.set_cons_zero, List.set_cons_succ]
              refine pureE (i := 12) (L := #[true, true, true, true, true, true, true, true, true, true, true, true, true, false, false, false, false, false]) (v := ?_) rfl (by rfl) (by kernel_rfl) (by kernel_rfl) (by kernel_rfl) (fun _ _ _ h => h) (by rfl) ?hy74 ?rest74
              case hy74 => intro w; go_simp; (try with_reducible rfl)
              try simp only [Act.put, List.setIfInBounds_toArray, List.set_cons_zero, List.set_cons_succ]
              refine stepK2 (i := 13) (j := 14) (Li := #[true, true, true, true, true, true, true, true, true, true, true, true, true, true, false, false, false, false]) (Lj := #[true, true, true, true, true, true, true, true, true, true, true, true, true, false, true, false, false, false]) rfl rfl (by rfl) (by rfl) (by kernel_rfl) (by rfl) (by rfl) (fun K hK => ?o_68) (fun K hK => ?o_69)
              case o_68 =>
                
                go_simp
                have hB := (Below.refl w_67.heap.size w_67).alloc (Nat.le_refl _) (.cells #[.bool false, .slice none 0 0, .int .i64 0] 24)
                have hV13 := heap_alloc_last w_67 (.cells #[.bool false, .slice none 0 0, .int .i64 0] 24)
                have mw_70 : w_67.heap.size < (w_67.alloc (.cells #[.bool false, .slice none 0 0, .int .i64 0] 24)).heap.size := by simp
                generalize hww_70 : w_67.alloc (.cells #[.bool false, .slice none 0 0, .int .i64 0] 24) = w_70 at *
                replace kp_ := Keeps.on kp_ (by omega) hB
                have lw_70 : w_67.heap.size ≤ w_70.heap.size := hB.size
                replace Xa := Ints.below Xa hB (by omega)
                replace Xb := Ints.below Xb hB (by omega)
                replace IM := Ints.below IM hB (by omega)
                replace ID := Ints.below ID hB (by omega)
                replace tT2 := tT2.below hB tT2.lt
                replace b_ := b_.trans (hB.mono (by omega))
                clear hB
                refine hK _ _ ⟨fun _ _ => kp_, ?_⟩
                clear hK K
                try simp only [Act.put, List.setIfInBounds_toArray, List.set_cons_zero, List.set_cons_succ]
                try clear hww_70
                refine stepK (i := 14) (L := #[true, true, true, true, true, true, true, true, true, true, true, true, true, true, true, false, false, false]) rfl (by rfl) (by kernel_rfl) (by rfl) (fun K hK => ?_)
                go_simp
                have hB := (Below.refl w_70.heap.size w_70).alloc (Nat.le_refl _) (.cells #[.bool false, .slice none 0 0, .int .i64 0] 24)
                have hV14 := heap_alloc_last w_70 (.cells #[.bool false, .slice none 0 0, .int .i64 0] 24)
                have mw_71 : w_70.heap.size < (w_70.alloc (.cells #[.bool false, .slice none 0 0, .int .i64 0] 24)).heap.size := by simp
                generalize hww_71 : w_70.alloc (.cells #[.bool false, .slice none 0 0, .int .i64 0] 24) = w_71 at *
                replace kp_ := Keeps.on kp_ (by omega) hB
                have lw_71 : w_70.heap.size ≤ w_71.heap.size := hB.size
                replace hV13 := (hB.block _ (lt_of_heap hV13)).trans hV13
                replace Xa := Ints.below Xa hB (by omega)
                replace Xb := Ints.below Xb hB (by omega)
                replace IM := Ints.below IM hB (by omega)
                replace ID := Ints.below ID hB (by omega)
                replace tT2 := tT2.below hB tT2.lt
                replace b_ := b_.trans (hB.mono (by omega))
                clear hB
                refine hK _ _ ⟨fun _ _ => kp_, ?_⟩
                clear hK K
                try simp only [Act.put, List.setIfInBounds_toArray, List.set_cons_zero, List.set_cons_succ]
                try clear hww_71
                obtain ⟨⟨z0, z1, z2⟩, z3, z4, z5⟩ := boxD hV13
                refine stepK (i := 15) (L := #[true, true, true, true, true, true, true, true, true, true, true, true, true, true, true, true, false, false]) rfl (by rfl) (by kernel_rfl) (by rfl) (fun K hK => ?_)
                go_simp
                have k_ : Keeps wr (((w_71.setCell ⟨w_67.heap.size, 0, none⟩ (.bool M.s)).setCell ⟨w_67.heap.size, 1, none⟩ (.slice M.A M.n M.c)).setCell ⟨w_67.heap.size, 2, none⟩ (.int .i64 M.e)) := fun p hp => (box_far (by omega) _ _ _).trans (kp_ p hp)
                have x_ := box_put hV13 (.bool M.s) (.slice M.A M.n M.c) (.int .i64 M.e)
                have hb_ := below_put b_ (g := w_67.heap.size) (by omega) (.bool M.s) (.slice M.A M.n M.c) (.int .i64 M.e)
                have hs_ := size_put (w := w_71) (g := w_67.heap.size) (.bool M.s) (.slice M.A M.n M.c) (.int .i64 M.e)
                have hf_ : ∀ j, j ≠ w_67.heap.size → (((w_71.setCell ⟨w_67.heap.size, 0, none⟩ (.bool M.s)).setCell ⟨w_67.heap.size, 1, none⟩ (.slice M.A M.n M.c)).setCell ⟨w_67.heap.size, 2, none⟩ (.int .i64 M.e)).heap[j]? = w_71.heap[j]? := fun j hj => box_far (Ne.symm hj) _ _ _
                refine hK _ _ ⟨fun _ _ => k_, ?_⟩
                clear hK K z0 z1 z2 z3 z4 z5
                try simp only [Act.put, List.setIfInBounds_toArray, List.set_cons_zero, List.set_cons_succ]
                generalize ((w_71.setCell ⟨w_67.heap.size, 0, none⟩ (.bool M.s)).setCell ⟨w_67.heap.size, 1, none⟩ (.slice M.A M.n M.c)).setCell ⟨w_67.heap.size, 2, none⟩ (.int .i64 M.e) = w_72 at *
                have lw_72 : w_71.heap.size ≤ w_72.heap.size := Nat.le_of_eq hs_.symm
                have l2w_72 : w_72.heap.size ≤ w_71.heap.size := Nat.le_of_eq hs_
                clear hs_ hV13
                have hV13 := x_
                replace kp_ := k_
                replace b_ := hb_
                clear x_ k_ hb_
                replace hV14 := (hf_ _ (by omega)).trans hV14
                replace IM := ints_rng IM (w' := w_72) (fun b h1 h2 => hf_ b (by omega))
                replace ID := ints_rng ID (w' := w_72) (fun b h1 h2 => hf_ b (by omega))
                clear hf_
                obtain ⟨⟨z0, z1, z2⟩, z3, z4, z5⟩ := boxD hV14
                refine stepK (i := 16) (L := #[true, true, true, true, true, true, true, true, true, true, true, true, true, true, true, true, true, false]) rfl (by rfl) (by kernel_rfl) (by rfl) (fun K hK => ?_)
                go_simp
                have k_ : Keeps wr (((w_72.setCell ⟨w_70.heap.size, 0, none⟩ (.bool D.s)).setCell ⟨w_70.heap.size, 1, none⟩ (.slice D.A D.n D.c)).setCell ⟨w_70.heap.size, 2, none⟩ (.int .i64 D.e)) := fun p hp => (box_far (by omega) _ _ _).trans (kp_ p hp)
                have x_ := box_put hV14 (.bool D.s) (.slice D.A D.n D.c) (.int .i64 D.e)
                have hb_ := below_put b_ (g := w_70.heap.size) (by omega) (.bool D.s) (.slice D.A D.n D.c) (.int .i64 D.e)
                have hs_ := size_put (w := w_72) (g := w_70.heap.size) (.bool D.s) (.slice D.A D.n D.c) (.int .i64 D.e)
                have hf_ : ∀ j, j ≠ w_70.heap.size → (((w_72.setCell ⟨w_70.heap.size, 0, none⟩ (.bool D.s)).setCell ⟨w_70.heap.size, 1, none⟩ (.slice D.A D.n D.c)).setCell ⟨w_70.heap.size, 2, none⟩ (.int .i64 D.e)).heap[j]? = w_72.heap[j]? := fun j hj => box_far (Ne.symm hj) _ _ _
                refine hK _ _ ⟨fun _ _ => k_, ?_⟩
                clear hK K z0 z1 z2 z3 z4 z5
                try simp only [Act.put, List.setIfInBounds_toArray, List.set_cons_zero, List.set_cons_succ]
                generalize ((w_72.setCell ⟨w_70.heap.size, 0, none⟩ (.bool D.s)).setCell ⟨w_70.heap.size, 1, none⟩ (.slice D.A D.n D.c)).setCell ⟨w_70.heap.size, 2, none⟩ (.int .i64 D.e) = w_73 at *
                have lw_73 : w_72.heap.size ≤ w_73.heap.size := Nat.le_of_eq hs_.symm
                have l2w_73 : w_73.heap.size ≤ w_72.heap.size := Nat.le_of_eq hs_
                clear hs_ hV14
                have hV14 := x_
                replace kp_ := k_
                replace b_ := hb_
                clear x_ k_ hb_
                replace hV13 := (hf_ _ (by omega)).trans hV13
                replace IM := ints_rng IM (w' := w_73) (fun b h1 h2 => hf_ b (by omega))
                replace ID := ints_rng ID (w' := w_73) (fun b h1 h2 => hf_ b (by omega))
                clear hf_
                refine pureE (i := 17) (L := #[true, true, true, true, true, true, true, true, true, true, true, true, true, true, true, true, true, true]) (v := ?_) rfl (by rfl) (by kernel_rfl) (by kernel_rfl) (by kernel_rfl) (fun _ _ _ h => h) (by rfl) ?hy78 ?rest78
                case hy78 => intro w; go_simp; (try with_reducible rfl)
                try simp only [Act.put, List.setIfInBounds_toArray, List.set_cons_zero, List.set_cons_succ]
                refine doneE (by kernel_rfl) ?_ _
                go_wp2_with fail
                go_meet
                exact ⟨w_67.heap.size, w_70.heap.size, M, D, rfl, rfl, rfl, by omega, by omega, hV13, hV14, b_, Lib.hid ⟨iM.out, iD.out⟩, IM.more (by omega) (by omega), ID.more (by omega) (by omega)⟩
              case o_69 =>
                
                go_simp
                have hB := (Below.refl w_67.heap.size w_67).alloc (Nat.le_refl _) (.cells #[.bool false, .slice none 0 0, .int .i64 0] 24)
                have hV14 := heap_alloc_last w_67 (.cells #[.bool false, .slice none 0 0, .int .i64 0] 24)
                have mw_74 : w_67.heap.size < (w_67.alloc (.cells #[.bool false, .slice none 0 0, .int .i64 0] 24)).heap.size := by simp
                generalize hww_74 : w_67.alloc (.cells #[.bool false, .slice none 0 0, .int .i64 0] 24) = w_74 at *
                replace kp_ := Keeps.on kp_ (by omega) hB
                have lw_74 : w_67.heap.size ≤ w_74.heap.size := hB.size
                replace Xa := Ints.below Xa hB (by omega)
                replace Xb := Ints.below Xb hB (by omega)
                replace IM := Ints.below IM hB (by omega)
                replace ID := Ints.below ID hB (by omega)
                replace tT2 := tT2.below hB tT2.lt
                replace b_ := b_.trans (hB.mono (by omega))
                clear hB
                refine hK _ _ ⟨fun _ _ => kp_, ?_⟩
                clear hK K
                try simp only [Act.put, List.setIfInBounds_toArray, List.set_cons_zero, List.set_cons_succ]
                try clear hww_74
                refine stepK (i := 13) (L := #[true, true, true, true, true, true, true, true, true, true, true, true, true, true, true, false, false, false]) rfl (by rfl) (by kernel_rfl) (by rfl) (fun K hK => ?_)
                go_simp
                have hB := (Below.refl w_74.heap.size w_74).alloc (Nat.le_refl _) (.cells #[.bool false, .slice none 0 0, .int .i64 0] 24)
                have hV13 := heap_alloc_last w_74 (.cells #[.bool false, .slice none 0 0, .int .i64 0] 24)
                have mw_75 : w_74.heap.size < (w_74.alloc (.cells #[.bool false, .slice none 0 0, .int .i64 0] 24)).heap.size := by simp
                generalize hww_75 : w_74.alloc (.cells #[.bool false, .slice none 0 0, .int .i64 0] 24) = w_75 at *
                replace kp_ := Keeps.on kp_ (by omega) hB
                have lw_75 : w_74.heap.size ≤ w_75.heap.size := hB.size
                replace hV14 := (hB.block _ (lt_of_heap hV14)).trans hV14
                replace Xa := Ints.below Xa hB (by omega)
                replace Xb := Ints.below Xb hB (by omega)
                replace IM := Ints.below IM hB (by omega)
                replace ID := Ints.below ID hB (by omega)
                replace tT2 := tT2.below hB tT2.lt
                replace b_ := b_.trans (hB.mono (by omega))
                clear hB
                refine hK _ _ ⟨fun _ _ => kp_, ?_⟩
                clear hK K
                try simp only [Act.put, List.setIfInBounds_toArray, List.set_cons_zero, List.set_cons_succ]
                try clear hww_75
                obtain ⟨⟨z0, z1, z2⟩, z3, z4, z5⟩ := boxD hV13
                refine stepK (i := 15) (L := #[true, true, true, true, true, true, true, true, true, true, true, true, true, true, true, true, false, false]) rfl (by rfl) (by kernel_rfl) (by rfl) (fun K hK => ?_)
                go_simp
                have k_ : Keeps wr (((w_75.setCell ⟨w_74.heap.size, 0, none⟩ (.bool M.s)).setCell ⟨w_74.heap.size, 1, none⟩ (.slice M.A M.n M.c)).setCell ⟨w_74.heap.size, 2, none⟩ (.int .i64 M.e)) := fun p hp => (box_far (by omega) _ _ _).trans (kp_ p hp)
                have x_ := box_put hV13 (.bool M.s) (.slice M.A M.n M.c) (.int .i64 M.e)
                have hb_ := below_put b_ (g := w_74.heap.size) (by omega) (.bool M.s) (.slice M.A M.n M.c) (.int .i64 M.e)
                have hs_ := size_put (w := w_75) (g := w_74.heap.size) (.bool M.s) (.slice M.A M.n M.c) (.int .i64 M.e)
                have hf_ : ∀ j, j ≠ w_74.heap.size → (((w_75.setCell ⟨w_74.heap.size, 0, none⟩ (.bool M.s)).setCell ⟨w_74.heap.size, 1, none⟩ (.slice M.A M.n M.c)).setCell ⟨w_74.heap.size, 2, none⟩ (.int .i64 M.e)).heap[j]? = w_75.heap[j]? := fun j hj => box_far (Ne.symm hj) _ _ _
                refine hK _ _ ⟨fun _ _ => k_, ?_⟩
                clear hK K z0 z1 z2 z3 z4 z5
                try simp only [Act.put, List.setIfInBounds_toArray, List.set_cons_zero, List.set_cons_succ]
                generalize ((w_75.setCell ⟨w_74.heap.size, 0, none⟩ (.bool M.s)).setCell ⟨w_74.heap.size, 1, none⟩ (.slice M.A M.n M.c)).setCell ⟨w_74.heap.size, 2, none⟩ (.int .i64 M.e) = w_76 at *
                have lw_76 : w_75.heap.size ≤ w_76.heap.size := Nat.le_of_eq hs_.symm
                have l2w_76 : w_76.heap.size ≤ w_75.heap.size := Nat.le_of_eq hs_
                clear hs_ hV13
                have hV13 := x_
                replace kp_ := k_
                replace b_ := hb_
                clear x_ k_ hb_
                replace hV14 := (hf_ _ (by omega)).trans hV14
                replace IM := ints_rng IM (w' := w_76) (fun b h1 h2 => hf_ b (by omega))
                replace ID := ints_rng ID (w' := w_76) (fun b h1 h2 => hf_ b (by omega))
                clear hf_
                obtain ⟨⟨z0, z1, z2⟩, z3, z4, z5⟩ := boxD hV14
                refine stepK (i := 16) (L := #[true, true, true, true, true, true, true, true, true, true, true, true, true, true, true, true, true, false]) rfl (by rfl) (by kernel_rfl) (by rfl) (fun K hK => ?_)
                go_simp
                have k_ : Keeps wr (((w_76.setCell ⟨w_67.heap.size, 0, none⟩ (.bool D.s)).setCell ⟨w_67.heap.size, 1, none⟩ (.slice D.A D.n D.c)).setCell ⟨w_67.heap.size, 2, none⟩ (.int .i64 D.e)) := fun p hp => (box_far (by omega) _ _ _).trans (kp_ p hp)
                have x_ := box_put hV14 (.bool D.s) (.slice D.A D.n D.c) (.int .i64 D.e)
                have hb_ := below_put b_ (g := w_67.heap.size) (by omega) (.bool D.s) (.slice D.A D.n D.c) (.int .i64 D.e)
                have hs_ := size_put (w := w_76) (g := w_67.heap.size) (.bool D.s) (.slice D.A D.n D.c) (.int .i64 D.e)
                have hf_ : ∀ j, j ≠ w_67.heap.size → (((w_76.setCell ⟨w_67.heap.size, 0, none⟩ (.bool D.s)).setCell ⟨w_67.heap.size, 1, none⟩ (.slice D.A D.n D.c)).setCell ⟨w_67.heap.size, 2, none⟩ (.int .i64 D.e)).heap[j]? = w_76.heap[j]? := fun j hj => box_far (Ne.symm hj) _ _ _
                refine hK _ _ ⟨fun _ _ => k_, ?_⟩
                clear hK K z0 z1 z2 z3 z4 z5
                try simp only [Act.put, List.setIfInBounds_toArray, List.set_cons_zero, List.set_cons_succ]
                generalize ((w_76.setCell ⟨w_67.heap.size, 0, none⟩ (.bool D.s)).setCell ⟨w_67.heap.size, 1, none⟩ (.slice D.A D.n D.c)).setCell ⟨w_67.heap.size, 2, none⟩ (.int .i64 D.e) = w_77 at *
                have lw_77 : w_76.heap.size ≤ w_77.heap.size := Nat.le_of_eq hs_.symm
                have l2w_77 : w_77.heap.size ≤ w_76.heap.size := Nat.le_of_eq hs_
                clear hs_ hV14
                have hV14 := x_
                replace kp_ := k_
                replace b_ := hb_
                clear x_ k_ hb_
                replace hV13 := (hf_ _ (by omega)).trans hV13
                replace IM := ints_rng IM (w' := w_77) (fun b h1 h2 => hf_ b (by omega))
                replace ID := ints_rng ID (w' := w_77) (fun b h1 h2 => hf_ b (by omega))
                clear hf_
                refine pureE (i := 17) (L := #[true, true, true, true, true, true, true, true, true, true, true, true, true, true, true, true, true, true]) (v := ?_) rfl (by rfl) (by kernel_rfl) (by kernel_rfl) (by kernel_rfl) (fun _ _ _ h => h) (by rfl) ?hy82 ?rest82
                case hy82 => intro w; go_simp; (try with_reducible rfl)
                try simp only [Act.put, List.setIfInBounds_toArray, List.set_cons_zero, List.set_cons_succ]
                refine doneE (by kernel_rfl) ?_ _
                go_wp2_with fail
                go_meet
                exact ⟨w_74.heap.size, w_67.heap.size, M, D, rfl, rfl, rfl, by omega, by omega, hV13, hV14, b_, Lib.hid ⟨iM.out, iD.out⟩, IM.more (by omega) (by omega), ID.more (by omega) (by omega)⟩
            case o_65 =>
              
              go_simp
              have hB := (Below.refl w_60.heap.size w_60).alloc (Nat.le_refl _) (.cells #[.bool false, .slice none 0 0, .int .i64 0] 24)
              have hV13 := heap_alloc_last w_60 (.cells #[.bool false, .slice none 0 0, .int .i64 0] 24)
              have mw_78 : w_60.heap.size < (w_60.alloc (.cells #[.bool false, .slice none 0 0, .int .i64 0] 24)).heap.size := by simp
              generalize hww_78 : w_60.alloc (.cells #[.bool false, .slice none 0 0, .int .i64 0] 24) = w_78 at *
              replace kp_ := Keeps.on kp_ (by omega) hB
              have lw_78 : w_60.heap.size ≤ w_78.heap.size := hB.size
              replace Xa := Ints.below Xa hB (by omega)
              replace Xb := Ints.below Xb hB (by omega)
              replace tT2 := tT2.below hB tT2.lt
              replace b_ := b_.trans (hB.mono (by omega))
              clear hB
              refine hK _ _ ⟨fun _ _ => kp_, ?_⟩
              clear hK K
              try simp only [Act.put, List.setIfInBounds_toArray, List.set_cons_zero, List.set_cons_succ]
              try clear hww_78
              refine stepK2 (i := 8) (j := 14) (Li := #[true, true, true, true, true, true, true, true, true, false, false, false, false, true, false, false, false, false]) (Lj := #[true, true, true, true, true, true, true, true, false, false, false, false, false, true, true, false, false, false]) rfl rfl (by rfl) (by rfl) (by kernel_rfl) (by rfl) (by rfl) (fun K hK => ?o_79) (fun K hK => ?o_80)
              case o_79 =>
                
                go_simp
                go_at_call 80
                refine (middle_any w_78 a.A O.A (Xa.more (Nat.le_refl _) (by omega)) (Xb.more (Nat.le_refl _) (by omega)) tT2 (dnM a 3) (dnM b 3) (iA.out 3 (by decide)) ib.out (mA.out 3 (by decide)) (mB.out 3 (by decide)) r2 d2 q2 H2.out).mono ?_
                rintro e' w_81 ⟨M, D, rfl, hB, iM, iD, IM, ID⟩
                replace iM := Lib.hid iM
                replace iD := Lib.hid iD
                replace kp_ := Keeps.on kp_ (by omega) hB
                have lw_81 : w_78.heap.size ≤ w_81.heap.size := hB.size
                replace hV13 := (hB.block _ (lt_of_heap hV13)).trans hV13
                replace Xa := Ints.below Xa hB (by omega)
                replace Xb := Ints.below Xb hB (by omega)
                replace tT2 := tT2.below hB tT2.lt
                replace b_ := b_.trans (hB.mono (by omega))
                clear hB
                refine hK _ _ ⟨fun _ _ => kp_, ?_⟩
                clear hK K
                try simp only [Act.put, List.setIfInBounds_toArray, List.set_cons_zero, List.set_cons_succ]
                refine pureE (i := 9) (L := #[true, true, true, true, true, true, true, true, true, true, false, false, false, true, false, false, false, false]) (v := ?_) rfl (by rfl) (by kernel_rfl) (by kernel_rfl) (by kernel_rfl) (fun _ _ _ h => h) (by rfl) ?hy83 ?rest83
                case hy83 => intro w; go_simp; (try with_reducible rfl)
                try simp only [Act.put, List.setIfInBounds_toArray, List.set_cons_zero, List.set_cons_succ]
                refine pureE (i := 10) (L := #[true, true, true, true, true, true, true, true, true, true, true, false, false, true, false, false, false, false]) (v := ?_) rfl (by rfl) (by kernel_rfl) (by kernel_rfl) (by kernel_rfl) (fun _ _ _ h => h) (by rfl) ?hy84 ?rest84
                case hy84 => intro w; go_simp; (try with_reducible rfl)
                try simp only [Act.put, List.setIfInBounds_toArray, List.set_cons_zero, List.set_cons_succ]
                refine pureE (i := 11) (L := #[true, true, true, true, true, true, true, true, true, true, true, true, false, true, false, false, false, false]) (v := ?_) rfl (by rfl) (by kernel_rfl) (by kernel_rfl) (by kernel_rfl) (fun _ _ _ h => h) (by rfl) ?hy85 ?rest85
                case hy85 => intro w; go_simp; (try with_reducible rfl)
                try simp only [Act.put, List.setIfInBounds_toArray, List.set_cons_zero, List.set_cons_succ]
                refine pureE (i := 12) (L := #[true, true, true, true, true, true, true, true, true, true, true, true, true, true, false, false, false, false]) (v := ?_) rfl (by rfl) (by kernel_rfl) (by kernel_rfl) (by kernel_rfl) (fun _ _ _ h => h) (by rfl) ?hy86 ?rest86
                case hy86 => intro w; go_simp; (try with_reducible rfl)
                try simp only [Act.put, List.setIfInBounds_toArray, List.set_cons_zero, List.set_cons_succ]
                refine stepK (i := 14) (L := #[true, true, true, true, true, true, true, true, true, true, true, true, true, true, true, false, false, false]) rfl (by rfl) (by kernel_rfl) (by rfl) (fun K hK => ?_)
                go_simp
                have hB := (Below.refl w_81.heap.size w_81).alloc (Nat.le_refl _) (.cells #[.bool false, .slice none 0 0, .int .i64 0] 24)
                have hV14 := heap_alloc_last w_81 (.cells #[.bool false, .slice none 0 0, .int .i64 0] 24)
                have mw_82 : w_81.heap.size < (w_81.alloc (.cells #[.bool false, .slice none 0 0, .int .i64 0] 24)).heap.size := by simp
                generalize hww_82 : w_81.alloc (.cells #[.bool false, .slice none 0 0, .int .i64 0] 24) = w_82 at *
                replace kp_ := Keeps.on kp_ (by omega) hB
                have lw_82 : w_81.heap.size ≤ w_82.heap.size := hB.size
                replace hV13 := (hB.block _ (lt_of_heap hV13)).trans hV13
                replace Xa := Ints.below Xa hB (by omega)
                replace Xb := Ints.below Xb hB (by omega)
                replace IM := Ints.below IM hB (by omega)
                replace ID := Ints.below ID hB (by omega)
                replace tT2 := tT2.below hB tT2.lt
                replace b_ := b_.trans (hB.mono (by omega))
                clear hB
                refine hK _ _ ⟨fun _ _ => kp_, ?_⟩
                clear hK K
                try simp only [Act.put, List.setIfInBounds_toArray, List.set_cons_zero, List.set_cons_succ]
                try clear hww_82
                obtain ⟨⟨z0, z1, z2⟩, z3, z4, z5⟩ := boxD hV13
                refine stepK (i := 15) (L := #[true, true, true, true, true, true, true, true, true, true, true, true, true, true, true, true, false, false]) rfl (by rfl) (by kernel_rfl) (by rfl) (fun K hK => ?_)
                go_simp
                have k_ : Keeps wr (((w_82.setCell ⟨w_60.heap.size, 0, none⟩ (.bool M.s)).setCell ⟨w_60.heap.size, 1, none⟩ (.slice M.A M.n M.c)).setCell ⟨w_60.heap.size, 2, none⟩ (.int .i64 M.e)) := fun p hp => (box_far (by omega) _ _ _).trans (kp_ p hp)
                have x_ := box_put hV13 (.bool M.s) (.slice M.A M.n M.c) (.int .i64 M.e)
                have hb_ := below_put b_ (g := w_60.heap.size) (by omega) (.bool M.s) (.slice M.A M.n M.c) (.int .i64 M.e)
                have hs_ := size_put (w := w_82) (g := w_60.heap.size) (.bool M.s) (.slice M.A M.n M.c) (.int .i64 M.e)
                have hf_ : ∀ j, j ≠ w_60.heap.size → (((w_82.setCell ⟨w_60.heap.size, 0, none⟩ (.bool M.s)).setCell ⟨w_60.heap.size, 1, none⟩ (.slice M.A M.n M.c)).setCell ⟨w_60.heap.size, 2, none⟩ (.int .i64 M.e)).heap[j]? = w_82.heap[j]? := fun j hj => box_far (Ne.symm hj) _ _ _
                refine hK _ _ ⟨fun _ _ => k_, ?_⟩
                clear hK K z0 z1 z2 z3 z4 z5
                try simp only [Act.put, List.setIfInBounds_toArray, List.set_cons_zero, List.set_cons_succ]
                generalize ((w_82.setCell ⟨w_60.heap.size, 0, none⟩ (.bool M.s)).setCell ⟨w_60.heap.size, 1, none⟩ (.slice M.A M.n M.c)).setCell ⟨w_60.heap.size, 2, none⟩ (.int .i64 M.e) = w_83 at *
                have lw_83 : w_82.heap.size ≤ w_83.heap.size := Nat.le_of_eq hs_.symm
                have l2w_83 : w_83.heap.size ≤ w_82.heap.size := Nat.le_of_eq hs_
                clear hs_ hV13
                have hV13 := x_
                replace kp_ := k_
                replace b_ := hb_
                clear x_ k_ hb_
                replace hV14 := (hf_ _ (by omega)).trans hV14
                replace IM := ints_rng IM (w' := w_83) (fun b h1 h2 => hf_ b (by omega))
                replace ID := ints_rng ID (w' := w_83) (fun b h1 h2 => hf_ b (by omega))
                clear hf_
                obtain ⟨⟨z0, z1, z2⟩, z3, z4, z5⟩ := boxD hV14
                refine stepK (i := 16) (L := #[true, true, true, true, true, true, true, true, true, true, true, true, true, true, true, true, true, false]) rfl (by rfl) (by kernel_rfl) (by rfl) (fun K hK => ?_)
                go_simp
                have k_ : Keeps wr (((w_83.setCell ⟨w_81.heap.size, 0, none⟩ (.bool D.s)).setCell ⟨w_81.heap.size, 1, none⟩ (.slice D.A D.n D.c)).setCell ⟨w_81.heap.size, 2, none⟩ (.int .i64 D.e)) := fun p hp => (box_far (by omega) _ _ _).trans (kp_ p hp)
                have x_ := box_put hV14 (.bool D.s) (.slice D.A D.n D.c) (.int .i64 D.e)
                have hb_ := below_put b_ (g := w_81.heap.size) (by omega) (.bool D.s) (.slice D.A D.n D.c) (.int .i64 D.e)
                have hs_ := size_put (w := w_83) (g := w_81.heap.size) (.bool D.s) (.slice D.A D.n D.c) (.int .i64 D.e)
                have hf_ : ∀ j, j ≠ w_81.heap.size → (((w_83.setCell ⟨w_81.heap.size, 0, none⟩ (.bool D.s)).setCell ⟨w_81.heap.size, 1, none⟩ (.slice D.A D.n D.c)).setCell ⟨w_81.heap.size, 2, none⟩ (.int .i64 D.e)).heap[j]? = w_83.heap[j]? := fun j hj => box_far (Ne.symm hj) _ _ _
                refine hK _ _ ⟨fun _ _ => k_, ?_⟩
                clear hK K z0 z1 z2 z3 z4 z5
                try simp only [Act.put, List.setIfInBounds_toArray, List.set_cons_zero, List.set_cons_succ]
                generalize ((w_83.setCell ⟨w_81.heap.size, 0, none⟩ (.bool D.s)).setCell ⟨w_81.heap.size, 1, none⟩ (.slice D.A D.n D.c)).setCell ⟨w_81.heap.size, 2, none⟩ (.int .i64 D.e) = w_84 at *
                have lw_84 : w_83.heap.size ≤ w_84.heap.size := Nat.le_of_eq hs_.symm
                have l2w_84 : w_84.heap.size ≤ w_83.heap.size := Nat.le_of_eq hs_
                clear hs_ hV14
                have hV14 := x_
                replace kp_ := k_
                replace b_ := hb_
                clear x_ k_ hb_
                replace hV13 := (hf_ _ (by omega)).trans hV13
                replace IM := ints_rng IM (w' := w_84) (fun b h1 h2 => hf_ b (by omega))
                replace ID := ints_rng ID (w' := w_84) (fun b h1 h2 => hf_ b (by omega))
                clear hf_
                refine pureE (i := 17) (L := #[true, true, true, true, true, true, true, true, true, true, true, true, true, true, true, true, true, true]) (v := ?_) rfl (by rfl) (by kernel_rfl) (by kernel_rfl) (by kernel_rfl) (fun _ _ _ h => h) (by rfl) ?hy90 ?rest90
                case hy90 => intro w; go_simp; (try with_reducible rfl)
                try simp only [Act.put, List.setIfInBounds_toArray, List.set_cons_zero, List.set_cons_succ]
                refine doneE (by kernel_rfl) ?_ _
                go_wp2_with fail
                go_meet
                exact ⟨w_60.heap.size, w_81.heap.size, M, D, rfl, rfl, rfl, by omega, by omega, hV13, hV14, b_, Lib.hid ⟨iM.out, iD.out⟩, IM.more (by omega) (by omega), ID.more (by omega) (by omega)⟩
              case o_80 =>
                
                go_simp
                have hB := (Below.refl w_78.heap.size w_78).alloc (Nat.le_refl _) (.cells #[.bool false, .slice none 0 0, .int .i64 0] 24)
                have hV14 := heap_alloc_last w_78 (.cells #[.bool false, .slice none 0 0, .int .i64 0] 24)
                have mw_85 : w_78.heap.size < (w_78.alloc (.cells #[.bool false, .slice none 0 0, .int .i64 0] 24)).heap.size := by simp
                generalize hww_85 : w_78.alloc (.cells #[.bool false, .slice none 0 0, .int .i64 0] 24) = w_85 at *
                replace kp_ := Keeps.on kp_ (by omega) hB
                have lw_85 : w_78.heap.size ≤ w_85.heap.size := hB.size
                replace hV13 := (hB.block _ (lt_of_heap hV13)).trans hV13
                replace Xa := Ints.below Xa hB (by omega)
                replace Xb := Ints.below Xb hB (by omega)
                replace tT2 := tT2.below hB tT2.lt
                replace b_ := b_.trans (hB.mono (by omega))
                clear hB
                refine hK _ _ ⟨fun _ _ => kp_, ?_⟩
                clear hK K
                try simp only [Act.put, List.setIfInBounds_toArray, List.set_cons_zero, List.set_cons_succ]
                try clear hww_85
                refine stepK (i := 8) (L := #[true, true, true, true, true, true, true, true, true, false, false, false, false, true, true, false, false, false]) rfl (by rfl) (by kernel_rfl) (by rfl) (fun K hK => ?_)
                go_simp
                go_at_call 80
                refine (middle_any w_85 a.A O.A (Xa.more (Nat.le_refl _) (by omega)) (Xb.more (Nat.le_refl _) (by omega)) tT2 (dnM a 3) (dnM b 3) (iA.out 3 (by decide)) ib.out (mA.out 3 (by decide)) (mB.out 3 (by decide)) r2 d2 q2 H2.out).mono ?_
                rintro e' w_86 ⟨M, D, rfl, hB, iM, iD, IM, ID⟩
                replace iM := Lib.hid iM
                replace iD := Lib.hid iD
                replace kp_ := Keeps.on kp_ (by omega) hB
                have lw_86 : w_85.heap.size ≤ w_86.heap.size := hB.size
                replace hV13 := (hB.block _ (lt_of_heap hV13)).trans hV13
                replace hV14 := (hB.block _ (lt_of_heap hV14)).trans hV14
                replace Xa := Ints.below Xa hB (by omega)
                replace Xb := Ints.below Xb hB (by omega)
                replace tT2 := tT2.below hB tT2.lt
                replace b_ := b_.trans (hB.mono (by omega))
                clear hB
                refine hK _ _ ⟨fun _ _ => kp_, ?_⟩
                clear hK K
                try simp only [Act.put, List.setIfInBounds_toArray, List.set_cons_zero, List.set_cons_succ]
                refine pureE (i := 9) (L := #[true, true, true, true, true, true, true, true, true, true, false, false, false, true, true, false, false, false]) (v := ?_) rfl (by rfl) (by kernel_rfl) (by kernel_rfl) (by kernel_rfl) (fun _ _ _ h => h) (by rfl) ?hy92 ?rest92
                case hy92 => intro w; go_simp; (try with_reducible rfl)
                try simp only [Act.put, List.setIfInBounds_toArray, List.set_cons_zero, List.set_cons_succ]
                refine pureE (i := 10) (L := #[true, true, true, true, true, true, true, true, true, true, true, false, false, true, true, false, false, false]) (v := ?_) rfl (by rfl) (by kernel_rfl) (by kernel_rfl) (by kernel_rfl) (fun _ _ _ h => h) (by rfl) ?hy93 ?rest93
                case hy93 => intro w; go_simp; (try with_reducible rfl)
                try simp only [Act.put, List.setIfInBounds_toArray, List.set_cons_zero, List.set_cons_succ]
                refine pureE (i := 11) (L := #[true, true, true, true, true, true, true, true, true, true, true, true, false, true, true, false, false, false]) (v := ?_) rfl (by rfl) (by kernel_rfl) (by kernel_rfl) (by kernel_rfl) (fun _ _ _ h => h) (by rfl) ?hy94 ?rest94
                case hy94 => intro w; go_simp; (try with_reducible rfl)
                try simp only [Act.put, List.setIfInBounds_toArray, List.set_cons_zero, List.set_cons_succ]
                refine pureE (i := 12) (L := #[true, true, true, true, true, true, true, true, true, true, true, true, true, true, true, false, false, false]) (v := ?_) rfl (by rfl) (by kernel_rfl) (by kernel_rfl) (by kernel_rfl) (fun _ _ _ h => h) (by rfl) ?hy95 ?rest95
                case hy95 => intro w; go_simp; (try with_reducible rfl)
                try simp only [Act.put, List.setIfInBounds_toArray, List.set_cons_zero, List.set_cons_succ]
                obtain ⟨⟨z0, z1, z2⟩, z3, z4, z5⟩ := boxD hV13
                refine stepK (i := 15) (L := #[true, true, true, true, true, true, true, true, true, true, true, true, true, true, true, true, false, false]) rfl (by rfl) (by kernel_rfl) (by rfl) (fun K hK => ?_)
                go_simp
                have k_ : Keeps wr (((w_86.setCell ⟨w_60.heap.size, 0, none⟩ (.bool M.s)).setCell ⟨w_60.heap.size, 1, none⟩ (.slice M.A M.n M.c)).setCell ⟨w_60.heap.size, 2, none⟩ (.int .i64 M.e)) := fun p hp => (box_far (by omega) _ _ _).trans (kp_ p hp)
                have x_ := box_put hV13 (.bool M.s) (.slice M.A M.n M.c) (.int .i64 M.e)
                have hb_ := below_put b_ (g := w_60.heap.size) (by omega) (.bool M.s) (.slice M.A M.n M.c) (.int .i64 M.e)
                have hs_ := size_put (w := w_86) (g := w_60.heap.size) (.bool M.s) (.slice M.A M.n M.c) (.int .i64 M.e)
                have hf_ : ∀ j, j ≠ w_60.heap.size → (((w_86.setCell ⟨w_60.heap.size, 0, none⟩ (.bool M.s)).setCell ⟨w_60.heap.size, 1, none⟩ (.slice M.A M.n M.c)).setCell ⟨w_60.heap.size, 2, none⟩ (.int .i64 M.e)).heap[j]? = w_86.heap[j]? := fun j hj => box_far (Ne.symm hj) _ _ _
                refine hK _ _ ⟨fun _ _ => k_, ?_⟩
                clear hK K z0 z1 z2 z3 z4 z5
                try simp only [Act.put, List.setIfInBounds_toArray, List.set_cons_zero, List.set_cons_succ]
                generalize ((w_86.setCell ⟨w_60.heap.size, 0, none⟩ (.bool M.s)).setCell ⟨w_60.heap.size, 1, none⟩ (.slice M.A M.n M.c)).setCell ⟨w_60.heap.size, 2, none⟩ (.int .i64 M.e) = w_87 at *
                have lw_87 : w_86.heap.size ≤ w_87.heap.size := Nat.le_of_eq hs_.symm
                have l2w_87 : w_87.heap.size ≤ w_86.heap.size := Nat.le_of_eq hs_
                clear hs_ hV13
                have hV13 := x_
                replace kp_ := k_
                replace b_ := hb_
                clear x_ k_ hb_
                replace hV14 := (hf_ _ (by omega)).trans hV14
                replace IM := ints_rng IM (w' := w_87) (fun b h1 h2 => hf_ b (by omega))
                replace ID := ints_rng ID (w' := w_87) (fun b h1 h2 => hf_ b (by omega))
                clear hf_
                obtain ⟨⟨z0, z1, z2⟩, z3, z4, z5⟩ := boxD hV14
                refine stepK (i := 16) (L := #[true, true, true, true, true, true, true, true, true, true, true, true, true, true, true, true, true, false]) rfl (by rfl) (by kernel_rfl) (by rfl) (fun K hK => ?_)
                go_simp
                have k_ : Keeps wr (((w_87.setCell ⟨w_78.heap.size, 0, none⟩ (.bool D.s)).setCell ⟨w_78.heap.size, 1, none⟩ (.slice D.A D.n D.c)).setCell ⟨w_78.heap.size, 2, none⟩ (.int .i64 D.e)) := fun p hp => (box_far (by omega) _ _ _).trans (kp_ p hp)
                have x_ := box_put hV14 (.bool D.s) (.slice D.A D.n D.c) (.int .i64 D.e)
                have hb_ := below_put b_ (g := w_78.heap.size) (by omega) (.bool D.s) (.slice D.A D.n D.c) (.int .i64 D.e)
                have hs_ := size_put (w := w_87) (g := w_78.heap.size) (.bool D.s) (.slice D.A D.n D.c) (.int .i64 D.e)
                have hf_ : ∀ j, j ≠ w_78.heap.size → (((w_87.setCell ⟨w_78.heap.size, 0, none⟩ (.bool D.s)).setCell ⟨w_78.heap.size, 1, none⟩ (.slice D.A D.n D.c)).setCell ⟨w_78.heap.size, 2, none⟩ (.int .i64 D.e)).heap[j]? = w_87.heap[j]? := fun j hj => box_far (Ne.symm hj) _ _ _
                refine hK _ _ ⟨fun _ _ => k_, ?_⟩
                clear hK K z0 z1 z2 z3 z4 z5
                try simp only [Act.put, List.setIfInBounds_toArray, List.set_cons_zero, List.set_cons_succ]
                generalize ((w_87.setCell ⟨w_78.heap.size, 0, none⟩ (.bool D.s)).setCell ⟨w_78.heap.size, 1, none⟩ (.slice D.A D.n D.c)).setCell ⟨w_78.heap.size, 2, none⟩ (.int .i64 D.e) = w_88 at *
                have lw_88 : w_87.heap.size ≤ w_88.heap.size := Nat.le_of_eq hs_.symm
                have l2w_88 : w_88.heap.size ≤ w_87.heap.size := Nat.le_of_eq hs_
                clear hs_ hV14
                have hV14 := x_
                replace kp_ := k_
                replace b_ := hb_
                clear x_ k_ hb_
                replace hV13 := (hf_ _ (by omega)).trans hV13
                replace IM := ints_rng IM (w' := w_88) (fun b h1 h2 => hf_ b (by omega))
                replace ID := ints_rng ID (w' := w_88) (fun b h1 h2 => hf_ b (by omega))
                clear hf_
                refine pureE (i := 17) (L := #[true, true, true, true, true, true, true, true, true, true, true, true, true, true, true, true, true, true]) (v := ?_) rfl (by rfl) (by kernel_rfl) (by kernel_rfl) (by kernel_rfl) (fun _ _ _ h => h) (by rfl) ?hy98 ?rest98
                case hy98 => intro w; go_simp; (try with_reducible rfl)
                try simp only [Act.put, List.setIfInBounds_toArray, List.set_cons_zero, List.set_cons_succ]
                refine doneE (by kernel_rfl) ?_ _
                go_wp2_with fail
                go_meet
                exact ⟨w_60.heap.size, w_78.heap.size, M, D, rfl, rfl, rfl, by omega, by omega, hV13, hV14, b_, Lib.hid ⟨iM.out, iD.out⟩, IM.more (by omega) (by omega), ID.more (by omega) (by omega)⟩
            case o_66 =>
              
              go_simp
              have hB := (Below.refl w_60.heap.size w_60).alloc (Nat.le_refl _) (.cells #[.bool false, .slice none 0 0, .int .i64 0] 24)
              have hV14 := heap_alloc_last w_60 (.cells #[.bool false, .slice none 0 0, .int .i64 0] 24)
              have mw_89 : w_60.heap.size < (w_60.alloc (.cells #[.bool false, .slice none 0 0, .int .i64 0] 24)).heap.size := by simp
              generalize hww_89 : w_60.alloc (.cells #[.bool false, .slice none 0 0, .int .i64 0] 24) = w_89 at *
              replace kp_ := Keeps.on kp_ (by omega) hB
              have lw_89 : w_60.heap.size ≤ w_89.heap.size := hB.size
              replace Xa := Ints.below Xa hB (by omega)
              replace Xb := Ints.below Xb hB (by omega)
              replace tT2 := tT2.below hB tT2.lt
              replace b_ := b_.trans (hB.mono (by omega))
              clear hB
              refine hK _ _ ⟨fun _ _ => kp_, ?_⟩
              clear hK K
              try simp only [Act.put, List.setIfInBounds_toArray, List.set_cons_zero, List.set_cons_succ]
              try clear hww_89
              refine stepK2 (i := 8) (j := 13) (Li := #[true, true, true, true, true, true, true, true, true, false, false, false, false, false, true, false, false, false]) (Lj := #[true, true, true, true, true, true, true, true, false, false, false, false, false, true, true, false, false, false]) rfl rfl (by rfl) (by rfl) (by kernel_rfl) (by rfl) (by rfl) (fun K hK => ?o_90) (fun K hK => ?o_91)
              case o_90 =>
                
                go_simp
                go_at_call 80
                refine (middle_any w_89 a.A O.A (Xa.more (Nat.le_refl _) (by omega)) (Xb.more (Nat.le_refl _) (by omega)) tT2 (dnM a 3) (dnM b 3) (iA.out 3 (by decide)) ib.out (mA.out 3 (by decide)) (mB.out 3 (by decide)) r2 d2 q2 H2.out).mono ?_
                rintro e' w_92 ⟨M, D, rfl, hB, iM, iD, IM, ID⟩
                replace iM := Lib.hid iM
                replace iD := Lib.hid iD
                replace kp_ := Keeps.on kp_ (by omega) hB
                have lw_92 : w_89.heap.size ≤ w_92.heap.size := hB.size
                replace hV14 := (hB.block _ (lt_of_heap hV14)).trans hV14
                replace Xa := Ints.below Xa hB (by omega)
                replace Xb := Ints.below Xb hB (by omega)
                replace tT2 := tT2.below hB tT2.lt
                replace b_ := b_.trans (hB.mono (by omega))
                clear hB
                refine hK _ _ ⟨fun _ _ => kp_, ?_⟩
                clear hK K
                try simp only [Act.put, List.setIfInBounds_toArray, List.set_cons_zero, List.set_cons_succ]
                refine pureE (i := 9) (L := #[true, true, true, true, true, true, true, true, true, true, false, false, false, false, true, false, false, false]) (v := ?_) rfl (by rfl) (by kernel_rfl) (by kernel_rfl) (by kernel_rfl) (fun _ _ _ h => h) (by rfl) ?hy99 ?rest99
                case hy99 => intro w; go_simp; (try with_reducible rfl)
                try simp only [Act.put, List.setIfInBounds_toArray, List.set_cons_zero, List.set_cons_succ]
                refine pureE (i := 10) (L := #[true, true, true, true, true, true, true, true, true, true, true, false, false, false, true, false, false, false]) (v := ?_) rfl (by rfl) (by kernel_rfl) (by kernel_rfl) (by kernel_rfl) (fun _ _ _ h => h) (by rfl) ?hy100 ?rest100
                case hy100 => intro w; go_simp; (try with_reducible rfl)
                try simp only [Act.put, List.setIfInBounds_toArray, List.set_cons_zero, List.set_cons_succ]
                refine pureE (i := 11) (L := #[true, true, true, true, true, true, true, true, true, true, true, true, false, false, true, false, false, false]) (v := ?_) rfl (by rfl) (by kernel_rfl) (by kernel_rfl) (by kernel_rfl) (fun _ _ _ h => h) (by rfl) ?hy101 ?rest101
                case hy101 => intro w; go_simp; (try with_reducible rfl)
                try simp only [Act.put, List.setIfInBounds_toArray, List.set_cons_zero, List.set_cons_succ]
                refine pureE (i := 12) (L := #[true, true, true, true, true, true, true, true, true, true, true, true, true, false, true, false, false, false]) (v := ?_) rfl (by rfl) (by kernel_rfl) (by kernel_rfl) (by kernel_rfl) (fun _ _ _ h => h) (by rfl) ?hy102 ?rest102
                case hy102 => intro w; go_simp; (try with_reducible rfl)
                try simp only [Act.put, List.setIfInBounds_toArray, List.set_cons_zero, List.set_cons_succ]
                refine stepK (i := 13) (L := #[true, true, true, true, true, true, true, true, true, true, true, true, true, true, true, false, false, false]) rfl (by rfl) (by kernel_rfl) (by rfl) (fun K hK => ?_)
                go_simp
                have hB := (Below.refl w_92.heap.size w_92).alloc (Nat.le_refl _) (.cells #[.bool false, .slice none 0 0, .int .i64 0] 24)
                have hV13 := heap_alloc_last w_92 (.cells #[.bool false, .slice none 0 0, .int .i64 0] 24)
                have mw_93 : w_92.heap.size < (w_92.alloc (.cells #[.bool false, .slice none 0 0, .int .i64 0] 24)).heap.size := by simp
                generalize hww_93 : w_92.alloc (.cells #[.bool false, .slice none 0 0, .int .i64 0] 24) = w_93 at *
                replace kp_ := Keeps.on kp_ (by omega) hB
                have lw_93 : w_92.heap.size ≤ w_93.heap.size := hB.size
                replace hV14 := (hB.block _ (lt_of_heap hV14)).trans hV14
                replace Xa := Ints.below Xa hB (by omega)
                replace Xb := Ints.below Xb hB (by omega)
                replace IM := Ints.below IM hB (by omega)
                replace ID := Ints.below ID hB (by omega)
                replace tT2 := tT2.below hB tT2.lt
                replace b_ := b_.trans (hB.mono (by omega))
                clear hB
                refine hK _ _ ⟨fun _ _ => kp_, ?_⟩
                clear hK K
                try simp only [Act.put, List.setIfInBounds_toArray, List.set_cons_zero, List.set_cons_succ]
                try clear hww_93
                obtain ⟨⟨z0, z1, z2⟩, z3, z4, z5⟩ := boxD hV13
                refine stepK (i := 15) (L := #[true, true, true, true, true, true, true, true, true, true, true, true, true, true, true, true, false, false]) rfl (by rfl) (by kernel_rfl) (by rfl) (fun K hK => ?_)
                go_simp
                have k_ : Keeps wr (((w_93.setCell ⟨w_92.heap.size, 0, none⟩ (.bool M.s)).setCell ⟨w_92.heap.size, 1, none⟩ (.slice M.A M.n M.c)).setCell ⟨w_92.heap.size, 2, none⟩ (.int .i64 M.e)) := fun p hp => (box_far (by omega) _ _ _).trans (kp_ p hp)
                have x_ := box_put hV13 (.bool M.s) (.slice M.A M.n M.c) (.int .i64 M.e)
                have hb_ := below_put b_ (g := w_92.heap.size) (by omega) (.bool M.s) (.slice M.A M.n M.c) (.int .i64 M.e)
                have hs_ := size_put (w := w_93) (g := w_92.heap.size) (.bool M.s) (.slice M.A M.n M.c) (.int .i64 M.e)
                have hf_ : ∀ j, j ≠ w_92.heap.size → (((w_93.setCell ⟨w_92.heap.size, 0, none⟩ (.bool M.s)).setCell ⟨w_92.heap.size, 1, none⟩ (.slice M.A M.n M.c)).setCell ⟨w_92.heap.size, 2, none⟩ (.int .i64 M.e)).heap[j]? = w_93.heap[j]? := fun j hj => box_far (Ne.symm hj) _ _ _
                refine hK _ _ ⟨fun _ _ => k_, ?_⟩
                clear hK K z0 z1 z2 z3 z4 z5
                try simp only [Act.put, List.setIfInBounds_toArray, List.set_cons_zero, List.set_cons_succ]
                generalize ((w_93.setCell ⟨w_92.heap.size, 0, none⟩ (.bool M.s)).setCell ⟨w_92.heap.size, 1, none⟩ (.slice M.A M.n M.c)).setCell ⟨w_92.heap.size, 2, none⟩ (.int .i64 M.e) = w_94 at *
                have lw_94 : w_93.heap.size ≤ w_94.heap.size := Nat.le_of_eq hs_.symm
                have l2w_94 : w_94.heap.size ≤ w_93.heap.size := Nat.le_of_eq hs_
                clear hs_ hV13
                have hV13 := x_
                replace kp_ := k_
                replace b_ := hb_
                clear x_ k_ hb_
                replace hV14 := (hf_ _ (by omega)).trans hV14
                replace IM := ints_rng IM (w' := w_94) (fun b h1 h2 => hf_ b (by omega))
                replace ID := ints_rng ID (w' := w_94) (fun b h1 h2 => hf_ b (by omega))
                clear hf_
                obtain ⟨⟨z0, z1, z2⟩, z3, z4, z5⟩ := boxD hV14
                refine stepK (i := 16) (L := #[true, true, true, true, true, true, true, true, true, true, true, true, true, true, true, true, true, false]) rfl (by rfl) (by kernel_rfl) (by rfl) (fun K hK => ?_)
                go_simp
                have k_ : Keeps wr (((w_94.setCell ⟨w_60.heap.size, 0, none⟩ (.bool D.s)).setCell ⟨w_60.heap.size, 1, none⟩ (.slice D.A D.n D.c)).setCell ⟨w_60.heap.size, 2, none⟩ (.int .i64 D.e)) := fun p hp => (box_far (by omega) _ _ _).trans (kp_ p hp)
                have x_ := box_put hV14 (.bool D.s) (.slice D.A D.n D.c) (.int .i64 D.e)
                have hb_ := below_put b_ (g := w_60.heap.size) (by omega) (.bool D.s) (.slice D.A D.n D.c) (.int .i64 D.e)
                have hs_ := size_put (w := w_94) (g := w_60.heap.size) (.bool D.s) (.slice D.A D.n D.c) (.int .i64 D.e)
                have hf_ : ∀ j, j ≠ w_60.heap.size → (((w_94.setCell ⟨w_60.heap.size, 0, none⟩ (.bool D.s)).setCell ⟨w_60.heap.size, 1, none⟩ (.slice D.A D.n D.c)).setCell ⟨w_60.heap.size, 2, none⟩ (.int .i64 D.e)).heap[j]? = w_94.heap[j]? := fun j hj => box_far (Ne.symm hj) _ _ _
                refine hK _ _ ⟨fun _ _ => k_, ?_⟩
                clear hK K z0 z1 z2 z3 z4 z5
                try simp only [Act.put, List.setIfInBounds_toArray, List.set_cons_zero, List.set_cons_succ]
                generalize ((w_94.setCell ⟨w_60.heap.size, 0, none⟩ (.bool D.s)).setCell ⟨w_60.heap.size, 1, none⟩ (.slice D.A D.n D.c)).setCell ⟨w_60.heap.size, 2, none⟩ (.int .i64 D.e) = w_95 at *
                have lw_95 : w_94.heap.size ≤ w_95.heap.size := Nat.le_of_eq hs_.symm
                have l2w_95 : w_95.heap.size ≤ w_94.heap.size := Nat.le_of_eq hs_
                clear hs_ hV14
                have hV14 := x_
                replace kp_ := k_
                replace b_ := hb_
                clear x_ k_ hb_
                replace hV13 := (hf_ _ (by omega)).trans hV13
                replace IM := ints_rng IM (w' := w_95) (fun b h1 h2 => hf_ b (by omega))
                replace ID := ints_rng ID (w' := w_95) (fun b h1 h2 => hf_ b (by omega))
                clear hf_
                refine pureE (i := 17) (L := #[true, true, true, true, true, true, true, true, true, true, true, true, true, true, true, true, true, true]) (v := ?_) rfl (by rfl) (by kernel_rfl) (by kernel_rfl) (by kernel_rfl) (fun _ _ _ h => h) (by rfl) ?hy106 ?rest106
                case hy106 => intro w; go_simp; (try with_reducible rfl)
                try simp only [Act.put, List.setIfInBounds_toArray, List.set_cons_zero, List.set_cons_succ]
                refine doneE (by kernel_rfl) ?_ _
                go_wp2_with fail
                go_meet
                exact ⟨w_92.heap.size, w_60.heap.size, M, D, rfl, rfl, rfl, by omega, by omega, hV13, hV14, b_, Lib.hid ⟨iM.out, iD.out⟩, IM.more (by omega) (by omega), ID.more (by omega) (by omega)⟩
              case o_91 =>
                
                go_simp
                have hB := (Below.refl w_89.heap.size w_89).alloc (Nat.le_refl _) (.cells #[.bool false, .slice none 0 0, .int .i64 0] 24)
                have hV13 := heap_alloc_last w_89 (.cells #[.bool false, .slice none 0 0, .int .i64 0] 24)
                have mw_96 : w_89.heap.size < (w_89.alloc (.cells #[.bool false, .slice none 0 0, .int .i64 0] 24)).heap.size := by simp
                generalize hww_96 : w_89.alloc (.cells #[.bool false, .slice none 0 0, .int .i64 0] 24) = w_96 at *
                replace kp_ := Keeps.on kp_ (by omega) hB
                have lw_96 : w_89.heap.size ≤ w_96.heap.size := hB.size
                replace hV14 := (hB.block _ (lt_of_heap hV14)).trans hV14
                replace Xa := Ints.below Xa hB (by omega)
                replace Xb := Ints.below Xb hB (by omega)
                replace tT2 := tT2.below hB tT2.lt
                replace b_ := b_.trans (hB.mono (by omega))
                clear hB
                refine hK _ _ ⟨fun _ _ => kp_, ?_⟩
                clear hK K
                try simp only [Act.put, List.setIfInBounds_toArray, List.set_cons_zero, List.set_cons_succ]
                try clear hww_96
                refine stepK (i := 8) (L := #[true, true, true, true, true, true, true, true, true, false, false, false, false, true, true, false, false, false]) rfl (by rfl) (by kernel_rfl) (by rfl) (fun K hK => ?_)
                go_simp
                go_at_call 80
                refine (middle_any w_96 a.A O.A (Xa.more (Nat.le_refl _) (by omega)) (Xb.more (Nat.le_refl _) (by omega)) tT2 (dnM a 3) (dnM b 3) (iA.out 3 (by decide)) ib.out (mA.out 3 (by decide)) (mB.out 3 (by decide)) r2 d2 q2 H2.out).mono ?_
                rintro e' w_97 ⟨M, D, rfl, hB, iM, iD, IM, ID⟩
                replace iM := Lib.hid iM
                replace iD := Lib.hid iD
                replace kp_ := Keeps.on kp_ (by omega) hB
                have lw_97 : w_96.heap.size ≤ w_97.heap.size := hB.size
                replace hV14 := (hB.block _ (lt_of_heap hV14)).trans hV14
                replace hV13 := (hB.block _ (lt_of_heap hV13)).trans hV13
                replace Xa := Ints.below Xa hB (by omega)
                replace Xb := Ints.below Xb hB (by omega)
                replace tT2 := tT2.below hB tT2.lt
                replace b_ := b_.trans (hB.mono (by omega))
                clear hB
                refine hK _ _ ⟨fun _ _ => kp_, ?_⟩
                clear hK K
                try simp only [Act.put, List.setIfInBounds_toArray, List.set_cons_zero, List.set_cons_succ]
                refine pureE (i := 9) (L := #[true, true, true, true, true, true, true, true, true, true, false, false, false, true, true, false, false, false]) (v := ?_) rfl (by rfl) (by kernel_rfl) (by kernel_rfl) (by kernel_rfl) (fun _ _ _ h => h) (by rfl) ?hy108 ?rest108
                case hy108 => intro w; go_simp; (try with_reducible rfl)
                try simp only [Act.put, List.setIfInBounds_toArray, List.set_cons_zero, List.set_cons_succ]
                refine pureE (i := 10) (L := #[true, true, true, true, true, true, true, true, true, true, true, false, false, true, true, false, false, false]) (v := ?_) rfl (by rfl) (by kernel_rfl) (by kernel_rfl) (by kernel_rfl) (fun _ _ _ h => h) (by rfl) ?hy109 ?rest109
                case hy109 => intro w; go_simp; (try with_reducible rfl)
                try simp only [Act.put, List.setIfInBounds_toArray, List.set_cons_zero, List.set_cons_succ]
                refine pureE (i := 11) (L := #[true, true, true, true, true, true, true, true, true, true, true, true, false, true, true, false, false, false]) (v := ?_) rfl (by rfl) (by kernel_rfl) (by kernel_rfl) (by kernel_rfl) (fun _ _ _ h => h) (by rfl) ?hy110 ?rest110
                case hy110 => intro w; go_simp; (try with_reducible rfl)
                try simp only [Act.put, List.setIfInBounds_toArray, List.set_cons_zero, List.set_cons_succ]
                refine pureE (i := 12) (L := #[true, true, true, true, true, true, true, true, true, true, true, true, true, true, true, false, false, false]) (v := ?_) rfl (by rfl) (by kernel_rfl) (by kernel_rfl) (by kernel_rfl) (fun _ _ _ h => h) (by rfl) ?hy111 ?rest111
                case hy111 => intro w; go_simp; (try with_reducible rfl)
                try simp only [Act.put, List.setIfInBounds_toArray, List.set_cons_zero, List.set_cons_succ]
                obtain ⟨⟨z0, z1, z2⟩, z3, z4, z5⟩ := boxD hV13
                refine stepK (i := 15) (L := #[true, true, true, true, true, true, true, true, true, true, true, true, true, true, true, true, false, false]) rfl (by rfl) (by kernel_rfl) (by rfl) (fun K hK => ?_)
                go_simp
                have k_ : Keeps wr (((w_97.setCell ⟨w_89.heap.size, 0, none⟩ (.bool M.s)).setCell ⟨w_89.heap.size, 1, none⟩ (.slice M.A M.n M.c)).setCell ⟨w_89.heap.size, 2, none⟩ (.int .i64 M.e)) := fun p hp => (box_far (by omega) _ _ _).trans (kp_ p hp)
                have x_ := box_put hV13 (.bool M.s) (.slice M.A M.n M.c) (.int .i64 M.e)
                have hb_ := below_put b_ (g := w_89.heap.size) (by omega) (.bool M.s) (.slice M.A M.n M.c) (.int .i64 M.e)
                have hs_ := size_put (w := w_97) (g := w_89.heap.size) (.bool M.s) (.slice M.A M.n M.c) (.int .i64 M.e)
                have hf_ : ∀ j, j ≠ w_89.heap.size → (((w_97.setCell ⟨w_89.heap.size, 0, none⟩ (.bool M.s)).setCell ⟨w_89.heap.size, 1, none⟩ (.slice M.A M.n M.c)).setCell ⟨w_89.heap.size, 2, none⟩ (.int .i64 M.e)).heap[j]? = w_97.heap[j]? := fun j hj => box_far (Ne.symm hj) _ _ _
                refine hK _ _ ⟨fun _ _ => k_, ?_⟩
                clear hK K z0 z1 z2 z3 z4 z5
                try simp only [Act.put, List.setIfInBounds_toArray, List.set_cons_zero, List.set_cons_succ]
                generalize ((w_97.setCell ⟨w_89.heap.size, 0, none⟩ (.bool M.s)).setCell ⟨w_89.heap.size, 1, none⟩ (.slice M.A M.n M.c)).setCell ⟨w_89.heap.size, 2, none⟩ (.int .i64 M.e) = w_98 at *
                have lw_98 : w_97.heap.size ≤ w_98.heap.size := Nat.le_of_eq hs_.symm
                have l2w_98 : w_98.heap.size ≤ w_97.heap.size := Nat.le_of_eq hs_
                clear hs_ hV13
                have hV13 := x_
                replace kp_ := k_
                replace b_ := hb_
                clear x_ k_ hb_
                replace hV14 := (hf_ _ (by omega)).trans hV14
                replace IM := ints_rng IM (w' := w_98) (fun b h1 h2 => hf_ b (by omega))
                replace ID := ints_rng ID (w' := w_98) (fun b h1 h2 => hf_ b (by omega))
                clear hf_
                obtain ⟨⟨z0, z1, z2⟩, z3, z4, z5⟩ := boxD hV14
                refine stepK (i := 16) (L := #[true, true, true, true, true, true, true, true, true, true, true, true, true, true, true, true, true, false]) rfl (by rfl) (by kernel_rfl) (by rfl) (fun K hK => ?_)
                go_simp
                have k_ : Keeps wr (((w_98.setCell ⟨w_60.heap.size, 0, none⟩ (.bool D.s)).setCell ⟨w_60.heap.size, 1, none⟩ (.slice D.A D.n D.c)).setCell ⟨w_60.heap.size, 2, none⟩ (.int .i64 D.e)) := fun p hp => (box_far (by omega) _ _ _).trans (kp_ p hp)
                have x_ := box_put hV14 (.bool D.s) (.slice D.A D.n D.c) (.int .i64 D.e)
                have hb_ := below_put b_ (g := w_60.heap.size) (by omega) (.bool D.s) (.slice D.A D.n D.c) (.int .i64 D.e)
                have hs_ := size_put (w := w_98) (g := w_60.heap.size) (.bool D.s) (.slice D.A D.n D.c) (.int .i64 D.e)
                have hf_ : ∀ j, j ≠ w_60.heap.size → (((w_98.setCell ⟨w_60.heap.size, 0, none⟩ (.bool D.s)).setCell ⟨w_60.heap.size, 1, none⟩ (.slice D.A D.n D.c)).setCell ⟨w_60.heap.size, 2, none⟩ (.int .i64 D.e)).heap[j]? = w_98.heap[j]? := fun j hj => box_far (Ne.symm hj) _ _ _
                refine hK _ _ ⟨fun _ _ => k_, ?_⟩
                clear hK K z0 z1 z2 z3 z4 z5
                try simp only [Act.put, List.setIfInBounds_toArray, List.set_cons_zero, List.set_cons_succ]
                generalize ((w_98.setCell ⟨w_60.heap.size, 0, none⟩ (.bool D.s)).setCell ⟨w_60.heap.size, 1, none⟩ (.slice D.A D.n D.c)).setCell ⟨w_60.heap.size, 2, none⟩ (.int .i64 D.e) = w_99 at *
                have lw_99 : w_98.heap.size ≤ w_99.heap.size := Nat.le_of_eq hs_.symm
                have l2w_99 : w_99.heap.size ≤ w_98.heap.size := Nat.le_of_eq hs_
                clear hs_ hV14
                have hV14 := x_
                replace kp_ := k_
                replace b_ := hb_
                clear x_ k_ hb_
                replace hV13 := (hf_ _ (by omega)).trans hV13
                replace IM := ints_rng IM (w' := w_99) (fun b h1 h2 => hf_ b (by omega))
                replace ID := ints_rng ID (w' := w_99) (fun b h1 h2 => hf_ b (by omega))
                clear hf_
                refine pureE (i := 17) (L := #[true, true, true, true, true, true, true, true, true, true, true, true, true, true, true, true, true, true]) (v := ?_) rfl (by rfl) (by kernel_rfl) (by kernel_rfl) (by kernel_rfl) (fun _ _ _ h => h) (by rfl) ?hy114 ?rest114
                case hy114 => intro w; go_simp; (try with_reducible rfl)
                try simp only [Act.put, List.setIfInBounds_toArray, List.set_cons_zero, List.set_cons_succ]
                refine doneE (by kernel_rfl) ?_ _
                go_wp2_with fail
                go_meet
                exact ⟨w_89.heap.size, w_60.heap.size, M, D, rfl, rfl, rfl, by omega, by omega, hV13, hV14, b_, Lib.hid ⟨iM.out, iD.out⟩, IM.more (by omega) (by omega), ID.more (by omega) (by omega)⟩
          case rest =>
            obtain ⟨g11, g12, M, D, rfl, rfl, rfl, lg11, lg12, X11, X12, hB, hI, IM, ID⟩ := hcut
            obtain ⟨w2, hwc⟩ : ∃ W : World, W = wc := ⟨_, rfl⟩
            subst hwc
            have lw2 : wr.heap.size ≤ w2.heap.size := hB.size
            replace hMa := box_on hMa hB (lt_of_heap hMa)
            replace hO := box_on hO hB (lt_of_heap hO)
            replace hY := box_on hY hB (lt_of_heap hY)
            replace hWas := (hB.block _ (lt_of_heap hWas)).trans hWas
            replace hTo := (hB.block _ (lt_of_heap hTo)).trans hTo
            have hBW := hBL.trans (hB.mono hBL.size)
            have lw0 : w.heap.size ≤ wr.heap.size := hBL.size
            have lg11' : g11 < w2.heap.size := lt_of_heap X11
            have lg12' : g12 < w2.heap.size := lt_of_heap X12
            clear Ra Rb tT
            obtain ⟨hi0, hhi0⟩ : ∃ h, h = w2.heap.size := ⟨_, rfl⟩
            have lh1 : hi0 ≤ w2.heap.size := by omega
            have lh2 : w2.heap.size ≤ hi0 := by omega
            rw [← hhi0] at IM ID
            clear hhi0
            rcases c2.out with rfl | rfl
            rotate_left
            · skip
              have hcode := HR2.out
              rw [if_neg (by simp)] at hcode
              injection hcode with h1 h2
              injection h1 with h1 h3
              subst h1 h2 h3
              have hZ := hO
              clear hO
              obtain ⟨⟨q_100_0, q_100_1, q_100_2, q_100_3, q_100_4, q_100_5, q_100_6, q_100_7, q_100_8, q_100_9, q_100_10, q_100_11⟩, q_100f⟩ := MBox.cells hZ
              obtain ⟨⟨q_101_0, q_101_1, q_101_2, q_101_3, q_101_4, q_101_5, q_101_6, q_101_7, q_101_8, q_101_9, q_101_10, q_101_11⟩, q_101f⟩ := MBox.cells hY
              go_wp2
              obtain ⟨U1, M1, hc1, hM1, hX1, hb1, hf1, _, _⟩ := zero_to hZ
              rw [hc1]
              obtain ⟨U, M, hc2, hMe, hX2, hb2, hf2, _, _⟩ := zero_to (show MBox U1 (w.heap.size + 1 + 1 + 1) _ from (hf1 _ (by omega)).trans hY)
              rw [hc2]
              replace hX1 : MBox U (w.heap.size + 1 + 1) M := by rw [hMe, ← hM1]; exact (hf2 _ (by omega)).trans hX1
              have hQ := hb2 _ _ (hb1 _ _ hBW (by omega)) (by omega)
              clear q_100_0 q_100_1 q_100_2 q_100_3 q_100_4 q_100_5 q_100_6 q_100_7 q_100_8 q_100_9 q_100_10 q_100_11 q_100f q_101_0 q_101_1 q_101_2 q_101_3 q_101_4 q_101_5 q_101_6 q_101_7 q_101_8 q_101_9 q_101_10 q_101_11 q_101f
              clear hc1 hc2
              obtain ⟨⟨k0, k1, k2, k3, k4, k5, k6, k7, k8, k9, k10, k11⟩, kf⟩ := MBox.cells hX1
              obtain ⟨⟨y0, y1, y2, y3, y4, y5, y6, y7, y8, y9, y10, y11⟩, yf⟩ := MBox.cells hX2
              refine bodyPost_ret (v := .tuple #[.agg #[.bool M.S.s, .slice M.S.A M.S.n M.S.c, .int .i64 M.S.e, .bool M.W.s, .slice M.W.A M.W.n M.W.c, .int .i64 M.W.e, .bool M.C.s, .slice M.C.A M.C.n M.C.c, .int .i64 M.C.e, .bool M.A.s, .slice M.A.A M.A.n M.A.c, .int .i64 M.A.e], .agg #[.bool M.S.s, .slice M.S.A M.S.n M.S.c, .int .i64 M.S.e, .bool M.W.s, .slice M.W.A M.W.n M.W.c, .int .i64 M.W.e, .bool M.C.s, .slice M.C.A M.C.n M.C.c, .int .i64 M.C.e, .bool M.A.s, .slice M.A.A M.A.n M.A.c, .int .i64 M.A.e], .int .i64 10]) (by simp [results, Tryd.results43, go_sem, k0, k1, k2, k3, k4, k5, k6, k7, k8, k9, k10, k11, y0, y1, y2, y3, y4, y5, y6, y7, y8, y9, y10, y11]) rfl ⟨M, M, rfl, hQ, ?_⟩
              rw [hMe]
              exact ⟨IsM.zero, IsM.zero, w.heap.size, Nat.le_refl _, hQ.size, ZM_rows .., ZM_rows ..⟩
            · skip
              go_upto_region 11 with fail
              refine region_E (fun W' : World => W'.heap[g11]? = some (.cells #[.bool M.s, .slice M.A M.n M.c, .int .i64 M.e] 24 (0, 0)) ∧ W'.heap[g12]? = some (.cells #[.bool D.s, .slice D.A D.n D.c, .int .i64 D.e] 24 (0, 0)) ∧ W'.heap[w_15.heap.size + 1]? = some (.cells #[.pointer (some ⟨w.heap.size + 1 + 1 + 1, 6, none⟩), .pointer (some ⟨w.heap.size + 1 + 1 + 1, 9, none⟩)] 102 (0, 0))) [] (m := 10) (L := #[false, false, false, false, false, false, false, false, false, false]) (by kernel_rfl) (by rfl) (by rfl) ?_
              have hS0 : w2.drew.heap[g11]? = some (.cells #[.bool M.s, .slice M.A M.n M.c, .int .i64 M.e] 24 (0, 0)) ∧ w2.drew.heap[g12]? = some (.cells #[.bool D.s, .slice D.A D.n D.c, .int .i64 D.e] 24 (0, 0)) ∧ w2.drew.heap[w_15.heap.size + 1]? = some (.cells #[.pointer (some ⟨w.heap.size + 1 + 1 + 1, 6, none⟩), .pointer (some ⟨w.heap.size + 1 + 1 + 1, 9, none⟩)] 102 (0, 0)) := ⟨X11, X12, hTo⟩
              refine pureE (i := 0) (L := #[true, false, false, false, false, false, false, false, false, false]) (v := ?_) rfl (by rfl) (by kernel_rfl) (by kernel_rfl) (by kernel_rfl) (fun _ _ _ h => h) (by rfl) ?hy115 ?rest115
              case hy115 => intro w; go_simp; (try with_reducible rfl)
              try simp only [Act.put, List.setIfInBounds_toArray, List.set_cons_zero, List.set_cons_succ]
              refine pureE (i := 1) (L := #[true, true, false, false, false, false, false, false, false, false]) (v := ?_) rfl (by rfl) (by kernel_rfl) (by kernel_rfl) (by kernel_rfl) (fun _ _ _ h => h) (by rfl) ?hy116 ?rest116
              case hy116 => intro w; go_simp; (try with_reducible rfl)
              try simp only [Act.put, List.setIfInBounds_toArray, List.set_cons_zero, List.set_cons_succ]
              refine pureE (i := 2) (L := #[true, true, true, false, false, false, false, false, false, false]) (v := ?_) rfl (by rfl) (by kernel_rfl) (by kernel_rfl) (by kernel_rfl) (fun _ _ _ h => h) (by rfl) ?hy117 ?rest117
              case hy117 => intro w; go_simp; (try with_reducible rfl)
              try simp only [Act.put, List.setIfInBounds_toArray, List.set_cons_zero, List.set_cons_succ]
              refine readE (i := 3) (L := #[true, true, true, true, false, false, false, false, false, false]) (v := .pointer (some ⟨w.heap.size + 1 + 1 + 1, 9, none⟩)) rfl (by rfl) (by kernel_rfl) (by kernel_rfl) (by kernel_rfl) (fun _ _ _ h => h) (by assumption) (by rfl) ?ya1_ ?za1_
              case ya1_ =>
                intro w' h1
                have c_ := cell_of_row w' _ 1 _ _ _ h1.2.2
                go_simp
              try simp only [Act.put, List.setIfInBounds_toArray, List.set_cons_zero, List.set_cons_succ]
              refine readE (i := 4) (L := #[true, true, true, true, true, false, false, false, false, false]) (v := .agg #[.bool M.s, .slice M.A M.n M.c, .int .i64 M.e]) rfl (by rfl) (by kernel_rfl) (by kernel_rfl) (by kernel_rfl) (fun _ _ _ h => h) (by assumption) (by rfl) ?yb1_ ?zb1_
              case yb1_ =>
                intro w' h1
                obtain ⟨⟨e0, e1, e2⟩, _⟩ := boxD h1.1
                go_simp
              try simp only [Act.put, List.setIfInBounds_toArray, List.set_cons_zero, List.set_cons_succ]
              refine readE (i := 5) (L := #[true, true, true, true, true, true, false, false, false, false]) (v := .agg #[.bool D.s, .slice D.A D.n D.c, .int .i64 D.e]) rfl (by rfl) (by kernel_rfl) (by kernel_rfl) (by kernel_rfl) (fun _ _ _ h => h) (by assumption) (by rfl) ?yc1_ ?zc1_
              case yc1_ =>
                intro w' h1
                obtain ⟨⟨e0, e1, e2⟩, _⟩ := boxD h1.2.1
                go_simp
              try simp only [Act.put, List.setIfInBounds_toArray, List.set_cons_zero, List.set_cons_succ]
              refine pureE (i := 6) (L := #[true, true, true, true, true, true, true, false, false, false]) (v := ?_) rfl (by rfl) (by kernel_rfl) (by kernel_rfl) (by kernel_rfl) (fun _ _ _ h => h) (by rfl) ?hy121 ?rest121
              case hy121 => intro w; go_simp; (try with_reducible rfl)
              try simp only [Act.put, List.setIfInBounds_toArray, List.set_cons_zero, List.set_cons_succ]
              have hO2 : MBox w2.drew (w.heap.size + 1 + 1) O := hO
              have hY2 : MBox w2.drew (w.heap.size + 1 + 1 + 1) K_ := hY
              have hMa2 : MBox w2.drew w.heap.size a := hMa
              have hWas2 : w2.drew.heap[w_15.heap.size]? = some (.cells #[.pointer (some ⟨w.heap.size, 6, none⟩), .pointer (some ⟨w.heap.size, 9, none⟩)] 102 (0, 0)) := hWas
              have hb2 : Below w.heap.size w w2.drew := hBW.drew
              have hP2 : ∀ j, j < wr.heap.size → w2.drew.heap[j]? = wr.heap[j]? := fun j hj => hB.block j hj
              replace IM : Ints w2.drew wr.heap.size hi0 .u32 M.A M.n M.xs := Ints.drewN IM 1
              replace ID : Ints w2.drew wr.heap.size hi0 .u32 D.A D.n D.xs := Ints.drewN ID 1
              have l3 : w2.heap.size ≤ w2.drew.heap.size := Nat.le_refl _
              have l3' : w2.drew.heap.size ≤ w2.heap.size := Nat.le_refl _
              clear hO hY hMa hWas hTo X11 X12 hBW hB
              generalize w2.drew = w3 at *
              obtain ⟨⟨k0, k1, k2, k3, k4, k5, k6, k7, k8, k9, k10, k11⟩, kf⟩ := MBox.cells hO2
              refine stepK (i := 7) (L := #[true, true, true, true, true, true, true, true, false, false]) rfl (by rfl) (by kernel_rfl) (by rfl) (fun K hK => ?_)
              go_simp
              refine hK _ _ ⟨fun _ h => ⟨(far3 (by omega) _ _ _).trans h.1, (far3 (by omega) _ _ _).trans h.2.1, (far3 (by omega) _ _ _).trans h.2.2⟩, ?_⟩
              clear hK K k0 k1 k2 k3 k4 k5 k6 k7 k8 k9 k10 k11 kf
              try simp only [Act.put, List.setIfInBounds_toArray, List.set_cons_zero, List.set_cons_succ]
              have n_ : MBox (((w3.setCell ⟨w.heap.size + 1 + 1, 9, none⟩ (.bool M.s)).setCell ⟨w.heap.size + 1 + 1, 10, none⟩ (.slice M.A M.n M.c)).setCell ⟨w.heap.size + 1 + 1, 11, none⟩ (.int .i64 M.e)) (w.heap.size + 1 + 1) (O.put 3 M) := MBox.put hO2 (x := 3) (by decide) M
              have hS1 : (((w3.setCell ⟨w.heap.size + 1 + 1, 9, none⟩ (.bool M.s)).setCell ⟨w.heap.size + 1 + 1, 10, none⟩ (.slice M.A M.n M.c)).setCell ⟨w.heap.size + 1 + 1, 11, none⟩ (.int .i64 M.e)).heap[g11]? = some (.cells #[.bool M.s, .slice M.A M.n M.c, .int .i64 M.e] 24 (0, 0)) ∧ (((w3.setCell ⟨w.heap.size + 1 + 1, 9, none⟩ (.bool M.s)).setCell ⟨w.heap.size + 1 + 1, 10, none⟩ (.slice M.A M.n M.c)).setCell ⟨w.heap.size + 1 + 1, 11, none⟩ (.int .i64 M.e)).heap[g12]? = some (.cells #[.bool D.s, .slice D.A D.n D.c, .int .i64 D.e] 24 (0, 0)) ∧ (((w3.setCell ⟨w.heap.size + 1 + 1, 9, none⟩ (.bool M.s)).setCell ⟨w.heap.size + 1 + 1, 10, none⟩ (.slice M.A M.n M.c)).setCell ⟨w.heap.size + 1 + 1, 11, none⟩ (.int .i64 M.e)).heap[w_15.heap.size + 1]? = some (.cells #[.pointer (some ⟨w.heap.size + 1 + 1 + 1, 6, none⟩), .pointer (some ⟨w.heap.size + 1 + 1 + 1, 9, none⟩)] 102 (0, 0)) := ⟨(far3 (by omega) _ _ _).trans hS0.1, (far3 (by omega) _ _ _).trans hS0.2.1, (far3 (by omega) _ _ _).trans hS0.2.2⟩
              have hf_ : ∀ j, j ≠ w.heap.size + 1 + 1 → (((w3.setCell ⟨w.heap.size + 1 + 1, 9, none⟩ (.bool M.s)).setCell ⟨w.heap.size + 1 + 1, 10, none⟩ (.slice M.A M.n M.c)).setCell ⟨w.heap.size + 1 + 1, 11, none⟩ (.int .i64 M.e)).heap[j]? = w3.heap[j]? := fun j hj => far3 hj _ _ _
              have hb_ : Below w.heap.size w (((w3.setCell ⟨w.heap.size + 1 + 1, 9, none⟩ (.bool M.s)).setCell ⟨w.heap.size + 1 + 1, 10, none⟩ (.slice M.A M.n M.c)).setCell ⟨w.heap.size + 1 + 1, 11, none⟩ (.int .i64 M.e)) := below3 hb2 (by omega) _ _ _
              have hs_ : (((w3.setCell ⟨w.heap.size + 1 + 1, 9, none⟩ (.bool M.s)).setCell ⟨w.heap.size + 1 + 1, 10, none⟩ (.slice M.A M.n M.c)).setCell ⟨w.heap.size + 1 + 1, 11, none⟩ (.int .i64 M.e)).heap.size = w3.heap.size := size3 _ _ _
              generalize ((w3.setCell ⟨w.heap.size + 1 + 1, 9, none⟩ (.bool M.s)).setCell ⟨w.heap.size + 1 + 1, 10, none⟩ (.slice M.A M.n M.c)).setCell ⟨w.heap.size + 1 + 1, 11, none⟩ (.int .i64 M.e) = w4 at *
              have lw4 : w3.heap.size ≤ w4.heap.size := Nat.le_of_eq hs_.symm
              have lw4' : w4.heap.size ≤ w3.heap.size := Nat.le_of_eq hs_
              clear hs_ hO2 hS0
              replace hY2 : MBox w4 _ _ := (hf_ _ (by omega)).trans hY2
              replace hMa2 : MBox w4 _ _ := (hf_ _ (by omega)).trans hMa2
              have hO2 := n_
              have hS0 := hS1
              replace hWas2 := (hf_ _ (by omega)).trans hWas2
              replace hb2 := hb_
              replace IM := ints_rng IM (w' := w4) (fun b h1 h2 => hf_ b (by omega))
              replace ID := ints_rng ID (w' := w4) (fun b h1 h2 => hf_ b (by omega))
              replace hP2 : ∀ j, j < wr.heap.size → j ≠ w.heap.size + 1 + 1 → j ≠ w.heap.size + 1 + 1 + 1 → w4.heap[j]? = wr.heap[j]? := fun j hj h1 h2 => (hf_ j h1).trans (hP2 j hj)
              clear n_ hS1 hb_ hf_
              refine pureE (i := 8) (L := #[true, true, true, true, true, true, true, true, true, false]) (v := ?_) rfl (by rfl) (by kernel_rfl) (by kernel_rfl) (by kernel_rfl) (fun _ _ _ h => h) (by rfl) ?hy123 ?rest123
              case hy123 => intro w; go_simp; (try with_reducible rfl)
              try simp only [Act.put, List.setIfInBounds_toArray, List.set_cons_zero, List.set_cons_succ]
              obtain ⟨⟨k0, k1, k2, k3, k4, k5, k6, k7, k8, k9, k10, k11⟩, kf⟩ := MBox.cells hY2
              refine stepK (i := 9) (L := #[true, true, true, true, true, true, true, true, true, true]) rfl (by rfl) (by kernel_rfl) (by rfl) (fun K hK => ?_)
              go_simp
              refine hK _ _ ⟨fun _ h => ⟨(far3 (by omega) _ _ _).trans h.1, (far3 (by omega) _ _ _).trans h.2.1, (far3 (by omega) _ _ _).trans h.2.2⟩, ?_⟩
              clear hK K k0 k1 k2 k3 k4 k5 k6 k7 k8 k9 k10 k11 kf
              try simp only [Act.put, List.setIfInBounds_toArray, List.set_cons_zero, List.set_cons_succ]
              have n_ : MBox (((w4.setCell ⟨w.heap.size + 1 + 1 + 1, 9, none⟩ (.bool D.s)).setCell ⟨w.heap.size + 1 + 1 + 1, 10, none⟩ (.slice D.A D.n D.c)).setCell ⟨w.heap.size + 1 + 1 + 1, 11, none⟩ (.int .i64 D.e)) (w.heap.size + 1 + 1 + 1) (K_.put 3 D) := MBox.put hY2 (x := 3) (by decide) D
              have hS1 : (((w4.setCell ⟨w.heap.size + 1 + 1 + 1, 9, none⟩ (.bool D.s)).setCell ⟨w.heap.size + 1 + 1 + 1, 10, none⟩ (.slice D.A D.n D.c)).setCell ⟨w.heap.size + 1 + 1 + 1, 11, none⟩ (.int .i64 D.e)).heap[g11]? = some (.cells #[.bool M.s, .slice M.A M.n M.c, .int .i64 M.e] 24 (0, 0)) ∧ (((w4.setCell ⟨w.heap.size + 1 + 1 + 1, 9, none⟩ (.bool D.s)).setCell ⟨w.heap.size + 1 + 1 + 1, 10, none⟩ (.slice D.A D.n D.c)).setCell ⟨w.heap.size + 1 + 1 + 1, 11, none⟩ (.int .i64 D.e)).heap[g12]? = some (.cells #[.bool D.s, .slice D.A D.n D.c, .int .i64 D.e] 24 (0, 0)) ∧ (((w4.setCell ⟨w.heap.size + 1 + 1 + 1, 9, none⟩ (.bool D.s)).setCell ⟨w.heap.size + 1 + 1 + 1, 10, none⟩ (.slice D.A D.n D.c)).setCell ⟨w.heap.size + 1 + 1 + 1, 11, none⟩ (.int .i64 D.e)).heap[w_15.heap.size + 1]? = some (.cells #[.pointer (some ⟨w.heap.size + 1 + 1 + 1, 6, none⟩), .pointer (some ⟨w.heap.size + 1 + 1 + 1, 9, none⟩)] 102 (0, 0)) := ⟨(far3 (by omega) _ _ _).trans hS0.1, (far3 (by omega) _ _ _).trans hS0.2.1, (far3 (by omega) _ _ _).trans hS0.2.2⟩
              have hf_ : ∀ j, j ≠ w.heap.size + 1 + 1 + 1 → (((w4.setCell ⟨w.heap.size + 1 + 1 + 1, 9, none⟩ (.bool D.s)).setCell ⟨w.heap.size + 1 + 1 + 1, 10, none⟩ (.slice D.A D.n D.c)).setCell ⟨w.heap.size + 1 + 1 + 1, 11, none⟩ (.int .i64 D.e)).heap[j]? = w4.heap[j]? := fun j hj => far3 hj _ _ _
              have hb_ : Below w.heap.size w (((w4.setCell ⟨w.heap.size + 1 + 1 + 1, 9, none⟩ (.bool D.s)).setCell ⟨w.heap.size + 1 + 1 + 1, 10, none⟩ (.slice D.A D.n D.c)).setCell ⟨w.heap.size + 1 + 1 + 1, 11, none⟩ (.int .i64 D.e)) := below3 hb2 (by omega) _ _ _
              have hs_ : (((w4.setCell ⟨w.heap.size + 1 + 1 + 1, 9, none⟩ (.bool D.s)).setCell ⟨w.heap.size + 1 + 1 + 1, 10, none⟩ (.slice D.A D.n D.c)).setCell ⟨w.heap.size + 1 + 1 + 1, 11, none⟩ (.int .i64 D.e)).heap.size = w4.heap.size := size3 _ _ _
              generalize ((w4.setCell ⟨w.heap.size + 1 + 1 + 1, 9, none⟩ (.bool D.s)).setCell ⟨w.heap.size + 1 + 1 + 1, 10, none⟩ (.slice D.A D.n D.c)).setCell ⟨w.heap.size + 1 + 1 + 1, 11, none⟩ (.int .i64 D.e) = w5 at *
              have lw5 : w4.heap.size ≤ w5.heap.size := Nat.le_of_eq hs_.symm
              have lw5' : w5.heap.size ≤ w4.heap.size := Nat.le_of_eq hs_
              clear hs_ hY2 hS0
              replace hO2 : MBox w5 _ _ := (hf_ _ (by omega)).trans hO2
              replace hMa2 : MBox w5 _ _ := (hf_ _ (by omega)).trans hMa2
              have hY2 := n_
              have hS0 := hS1
              replace hWas2 := (hf_ _ (by omega)).trans hWas2
              replace hb2 := hb_
              replace IM := ints_rng IM (w' := w5) (fun b h1 h2 => hf_ b (by omega))
              replace ID := ints_rng ID (w' := w5) (fun b h1 h2 => hf_ b (by omega))
              replace hP2 : ∀ j, j < wr.heap.size → j ≠ w.heap.size + 1 + 1 → j ≠ w.heap.size + 1 + 1 + 1 → w5.heap[j]? = wr.heap[j]? := fun j hj h1 h2 => (hf_ j h2).trans (hP2 j hj h1 h2)
              clear n_ hS1 hb_ hf_
              refine doneE (by kernel_rfl) ?_ _
              go_wp2
              go_roundw
              have hC := hP.out.2.2.2.2.2.1 (by decide)
              have mvC : ∀ {A : Option Addr} {n : Nat} {xs : List Int}, Ints wr (w.heap.size + 4) wr.heap.size .u32 A n xs → Ints w5 (w.heap.size + 4) w5.heap.size .u32 A n xs := fun h => (ints_rng h fun b h1 h2 => hP2 b h2 (by omega) (by omega)).more (Nat.le_refl _) (by omega)
              case rel => exact ⟨2, O.put 3 M, K_.put 3 D, by first | rfl | (congr 1; omega) | go_num, by decide, hMa2, hO2, hY2, hWas2, hS0.2.2, hb2, by omega, Lib.hid ⟨hP.out.1, hP.out.2.1, hP.out.2.2.1, hP.out.2.2.2.1, fun h => absurd h (by decide), fun _ => ⟨hC.1, ⟨mvC hC.2.1.1, mvC hC.2.1.2⟩, hC.2.2⟩, fun h => absurd h (by decide), fun _ => ⟨hI.out, ⟨IM.more (by omega) (by omega), ID.more (by omega) (by omega)⟩, rfl⟩⟩⟩
              case measure => first | (simp [intOf]; done) | (simp [intOf]; omega)
        · skip
          have hC := hP.out.2.2.2.2.2.1 (by decide)
          have hD := hP.out.2.2.2.2.2.2.2 (by decide)
          have e1 := hC.2.2
          have e2 := hD.2.2
          subst e1 e2
          have hcode := HR2.out
          rw [if_pos ⟨rfl, rfl⟩] at hcode
          injection hcode with h1 h2
          injection h1 with h1 h3
          have hO1 : IsM mR O := by
            rw [← h1]
            exact four (by show Is (dnM b 0) O.S; rw [hP.out.1]; exact iB.out 0 (by decide)) (by show Is (dnM b 1) O.W; rw [hP.out.2.1]; exact iB.out 1 (by decide)) hC.1.1 hD.1.1
          have hK1 : IsM lR K_ := by
            rw [← h3]
            exact four (by show Is Dn.zero K_.S; rw [hP.out.2.2.1]; exact Is.zero) (by show Is Dn.zero K_.W; rw [hP.out.2.2.2.1]; exact Is.zero) hC.1.2 hD.1.2
          have mO1 : MayR mR := by
            rw [← h1]
            exact four (mB.out 0 (by decide)) (mB.out 1 (by decide)) (mid_may H1.out).1 (mid_may H2.out).1
          have mK1 : MayR lR := by
            rw [← h3]
            exact four zero_may zero_may (mid_may H1.out).2 (mid_may H2.out).2
          have RO : MRows wr 0 wr.heap.size O := ⟨by show Ints _ _ _ _ O.S.A _ _; rw [hP.out.1]; exact Ints.more Rb.S (Nat.le_refl _) hBL.size, by show Ints _ _ _ _ O.W.A _ _; rw [hP.out.2.1]; exact Ints.more Rb.W (Nat.le_refl _) hBL.size, hC.2.1.1.more (Nat.zero_le _) (Nat.le_refl _), hD.2.1.1.more (Nat.zero_le _) (Nat.le_refl _)⟩
          have RK : MRows wr 0 wr.heap.size K_ := ⟨by show Ints _ _ _ _ K_.S.A _ _; rw [hP.out.2.2.1]; exact Ints.nil_ .., by show Ints _ _ _ _ K_.W.A _ _; rw [hP.out.2.2.2.1]; exact Ints.nil_ .., hC.2.1.2.more (Nat.zero_le _) (Nat.le_refl _), hD.2.1.2.more (Nat.zero_le _) (Nat.le_refl _)⟩
          have nO := isM_n2 RO hO1 mO1
          have nK := isM_n2 RK hK1 mK1
          replace hO1 := Lib.hid hO1
          replace hK1 := Lib.hid hK1
          subst h2
          clear h1 h3 hC hD hP Ra Rb tT mO1 mK1 hWas hTo
          go_wp2_with fail
          refine region_E (Keeps wr) [4, 5] (m := 7) (L := #[false, false, false, false, false, false, false]) (by kernel_rfl) (by rfl) (by rfl) ?_
          have kp_ : Keeps wr wr.drew := fun _ _ => rfl
          have hB : Below wr.heap.size wr wr.drew := (Below.refl _ _).drew
          replace RO : MRows wr.drew 0 wr.drew.heap.size O := RO.on hB
          replace RK : MRows wr.drew 0 wr.drew.heap.size K_ := RK.on hB
          have b_ := hBL.trans (hB.mono hBL.size)
          have lw0 : w.heap.size ≤ wr.heap.size := hBL.size
          have l2 : wr.heap.size ≤ wr.drew.heap.size := hB.size
          clear hB
          refine readE (i := 0) (L := #[true, false, false, false, false, false, false]) (v := .agg #[.bool O.S.s, .slice O.S.A O.S.n O.S.c, .int .i64 O.S.e, .bool O.W.s, .slice O.W.A O.W.n O.W.c, .int .i64 O.W.e, .bool O.C.s, .slice O.C.A O.C.n O.C.c, .int .i64 O.C.e, .bool O.A.s, .slice O.A.A O.A.n O.A.c, .int .i64 O.A.e]) rfl (by rfl) (by kernel_rfl) (by kernel_rfl) (by kernel_rfl) (fun _ _ _ h => h) (by assumption) (by rfl) ?yx0_ ?zx0_
          case yx0_ =>
            intro w' h1
            obtain ⟨⟨k0, k1, k2, k3, k4, k5, k6, k7, k8, k9, k10, k11⟩, kf⟩ := MBox.cells ((h1 _ (lt_of_heap hO)).trans hO)
            go_simp
          try simp only [Act.put, List.setIfInBounds_toArray, List.set_cons_zero, List.set_cons_succ]
          refine readE (i := 2) (L := #[true, false, true, false, false, false, false]) (v := .agg #[.bool K_.S.s, .slice K_.S.A K_.S.n K_.S.c, .int .i64 K_.S.e, .bool K_.W.s, .slice K_.W.A K_.W.n K_.W.c, .int .i64 K_.W.e, .bool K_.C.s, .slice K_.C.A K_.C.n K_.C.c, .int .i64 K_.C.e, .bool K_.A.s, .slice K_.A.A K_.A.n K_.A.c, .int .i64 K_.A.e]) rfl (by rfl) (by kernel_rfl) (by kernel_rfl) (by kernel_rfl) (fun _ _ _ h => h) (by assumption) (by rfl) ?yx2_ ?zx2_
          case yx2_ =>
            intro w' h1
            obtain ⟨⟨k0, k1, k2, k3, k4, k5, k6, k7, k8, k9, k10, k11⟩, kf⟩ := MBox.cells ((h1 _ (lt_of_heap hY)).trans hY)
            go_simp
          try simp only [Act.put, List.setIfInBounds_toArray, List.set_cons_zero, List.set_cons_succ]
          generalize wr.drew = w2 at *
          refine stepK (i := 1) (L := #[true, true, true, false, false, false, false]) rfl (by rfl) (by kernel_rfl) (by rfl) (fun K hK => ?_)
          go_simp
          go_at_call 58
          refine (MTwin_any w2 O RO nO).mono ?_
          rintro e' w3 ⟨o, rfl, hto, hB, Ro⟩
          replace hto := Lib.hid hto
          have l3 := hB.size
          replace kp_ := Keeps.on kp_ (by omega) hB
          replace RK := RK.on hB
          replace b_ := b_.trans (hB.mono (by omega))
          clear hB RO nO
          refine hK _ _ ⟨fun _ _ => kp_, ?_⟩
          clear hK K
          try simp only [Act.put, List.setIfInBounds_toArray, List.set_cons_zero, List.set_cons_succ]
          refine stepK (i := 3) (L := #[true, true, true, true, false, false, false]) rfl (by rfl) (by kernel_rfl) (by rfl) (fun K hK => ?_)
          go_simp
          go_at_call 58
          refine (MTwin_any w3 K_ RK nK).mono ?_
          rintro e' w4 ⟨k, rfl, htk, hB, Rk⟩
          replace htk := Lib.hid htk
          have l4 := hB.size
          replace kp_ := Keeps.on kp_ (by omega) hB
          replace Ro := Ro.below hB (Nat.le_refl _)
          replace b_ := b_.trans (hB.mono (by omega))
          clear hB RK nK
          refine hK _ _ ⟨fun _ _ => kp_, ?_⟩
          clear hK K
          try simp only [Act.put, List.setIfInBounds_toArray, List.set_cons_zero, List.set_cons_succ]
          have hO3 : MBox w4 (w.heap.size + 1 + 1) O := (kp_ _ (lt_of_heap hO)).trans hO
          have hY3 : MBox w4 (w.heap.size + 1 + 1 + 1) K_ := (kp_ _ (lt_of_heap hY)).trans hY
          obtain ⟨⟨k0, k1, k2, k3, k4, k5, k6, k7, k8, k9, k10, k11⟩, kf⟩ := MBox.cells hO3
          refine stepK (i := 4) (L := #[true, true, true, true, true, false, false]) rfl (by rfl) (by kernel_rfl) (by rfl) (fun K hK => ?_)
          go_simp
          obtain ⟨w5, hc_, hX, hb_, hf_, l5, l5'⟩ := all_to hO3 o
          rw [hc_]
          clear hc_ k0 k1 k2 k3 k4 k5 k6 k7 k8 k9 k10 k11 kf
          refine hK _ _ ⟨fun h => absurd h (by decide), ?_⟩
          clear hK K
          try simp only [Act.put, List.setIfInBounds_toArray, List.set_cons_zero, List.set_cons_succ]
          replace b_ := hb_ _ _ b_ (by omega)
          replace hY3 : MBox w5 (w.heap.size + 1 + 1 + 1) K_ := (hf_ _ (by omega)).trans hY3
          replace Ro := rows_rng Ro (w' := w5) (fun b h1 h2 => hf_ b (by omega))
          replace Rk := rows_rng Rk (w' := w5) (fun b h1 h2 => hf_ b (by omega))
          clear hb_ hf_ hO3
          obtain ⟨⟨k0, k1, k2, k3, k4, k5, k6, k7, k8, k9, k10, k11⟩, kf⟩ := MBox.cells hY3
          refine stepK (i := 5) (L := #[true, true, true, true, true, true, false]) rfl (by rfl) (by kernel_rfl) (by rfl) (fun K hK => ?_)
          go_simp
          obtain ⟨w6, hc_, hX2, hb_, hf_, l6, l6'⟩ := all_to hY3 k
          rw [hc_]
          clear hc_ k0 k1 k2 k3 k4 k5 k6 k7 k8 k9 k10 k11 kf
          refine hK _ _ ⟨fun h => absurd h (by decide), ?_⟩
          clear hK K
          try simp only [Act.put, List.setIfInBounds_toArray, List.set_cons_zero, List.set_cons_succ]
          replace b_ := hb_ _ _ b_ (by omega)
          replace hX : MBox w6 (w.heap.size + 1 + 1) o := (hf_ _ (by omega)).trans hX
          replace Ro := rows_rng Ro (w' := w6) (fun b h1 h2 => hf_ b (by omega))
          replace Rk := rows_rng Rk (w' := w6) (fun b h1 h2 => hf_ b (by omega))
          clear hb_ hf_ hY3
          refine pureE (i := 6) (L := #[true, true, true, true, true, true, true]) (v := ?_) rfl (by rfl) (by kernel_rfl) (by kernel_rfl) (by kernel_rfl) (fun _ _ _ h => h) (by rfl) ?hy131 ?rest131
          case hy131 => intro w; go_simp; (try with_reducible rfl)
          try simp only [Act.put, List.setIfInBounds_toArray, List.set_cons_zero, List.set_cons_succ]
          refine doneE (by kernel_rfl) ?_ _
          go_wp2
          obtain ⟨⟨k0, k1, k2, k3, k4, k5, k6, k7, k8, k9, k10, k11⟩, kf⟩ := MBox.cells hX
          obtain ⟨⟨y0, y1, y2, y3, y4, y5, y6, y7, y8, y9, y10, y11⟩, yf⟩ := MBox.cells hX2
          exact bodyPost_ret (v := .tuple #[.agg #[.bool o.S.s, .slice o.S.A o.S.n o.S.c, .int .i64 o.S.e, .bool o.W.s, .slice o.W.A o.W.n o.W.c, .int .i64 o.W.e, .bool o.C.s, .slice o.C.A o.C.n o.C.c, .int .i64 o.C.e, .bool o.A.s, .slice o.A.A o.A.n o.A.c, .int .i64 o.A.e], .agg #[.bool k.S.s, .slice k.S.A k.S.n k.S.c, .int .i64 k.S.e, .bool k.W.s, .slice k.W.A k.W.n k.W.c, .int .i64 k.W.e, .bool k.C.s, .slice k.C.A k.C.n k.C.c, .int .i64 k.C.e, .bool k.A.s, .slice k.A.A k.A.n k.A.c, .int .i64 k.A.e], .int .i64 0]) (by simp [results, Tryd.results43, go_sem, k0, k1, k2, k3, k4, k5, k6, k7, k8, k9, k10, k11, y0, y1, y2, y3, y4, y5, y6, y7, y8, y9, y10, y11]) rfl ⟨o, k, rfl, b_, hO1.out.twin hto.out, hK1.out.twin htk.out, w3.heap.size, by omega, by omega, Ro.more (by omega) (Nat.le_refl _), Rk.more (Nat.le_refl _) (by omega)⟩
end Ma
end Go.Proofs.YtlbkepiflhchdaaDoor
