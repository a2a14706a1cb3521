/- headcountref06.Great: a walk (printed by a program of mine). -/
/- headcountref06.Same, May: walks (printed by a program of mine). -/
/- headcountref06.Twin: walks (printed by a program of mine). -/
/- builtin max of four. No program in sight. -/
/- headcountref06.Sum: walks (printed by a program of mine). -/
/- headcountref16.Far: walks (printed by a program of mine). -/
/- headcountref06.Split, Check: walks (printed by a program of mine). -/
/- headcountlaw06.spoil: a walk (printed by a program of mine). -/
import Derived.Test.YtlbkepiflhchdaaDoorBa09
import Derived.Test.YtlbkepiflhchdaaDoorBa10
import Derived.Test.YtlbkepiflhchdaaDoorBa11
import Derived.Lib.MinMax
import Derived.Test.YtlbkepiflhchdaaDoorBa01
import Derived.Test.YtlbkepiflhchdaaDoorBa14
namespace Go.Proofs.YtlbkepiflhchdaaDoor
open Go.RowKit
namespace Ma
open Dp Dy
def Dv.great (d : Dv) : Bool := Pa.Dy.great ⟨d.s, d.xs, d.e⟩
def greatM (m : Mv) : Bool := m.S.great || m.W.great || m.C.great || m.A.great
theorem great_not {m : Mv} (h : greatM m = false) : ∀ x, x < 4 → (m.get x).xs.length ≤ 42 ∧ (m.get x).e ≤ 1100 := by
  have hd : ∀ d : Dv, d.great = false → d.xs.length ≤ 42 ∧ d.e ≤ 1100 := fun d h => by
    simp [Dv.great, Pa.Dy.great] at h
    omega
  unfold greatM at h
  simp only [Bool.or_eq_false_iff] at h
  exact four (hd _ h.1.1.1) (hd _ h.1.1.2) (hd _ h.1.2) (hd _ h.2)
set_option maxHeartbeats 6400000 in
set_option maxRecDepth 100000 in
theorem RGreat_any (w : World) (m : Mv) {lo hi : Nat} (hRm : MRows w lo hi m) (k : Bool) (hk : greatM m = k) :
    Calls Tryd.prog 28 #[.agg #[.bool m.S.s, .slice m.S.A m.S.n m.S.c, .int .i64 m.S.e, .bool m.W.s, .slice m.W.A m.W.n m.W.c, .int .i64 m.W.e, .bool m.C.s, .slice m.C.A m.C.n m.C.c, .int .i64 m.C.e, .bool m.A.s, .slice m.A.A m.A.n m.A.c, .int .i64 m.A.e]] w fun e w' => e = .returned (.bool k) ∧ Below w.heap.size w w' := by
  have L0 := Lib.hid (hRm.get 0).len
  have L1 := Lib.hid (hRm.get 1).len
  have L2 := Lib.hid (hRm.get 2).len
  have L3 := Lib.hid (hRm.get 3).len
  unfold greatM at hk
  obtain ⟨g0, h0⟩ : ∃ g, m.S.great = g := ⟨_, rfl⟩
  obtain ⟨g1, h1⟩ : ∃ g, m.W.great = g := ⟨_, rfl⟩
  obtain ⟨g2, h2⟩ : ∃ g, m.C.great = g := ⟨_, rfl⟩
  obtain ⟨g3, h3⟩ : ∃ g, m.A.great = g := ⟨_, rfl⟩
  rw [h0, h1, h2, h3] at hk
  have HK := Lib.hid hk
  have H0 := Lib.hid h0
  have H1 := Lib.hid h1
  have H2 := Lib.hid h2
  have H3 := Lib.hid h3
  clear hk h0 h1 h2 h3
  generalize hw : w.alloc (.cells #[.bool m.S.s, .slice m.S.A m.S.n m.S.c, .int .i64 m.S.e, .bool m.W.s, .slice m.W.A m.W.n m.W.c, .int .i64 m.W.e, .bool m.C.s, .slice m.C.A m.C.n m.C.c, .int .i64 m.C.e, .bool m.A.s, .slice m.A.A m.A.n m.A.c, .int .i64 m.A.e] 39) = w1
  have hM1 : MBox w1 w.heap.size m := by rw [← hw]; exact heap_alloc_last _ _
  have hb : Below w.heap.size w w1 := by rw [← hw]; exact (Below.refl _ w).alloc (Nat.le_refl _) _
  have hlo : w.heap.size + 1 ≤ w1.heap.size := by rw [← hw]; simp
  obtain ⟨⟨k0, k1, k2, k3, k4, k5, k6, k7, k8, k9, k10, k11⟩, kf⟩ := MBox.cells hM1
  go_enter Tryd.func28, Tryd.ntmps28
  go_wp2_with fail
  try clear hw
  refine (Pa.rGreat_any w1 m.S.s m.S.A m.S.n m.S.c m.S.xs m.S.e L0.out g0 H0.out).mono ?_
  rintro e w2 ⟨rfl, hB⟩
  clear k0 k1 k2 k3 k4 k5 k6 k7 k8 k9 k10 k11 kf
  have l2 := hB.size
  replace hM1 : MBox w2 w.heap.size m := box_on hM1 hB (by omega)
  replace hb := hb.trans (hB.mono (by omega))
  clear hB
  cases g0
  rotate_left
  · go_wp2
    go_ret
    exact ⟨by rw [← HK.out]; simp, hb⟩
  · skip
    obtain ⟨⟨k0, k1, k2, k3, k4, k5, k6, k7, k8, k9, k10, k11⟩, kf⟩ := MBox.cells hM1
    go_wp2_with fail
    refine (Pa.rGreat_any w2 m.W.s m.W.A m.W.n m.W.c m.W.xs m.W.e L1.out g1 H1.out).mono ?_
    rintro e w3 ⟨rfl, hB⟩
    clear k0 k1 k2 k3 k4 k5 k6 k7 k8 k9 k10 k11 kf
    have l3 := hB.size
    replace hM1 : MBox w3 w.heap.size m := box_on hM1 hB (by omega)
    replace hb := hb.trans (hB.mono (by omega))
    clear hB
    cases g1
    rotate_left
    · go_wp2
      go_ret
      exact ⟨by rw [← HK.out]; simp, hb⟩
    · skip
      obtain ⟨⟨k0, k1, k2, k3, k4, k5, k6, k7, k8, k9, k10, k11⟩, kf⟩ := MBox.cells hM1
      go_wp2_with fail
      refine (Pa.rGreat_any w3 m.C.s m.C.A m.C.n m.C.c m.C.xs m.C.e L2.out g2 H2.out).mono ?_
      rintro e w4 ⟨rfl, hB⟩
      clear k0 k1 k2 k3 k4 k5 k6 k7 k8 k9 k10 k11 kf
      have l4 := hB.size
      replace hM1 : MBox w4 w.heap.size m := box_on hM1 hB (by omega)
      replace hb := hb.trans (hB.mono (by omega))
      clear hB
      cases g2
      rotate_left
      · go_wp2
        go_ret
        exact ⟨by rw [← HK.out]; simp, hb⟩
      · skip
        obtain ⟨⟨k0, k1, k2, k3, k4, k5, k6, k7, k8, k9, k10, k11⟩, kf⟩ := MBox.cells hM1
        go_wp2_with fail
        refine (Pa.rGreat_any w4 m.A.s m.A.A m.A.n m.A.c m.A.xs m.A.e L3.out g3 H3.out).mono ?_
        rintro e w5 ⟨rfl, hB⟩
        clear k0 k1 k2 k3 k4 k5 k6 k7 k8 k9 k10 k11 kf
        have l5 := hB.size
        replace hM1 : MBox w5 w.heap.size m := box_on hM1 hB (by omega)
        replace hb := hb.trans (hB.mono (by omega))
        clear hB
        go_wp2
        go_ret
        exact ⟨by rw [← HK.out]; simp, hb⟩
end Ma
end Go.Proofs.YtlbkepiflhchdaaDoor
namespace Go.Proofs.YtlbkepiflhchdaaDoor
open Go.RowKit
namespace Ma
open Dp Dy
open Classical in
noncomputable def mayB (d : Dv) : Bool := decide (d.may)
open Classical in
noncomputable def mayMB (m : Mv) : Bool := mayB m.S && mayB m.W && mayB m.C && mayB m.A
theorem mayMB_iff (m : Mv) : mayMB m = true ↔ m.may := by
  unfold mayMB mayB
  simp only [Bool.and_eq_true, decide_eq_true_eq]
  exact ⟨fun h => four h.1.1.1 h.1.1.2 h.1.2 h.2, fun h => ⟨⟨⟨h 0 (by decide), h 1 (by decide)⟩, h 2 (by decide)⟩, h 3 (by decide)⟩⟩
open Classical in
theorem rMay_all (w : World) (d : Dv) (hX : Ints w 0 w.heap.size .u32 d.A d.n d.xs) (k : Bool) (hk : mayB d = k) :
    Calls Tryd.prog 66 #[.agg #[.bool d.s, .slice d.A d.n d.c, .int .i64 d.e]] w fun e w' => e = .returned (.bool k) ∧ Below w.heap.size w w' := by
  unfold mayB at hk
  by_cases h : d.may
  · rw [decide_eq_true h] at hk
    subst hk
    exact rMay_ok w 0 w.heap.size d.s d.A d.n d.c d.xs d.e hX (Nat.le_refl _) h
  · rw [decide_eq_false h] at hk
    subst hk
    exact rMay_bad w 0 w.heap.size d.s d.A d.n d.c d.xs d.e hX (Nat.le_refl _) h
set_option maxHeartbeats 6400000 in
set_option maxRecDepth 100000 in
theorem RSame_any (w : World) (a b : Mv) (hRa : MRows w 0 w.heap.size a) (hRb : MRows w 0 w.heap.size b) (k : Bool) (hk : sameM a b = k) :
    Calls Tryd.prog 32 #[.agg #[.bool a.S.s, .slice a.S.A a.S.n a.S.c, .int .i64 a.S.e, .bool a.W.s, .slice a.W.A a.W.n a.W.c, .int .i64 a.W.e, .bool a.C.s, .slice a.C.A a.C.n a.C.c, .int .i64 a.C.e, .bool a.A.s, .slice a.A.A a.A.n a.A.c, .int .i64 a.A.e], .agg #[.bool b.S.s, .slice b.S.A b.S.n b.S.c, .int .i64 b.S.e, .bool b.W.s, .slice b.W.A b.W.n b.W.c, .int .i64 b.W.e, .bool b.C.s, .slice b.C.A b.C.n b.C.c, .int .i64 b.C.e, .bool b.A.s, .slice b.A.A b.A.n b.A.c, .int .i64 b.A.e]] w fun e w' => e = .returned (.bool k) ∧ Below w.heap.size w w' := by
  unfold sameM at hk
  obtain ⟨g0, h0⟩ : ∃ g, sameV a.S b.S = g := ⟨_, rfl⟩
  obtain ⟨g1, h1⟩ : ∃ g, sameV a.W b.W = g := ⟨_, rfl⟩
  obtain ⟨g2, h2⟩ : ∃ g, sameV a.C b.C = g := ⟨_, rfl⟩
  obtain ⟨g3, h3⟩ : ∃ g, sameV a.A b.A = g := ⟨_, rfl⟩
  rw [h0, h1, h2, h3] at hk
  have HK := Lib.hid hk
  have H0 := Lib.hid h0
  have H1 := Lib.hid h1
  have H2 := Lib.hid h2
  have H3 := Lib.hid h3
  clear hk h0 h1 h2 h3
  generalize hw : (w.alloc (.cells #[.bool a.S.s, .slice a.S.A a.S.n a.S.c, .int .i64 a.S.e, .bool a.W.s, .slice a.W.A a.W.n a.W.c, .int .i64 a.W.e, .bool a.C.s, .slice a.C.A a.C.n a.C.c, .int .i64 a.C.e, .bool a.A.s, .slice a.A.A a.A.n a.A.c, .int .i64 a.A.e] 39)).alloc (.cells #[.bool b.S.s, .slice b.S.A b.S.n b.S.c, .int .i64 b.S.e, .bool b.W.s, .slice b.W.A b.W.n b.W.c, .int .i64 b.W.e, .bool b.C.s, .slice b.C.A b.C.n b.C.c, .int .i64 b.C.e, .bool b.A.s, .slice b.A.A b.A.n b.A.c, .int .i64 b.A.e] 39) = w1
  obtain ⟨hA1, hB1, hb, hlo, hhi⟩ := boxes2 w _ _ hw
  replace hA1 : MBox w1 w.heap.size a := hA1
  replace hB1 : MBox w1 (w.heap.size + 1) b := hB1
  replace hRa := hRa.below hb (Nat.le_refl _)
  replace hRb := hRb.below hb (Nat.le_refl _)
  obtain ⟨⟨k0, k1, k2, k3, k4, k5, k6, k7, k8, k9, k10, k11⟩, kf⟩ := MBox.cells hA1
  obtain ⟨⟨z0, z1, z2, z3, z4, z5, z6, z7, z8, z9, z10, z11⟩, zf⟩ := MBox.cells hB1
  go_enter Tryd.func32, Tryd.ntmps32
  go_wp2_with fail
  try clear hw
  refine (Pa.rSame_any w1 a.S.s b.S.s a.S.A b.S.A a.S.n a.S.c b.S.n b.S.c a.S.xs b.S.xs a.S.e b.S.e (Ints.more hRa.S (Nat.le_refl _) (by omega)) (Ints.more hRb.S (Nat.le_refl _) (by omega)) g0 H0.out).mono ?_
  rintro e w2 ⟨rfl, hB⟩
  clear k0 k1 k2 k3 k4 k5 k6 k7 k8 k9 k10 k11 kf z0 z1 z2 z3 z4 z5 z6 z7 z8 z9 z10 z11 zf
  have l2 := hB.size
  replace hA1 : MBox w2 w.heap.size a := box_on hA1 hB (by omega)
  replace hB1 : MBox w2 (w.heap.size + 1) b := box_on hB1 hB (by omega)
  replace hRa := hRa.below hB (by omega)
  replace hRb := hRb.below hB (by omega)
  replace hb := hb.trans (hB.mono (by omega))
  clear hB
  cases g0
  · go_wp2
    go_ret
    exact ⟨by rw [← HK.out]; simp, hb⟩
  · skip
    obtain ⟨⟨k0, k1, k2, k3, k4, k5, k6, k7, k8, k9, k10, k11⟩, kf⟩ := MBox.cells hA1
    obtain ⟨⟨z0, z1, z2, z3, z4, z5, z6, z7, z8, z9, z10, z11⟩, zf⟩ := MBox.cells hB1
    go_wp2_with fail
    refine (Pa.rSame_any w2 a.W.s b.W.s a.W.A b.W.A a.W.n a.W.c b.W.n b.W.c a.W.xs b.W.xs a.W.e b.W.e (Ints.more hRa.W (Nat.le_refl _) (by omega)) (Ints.more hRb.W (Nat.le_refl _) (by omega)) g1 H1.out).mono ?_
    rintro e w3 ⟨rfl, hB⟩
    clear k0 k1 k2 k3 k4 k5 k6 k7 k8 k9 k10 k11 kf z0 z1 z2 z3 z4 z5 z6 z7 z8 z9 z10 z11 zf
    have l3 := hB.size
    replace hA1 : MBox w3 w.heap.size a := box_on hA1 hB (by omega)
    replace hB1 : MBox w3 (w.heap.size + 1) b := box_on hB1 hB (by omega)
    replace hRa := hRa.below hB (by omega)
    replace hRb := hRb.below hB (by omega)
    replace hb := hb.trans (hB.mono (by omega))
    clear hB
    cases g1
    · go_wp2
      go_ret
      exact ⟨by rw [← HK.out]; simp, hb⟩
    · skip
      obtain ⟨⟨k0, k1, k2, k3, k4, k5, k6, k7, k8, k9, k10, k11⟩, kf⟩ := MBox.cells hA1
      obtain ⟨⟨z0, z1, z2, z3, z4, z5, z6, z7, z8, z9, z10, z11⟩, zf⟩ := MBox.cells hB1
      go_wp2_with fail
      refine (Pa.rSame_any w3 a.C.s b.C.s a.C.A b.C.A a.C.n a.C.c b.C.n b.C.c a.C.xs b.C.xs a.C.e b.C.e (Ints.more hRa.C (Nat.le_refl _) (by omega)) (Ints.more hRb.C (Nat.le_refl _) (by omega)) g2 H2.out).mono ?_
      rintro e w4 ⟨rfl, hB⟩
      clear k0 k1 k2 k3 k4 k5 k6 k7 k8 k9 k10 k11 kf z0 z1 z2 z3 z4 z5 z6 z7 z8 z9 z10 z11 zf
      have l4 := hB.size
      replace hA1 : MBox w4 w.heap.size a := box_on hA1 hB (by omega)
      replace hB1 : MBox w4 (w.heap.size + 1) b := box_on hB1 hB (by omega)
      replace hRa := hRa.below hB (by omega)
      replace hRb := hRb.below hB (by omega)
      replace hb := hb.trans (hB.mono (by omega))
      clear hB
      cases g2
      · go_wp2
        go_ret
        exact ⟨by rw [← HK.out]; simp, hb⟩
      · skip
        obtain ⟨⟨k0, k1, k2, k3, k4, k5, k6, k7, k8, k9, k10, k11⟩, kf⟩ := MBox.cells hA1
        obtain ⟨⟨z0, z1, z2, z3, z4, z5, z6, z7, z8, z9, z10, z11⟩, zf⟩ := MBox.cells hB1
        go_wp2_with fail
        refine (Pa.rSame_any w4 a.A.s b.A.s a.A.A b.A.A a.A.n a.A.c b.A.n b.A.c a.A.xs b.A.xs a.A.e b.A.e (Ints.more hRa.A (Nat.le_refl _) (by omega)) (Ints.more hRb.A (Nat.le_refl _) (by omega)) g3 H3.out).mono ?_
        rintro e w5 ⟨rfl, hB⟩
        clear k0 k1 k2 k3 k4 k5 k6 k7 k8 k9 k10 k11 kf z0 z1 z2 z3 z4 z5 z6 z7 z8 z9 z10 z11 zf
        have l5 := hB.size
        replace hA1 : MBox w5 w.heap.size a := box_on hA1 hB (by omega)
        replace hB1 : MBox w5 (w.heap.size + 1) b := box_on hB1 hB (by omega)
        replace hRa := hRa.below hB (by omega)
        replace hRb := hRb.below hB (by omega)
        replace hb := hb.trans (hB.mono (by omega))
        clear hB
        go_wp2
        go_ret
        exact ⟨by rw [← HK.out]; simp, hb⟩
set_option maxHeartbeats 6400000 in
set_option maxRecDepth 100000 in
theorem RMay_any (w : World) (m : Mv) (hRm : MRows w 0 w.heap.size m) (k : Bool) (hk : mayMB m = k) :
    Calls Tryd.prog 73 #[.agg #[.bool m.S.s, .slice m.S.A m.S.n m.S.c, .int .i64 m.S.e, .bool m.W.s, .slice m.W.A m.W.n m.W.c, .int .i64 m.W.e, .bool m.C.s, .slice m.C.A m.C.n m.C.c, .int .i64 m.C.e, .bool m.A.s, .slice m.A.A m.A.n m.A.c, .int .i64 m.A.e]] w fun e w' => e = .returned (.bool k) ∧ Below w.heap.size w w' := by
  unfold mayMB at hk
  obtain ⟨g0, h0⟩ : ∃ g, mayB m.S = g := ⟨_, rfl⟩
  obtain ⟨g1, h1⟩ : ∃ g, mayB m.W = g := ⟨_, rfl⟩
  obtain ⟨g2, h2⟩ : ∃ g, mayB m.C = g := ⟨_, rfl⟩
  obtain ⟨g3, h3⟩ : ∃ g, mayB m.A = g := ⟨_, rfl⟩
  rw [h0, h1, h2, h3] at hk
  have HK := Lib.hid hk
  have H0 := Lib.hid h0
  have H1 := Lib.hid h1
  have H2 := Lib.hid h2
  have H3 := Lib.hid h3
  clear hk h0 h1 h2 h3
  generalize hw : w.alloc (.cells #[.bool m.S.s, .slice m.S.A m.S.n m.S.c, .int .i64 m.S.e, .bool m.W.s, .slice m.W.A m.W.n m.W.c, .int .i64 m.W.e, .bool m.C.s, .slice m.C.A m.C.n m.C.c, .int .i64 m.C.e, .bool m.A.s, .slice m.A.A m.A.n m.A.c, .int .i64 m.A.e] 39) = w1
  have hM1 : MBox w1 w.heap.size m := by rw [← hw]; exact heap_alloc_last _ _
  have hb : Below w.heap.size w w1 := by rw [← hw]; exact (Below.refl _ w).alloc (Nat.le_refl _) _
  have hlo : w.heap.size + 1 ≤ w1.heap.size := by rw [← hw]; simp
  replace hRm := hRm.below hb (Nat.le_refl _)
  obtain ⟨⟨k0, k1, k2, k3, k4, k5, k6, k7, k8, k9, k10, k11⟩, kf⟩ := MBox.cells hM1
  go_enter Tryd.func73, Tryd.ntmps73
  go_wp2_with fail
  try clear hw
  refine (rMay_all w1 m.S (Ints.more hRm.S (Nat.le_refl _) (by omega)) g0 H0.out).mono ?_
  rintro e w2 ⟨rfl, hB⟩
  clear k0 k1 k2 k3 k4 k5 k6 k7 k8 k9 k10 k11 kf
  have l2 := hB.size
  replace hM1 : MBox w2 w.heap.size m := box_on hM1 hB (by omega)
  replace hRm := hRm.below hB (by omega)
  replace hb := hb.trans (hB.mono (by omega))
  clear hB
  cases g0
  · go_wp2
    go_ret
    exact ⟨by rw [← HK.out]; simp, hb⟩
  · skip
    obtain ⟨⟨k0, k1, k2, k3, k4, k5, k6, k7, k8, k9, k10, k11⟩, kf⟩ := MBox.cells hM1
    go_wp2_with fail
    refine (rMay_all w2 m.W (Ints.more hRm.W (Nat.le_refl _) (by omega)) g1 H1.out).mono ?_
    rintro e w3 ⟨rfl, hB⟩
    clear k0 k1 k2 k3 k4 k5 k6 k7 k8 k9 k10 k11 kf
    have l3 := hB.size
    replace hM1 : MBox w3 w.heap.size m := box_on hM1 hB (by omega)
    replace hRm := hRm.below hB (by omega)
    replace hb := hb.trans (hB.mono (by omega))
    clear hB
    cases g1
    · go_wp2
      go_ret
      exact ⟨by rw [← HK.out]; simp, hb⟩
    · skip
      obtain ⟨⟨k0, k1, k2, k3, k4, k5, k6, k7, k8, k9, k10, k11⟩, kf⟩ := MBox.cells hM1
      go_wp2_with fail
      refine (rMay_all w3 m.C (Ints.more hRm.C (Nat.le_refl _) (by omega)) g2 H2.out).mono ?_
      rintro e w4 ⟨rfl, hB⟩
      clear k0 k1 k2 k3 k4 k5 k6 k7 k8 k9 k10 k11 kf
      have l4 := hB.size
      replace hM1 : MBox w4 w.heap.size m := box_on hM1 hB (by omega)
      replace hRm := hRm.below hB (by omega)
      replace hb := hb.trans (hB.mono (by omega))
      clear hB
      cases g2
      · go_wp2
        go_ret
        exact ⟨by rw [← HK.out]; simp, hb⟩
      · skip
        obtain ⟨⟨k0, k1, k2, k3, k4, k5, k6, k7, k8, k9, k10, k11⟩, kf⟩ := MBox.cells hM1
        go_wp2_with fail
        refine (rMay_all w4 m.A (Ints.more hRm.A (Nat.le_refl _) (by omega)) g3 H3.out).mono ?_
        rintro e w5 ⟨rfl, hB⟩
        clear k0 k1 k2 k3 k4 k5 k6 k7 k8 k9 k10 k11 kf
        have l5 := hB.size
        replace hM1 : MBox w5 w.heap.size m := box_on hM1 hB (by omega)
        replace hRm := hRm.below hB (by omega)
        replace hb := hb.trans (hB.mono (by omega))
        clear hB
        go_wp2
        go_ret
        exact ⟨by rw [← HK.out]; simp, hb⟩
end Ma
end Go.Proofs.YtlbkepiflhchdaaDoor
namespace Go.Proofs.YtlbkepiflhchdaaDoor
open Go.RowKit
namespace Ma
open Dp Dy
set_option maxHeartbeats 6400000 in
set_option maxRecDepth 100000 in
theorem RTwinM_any (w : World) (m : Mv) (hR : MRows w 0 w.heap.size m) (hn : ∀ x, x < 4 → (m.get x).n ≤ 1000000) :
    Calls Tryd.prog 29 #[.agg #[.bool m.S.s, .slice m.S.A m.S.n m.S.c, .int .i64 m.S.e, .bool m.W.s, .slice m.W.A m.W.n m.W.c, .int .i64 m.W.e, .bool m.C.s, .slice m.C.A m.C.n m.C.c, .int .i64 m.C.e, .bool m.A.s, .slice m.A.A m.A.n m.A.c, .int .i64 m.A.e]] w fun e w' => ∃ m' : Mv, e = .returned (.agg #[.bool m'.S.s, .slice m'.S.A m'.S.n m'.S.c, .int .i64 m'.S.e, .bool m'.W.s, .slice m'.W.A m'.W.n m'.W.c, .int .i64 m'.W.e, .bool m'.C.s, .slice m'.C.A m'.C.n m'.C.c, .int .i64 m'.C.e, .bool m'.A.s, .slice m'.A.A m'.A.n m'.A.c, .int .i64 m'.A.e]) ∧ (∀ x, x < 4 → TwinV (m.get x) (m'.get x)) ∧ Below w.heap.size w w' ∧ MRows w' w.heap.size w'.heap.size m' := by
  generalize hw1 : (w.alloc (.cells #[.bool m.S.s, .slice m.S.A m.S.n m.S.c, .int .i64 m.S.e, .bool m.W.s, .slice m.W.A m.W.n m.W.c, .int .i64 m.W.e, .bool m.C.s, .slice m.C.A m.C.n m.C.c, .int .i64 m.C.e, .bool m.A.s, .slice m.A.A m.A.n m.A.c, .int .i64 m.A.e] 39)).alloc (.cells #[.bool false, .slice none 0 0, .int .i64 0, .bool false, .slice none 0 0, .int .i64 0, .bool false, .slice none 0 0, .int .i64 0, .bool false, .slice none 0 0, .int .i64 0] 39) = w1
  obtain ⟨hM, hZ, hBL, lo1, hi1⟩ := boxes2 w _ _ hw1
  replace hM : MBox w1 w.heap.size m := hM
  replace hZ : MBox w1 (w.heap.size + 1) ZM := hZ
  replace hBL : Below w.heap.size w w1 := hBL
  have Rm : MRows w1 0 w1.heap.size m := hR.on hBL
  have n0 : m.S.n ≤ 1000000 := hn 0 (by decide)
  have n1 : m.W.n ≤ 1000000 := hn 1 (by decide)
  have n2 : m.C.n ≤ 1000000 := hn 2 (by decide)
  have n3 : m.A.n ≤ 1000000 := hn 3 (by decide)
  clear hn
  go_enter Tryd.func29, Tryd.ntmps29
  go_wp2_with fail
  try clear hw1
  refine region_E (Keeps w1) [13] (m := 14) (L := #[false, false, false, false, false, false, false, false, false, false, false, false, false, false]) (by kernel_rfl) (by rfl) (by rfl) ?_
  have kp_ : Keeps w1 w1.drew := fun _ _ => rfl
  have hB : Below w1.heap.size w1 w1.drew := (Below.refl _ _).drew
  replace Rm : MRows w1.drew 0 w1.drew.heap.size _ := MRows.on Rm hB
  replace hBL := hBL.trans (hB.mono (by omega))
  have lw_1 : w1.heap.size ≤ w1.drew.heap.size := hB.size
  clear hB
  generalize w1.drew = w_1 at *
  refine pureE (i := 0) (L := #[true, false, false, false, false, false, false, false, false, false, false, false, false, false]) (v := ?_) rfl (by rfl) (by kernel_rfl) (by kernel_rfl) (by kernel_rfl) (fun _ _ _ h => h) (by rfl) ?hy1 ?rest1
  case hy1 => intro w; go_simp; (try with_reducible rfl)
  try simp only [Act.put, List.setIfInBounds_toArray, List.set_cons_zero, List.set_cons_succ]
  refine pureE (i := 3) (L := #[true, false, false, true, false, false, false, false, false, false, false, false, false, false]) (v := ?_) rfl (by rfl) (by kernel_rfl) (by kernel_rfl) (by kernel_rfl) (fun _ _ _ h => h) (by rfl) ?hy2 ?rest2
  case hy2 => intro w; go_simp; (try with_reducible rfl)
  try simp only [Act.put, List.setIfInBounds_toArray, List.set_cons_zero, List.set_cons_succ]
  refine pureE (i := 6) (L := #[true, false, false, true, false, false, true, false, false, false, false, false, false, false]) (v := ?_) rfl (by rfl) (by kernel_rfl) (by kernel_rfl) (by kernel_rfl) (fun _ _ _ h => h) (by rfl) ?hy3 ?rest3
  case hy3 => intro w; go_simp; (try with_reducible rfl)
  try simp only [Act.put, List.setIfInBounds_toArray, List.set_cons_zero, List.set_cons_succ]
  refine pureE (i := 9) (L := #[true, false, false, true, false, false, true, false, false, true, false, false, false, false]) (v := ?_) rfl (by rfl) (by kernel_rfl) (by kernel_rfl) (by kernel_rfl) (fun _ _ _ h => h) (by rfl) ?hy4 ?rest4
  case hy4 => intro w; go_simp; (try with_reducible rfl)
  try simp only [Act.put, List.setIfInBounds_toArray, List.set_cons_zero, List.set_cons_succ]
  refine readE (i := 1) (L := #[true, true, false, true, false, false, true, false, false, true, false, false, false, false]) (v := .agg #[.bool m.S.s, .slice m.S.A m.S.n m.S.c, .int .i64 m.S.e]) rfl (by rfl) (by kernel_rfl) (by kernel_rfl) (by kernel_rfl) (fun _ _ _ h => h) (by assumption) (by rfl) ?yr_2 ?zr_2
  case yr_2 =>
    intro w' h1
    obtain ⟨⟨k0, k1, k2, k3, k4, k5, k6, k7, k8, k9, k10, k11⟩, kf⟩ := MBox.cells ((h1 _ (by omega)).trans hM)
    go_simp
  try simp only [Act.put, List.setIfInBounds_toArray, List.set_cons_zero, List.set_cons_succ]
  refine readE (i := 4) (L := #[true, true, false, true, true, false, true, false, false, true, false, false, false, false]) (v := .agg #[.bool m.W.s, .slice m.W.A m.W.n m.W.c, .int .i64 m.W.e]) rfl (by rfl) (by kernel_rfl) (by kernel_rfl) (by kernel_rfl) (fun _ _ _ h => h) (by assumption) (by rfl) ?yr_3 ?zr_3
  case yr_3 =>
    intro w' h1
    obtain ⟨⟨k0, k1, k2, k3, k4, k5, k6, k7, k8, k9, k10, k11⟩, kf⟩ := MBox.cells ((h1 _ (by omega)).trans hM)
    go_simp
  try simp only [Act.put, List.setIfInBounds_toArray, List.set_cons_zero, List.set_cons_succ]
  refine readE (i := 7) (L := #[true, true, false, true, true, false, true, true, false, true, false, false, false, false]) (v := .agg #[.bool m.C.s, .slice m.C.A m.C.n m.C.c, .int .i64 m.C.e]) rfl (by rfl) (by kernel_rfl) (by kernel_rfl) (by kernel_rfl) (fun _ _ _ h => h) (by assumption) (by rfl) ?yr_4 ?zr_4
  case yr_4 =>
    intro w' h1
    obtain ⟨⟨k0, k1, k2, k3, k4, k5, k6, k7, k8, k9, k10, k11⟩, kf⟩ := MBox.cells ((h1 _ (by omega)).trans hM)
    go_simp
  try simp only [Act.put, List.setIfInBounds_toArray, List.set_cons_zero, List.set_cons_succ]
  refine readE (i := 10) (L := #[true, true, false, true, true, false, true, true, false, true, true, false, false, false]) (v := .agg #[.bool m.A.s, .slice m.A.A m.A.n m.A.c, .int .i64 m.A.e]) rfl (by rfl) (by kernel_rfl) (by kernel_rfl) (by kernel_rfl) (fun _ _ _ h => h) (by assumption) (by rfl) ?yr_5 ?zr_5
  case yr_5 =>
    intro w' h1
    obtain ⟨⟨k0, k1, k2, k3, k4, k5, k6, k7, k8, k9, k10, k11⟩, kf⟩ := MBox.cells ((h1 _ (by omega)).trans hM)
    go_simp
  try simp only [Act.put, List.setIfInBounds_toArray, List.set_cons_zero, List.set_cons_succ]
  refine stepK (i := 2) (L := #[true, true, true, true, true, false, true, true, false, true, true, false, false, false]) rfl (by rfl) (by kernel_rfl) (by rfl) (fun K hK => ?_)
  go_simp
  go_at_call 19
  refine (Pa.rTwin_any w_1 m.S.s m.S.A m.S.n m.S.c m.S.xs m.S.e (MRows.get Rm 0) n0).mono ?_
  rintro e' w_6 ⟨A0, c0, rfl, hc0, hB, hlt0, hI⟩
  replace kp_ := Keeps.on kp_ (by omega) hB
  have lw_6 : w_1.heap.size ≤ w_6.heap.size := hB.size
  replace Rm := MRows.on Rm hB
  replace hBL := hBL.trans (hB.mono (by omega))
  have I0 : Ints _ (w.heap.size + 2) _ .u32 A0 m.S.n m.S.xs := Ints.more hI (by omega) (Nat.le_refl _)
  clear hI hlt0
  clear hB
  refine hK _ _ ⟨fun _ _ => kp_, ?_⟩
  clear hK K
  try simp only [Act.put, List.setIfInBounds_toArray, List.set_cons_zero, List.set_cons_succ]
  refine stepK (i := 5) (L := #[true, true, true, true, true, true, true, true, false, true, true, false, false, false]) rfl (by rfl) (by kernel_rfl) (by rfl) (fun K hK => ?_)
  go_simp
  go_at_call 19
  refine (Pa.rTwin_any w_6 m.W.s m.W.A m.W.n m.W.c m.W.xs m.W.e (MRows.get Rm 1) n1).mono ?_
  rintro e' w_7 ⟨A1, c1, rfl, hc1, hB, hlt1, hI⟩
  replace kp_ := Keeps.on kp_ (by omega) hB
  have lw_7 : w_6.heap.size ≤ w_7.heap.size := hB.size
  replace Rm := MRows.on Rm hB
  replace I0 := (Ints.below I0 hB (Nat.le_refl _)).more (Nat.le_refl _) hB.size
  replace hBL := hBL.trans (hB.mono (by omega))
  have I1 : Ints _ (w.heap.size + 2) _ .u32 A1 m.W.n m.W.xs := Ints.more hI (by omega) (Nat.le_refl _)
  clear hI hlt1
  clear hB
  refine hK _ _ ⟨fun _ _ => kp_, ?_⟩
  clear hK K
  try simp only [Act.put, List.setIfInBounds_toArray, List.set_cons_zero, List.set_cons_succ]
  refine stepK (i := 8) (L := #[true, true, true, true, true, true, true, true, true, true, true, false, false, false]) rfl (by rfl) (by kernel_rfl) (by rfl) (fun K hK => ?_)
  go_simp
  go_at_call 19
  refine (Pa.rTwin_any w_7 m.C.s m.C.A m.C.n m.C.c m.C.xs m.C.e (MRows.get Rm 2) n2).mono ?_
  rintro e' w_8 ⟨A2, c2, rfl, hc2, hB, hlt2, hI⟩
  replace kp_ := Keeps.on kp_ (by omega) hB
  have lw_8 : w_7.heap.size ≤ w_8.heap.size := hB.size
  replace Rm := MRows.on Rm hB
  replace I0 := (Ints.below I0 hB (Nat.le_refl _)).more (Nat.le_refl _) hB.size
  replace I1 := (Ints.below I1 hB (Nat.le_refl _)).more (Nat.le_refl _) hB.size
  replace hBL := hBL.trans (hB.mono (by omega))
  have I2 : Ints _ (w.heap.size + 2) _ .u32 A2 m.C.n m.C.xs := Ints.more hI (by omega) (Nat.le_refl _)
  clear hI hlt2
  clear hB
  refine hK _ _ ⟨fun _ _ => kp_, ?_⟩
  clear hK K
  try simp only [Act.put, List.setIfInBounds_toArray, List.set_cons_zero, List.set_cons_succ]
  refine stepK (i := 11) (L := #[true, true, true, true, true, true, true, true, true, true, true, true, false, false]) rfl (by rfl) (by kernel_rfl) (by rfl) (fun K hK => ?_)
  go_simp
  go_at_call 19
  refine (Pa.rTwin_any w_8 m.A.s m.A.A m.A.n m.A.c m.A.xs m.A.e (MRows.get Rm 3) n3).mono ?_
  rintro e' w_9 ⟨A3, c3, rfl, hc3, hB, hlt3, hI⟩
  replace kp_ := Keeps.on kp_ (by omega) hB
  have lw_9 : w_8.heap.size ≤ w_9.heap.size := hB.size
  replace Rm := MRows.on Rm hB
  replace I0 := (Ints.below I0 hB (Nat.le_refl _)).more (Nat.le_refl _) hB.size
  replace I1 := (Ints.below I1 hB (Nat.le_refl _)).more (Nat.le_refl _) hB.size
  replace I2 := (Ints.below I2 hB (Nat.le_refl _)).more (Nat.le_refl _) hB.size
  replace hBL := hBL.trans (hB.mono (by omega))
  have I3 : Ints _ (w.heap.size + 2) _ .u32 A3 m.A.n m.A.xs := Ints.more hI (by omega) (Nat.le_refl _)
  clear hI hlt3
  clear hB
  refine hK _ _ ⟨fun _ _ => kp_, ?_⟩
  clear hK K
  try simp only [Act.put, List.setIfInBounds_toArray, List.set_cons_zero, List.set_cons_succ]
  refine pureE (i := 12) (L := #[true, true, true, true, true, true, true, true, true, true, true, true, true, false]) (v := ?_) rfl (by rfl) (by kernel_rfl) (by kernel_rfl) (by kernel_rfl) (fun _ _ _ h => h) (by rfl) ?hy13 ?rest13
  case hy13 => intro w; go_simp; (try with_reducible rfl)
  try simp only [Act.put, List.setIfInBounds_toArray, List.set_cons_zero, List.set_cons_succ]
  have hZ2 : MBox w_9 (w.heap.size + 1) ZM := (kp_ _ (by omega)).trans hZ
  obtain ⟨⟨z0, z1, z2, z3, z4, z5, z6, z7, z8, z9, z10, z11⟩, zf⟩ := MBox.cells hZ2
  refine stepK (i := 13) (L := #[true, true, true, true, true, true, true, true, true, true, true, true, true, true]) rfl (by rfl) (by kernel_rfl) (by rfl) (fun K hK => ?_)
  go_simp
  refine hK _ _ ⟨fun h => absurd h (by decide), ?_⟩
  clear hK K z0 z1 z2 z3 z4 z5 z6 z7 z8 z9 z10 z11 zf
  try simp only [Act.put, List.setIfInBounds_toArray, List.set_cons_zero, List.set_cons_succ]
  obtain ⟨M, hMe⟩ : ∃ M : Mv, M = ⟨⟨m.S.s, A0, m.S.n, c0, m.S.e, m.S.xs⟩, ⟨m.W.s, A1, m.W.n, c1, m.W.e, m.W.xs⟩, ⟨m.C.s, A2, m.C.n, c2, m.C.e, m.C.xs⟩, ⟨m.A.s, A3, m.A.n, c3, m.A.e, m.A.xs⟩⟩ := ⟨_, rfl⟩
  have hX : MBox ((((((((((((w_9.setCell ⟨w.heap.size + 1, 0, none⟩ (.bool m.S.s)).setCell ⟨w.heap.size + 1, 1, none⟩ (.slice A0 m.S.n c0)).setCell ⟨w.heap.size + 1, 2, none⟩ (.int .i64 m.S.e)).setCell ⟨w.heap.size + 1, 3, none⟩ (.bool m.W.s)).setCell ⟨w.heap.size + 1, 4, none⟩ (.slice A1 m.W.n c1)).setCell ⟨w.heap.size + 1, 5, none⟩ (.int .i64 m.W.e)).setCell ⟨w.heap.size + 1, 6, none⟩ (.bool m.C.s)).setCell ⟨w.heap.size + 1, 7, none⟩ (.slice A2 m.C.n c2)).setCell ⟨w.heap.size + 1, 8, none⟩ (.int .i64 m.C.e)).setCell ⟨w.heap.size + 1, 9, none⟩ (.bool m.A.s)).setCell ⟨w.heap.size + 1, 10, none⟩ (.slice A3 m.A.n c3)).setCell ⟨w.heap.size + 1, 11, none⟩ (.int .i64 m.A.e)) (w.heap.size + 1) M := by rw [hMe]; exact MBox.all hZ2 ⟨⟨m.S.s, A0, m.S.n, c0, m.S.e, m.S.xs⟩, ⟨m.W.s, A1, m.W.n, c1, m.W.e, m.W.xs⟩, ⟨m.C.s, A2, m.C.n, c2, m.C.e, m.C.xs⟩, ⟨m.A.s, A3, m.A.n, c3, m.A.e, m.A.xs⟩⟩
  have hRX : MRows ((((((((((((w_9.setCell ⟨w.heap.size + 1, 0, none⟩ (.bool m.S.s)).setCell ⟨w.heap.size + 1, 1, none⟩ (.slice A0 m.S.n c0)).setCell ⟨w.heap.size + 1, 2, none⟩ (.int .i64 m.S.e)).setCell ⟨w.heap.size + 1, 3, none⟩ (.bool m.W.s)).setCell ⟨w.heap.size + 1, 4, none⟩ (.slice A1 m.W.n c1)).setCell ⟨w.heap.size + 1, 5, none⟩ (.int .i64 m.W.e)).setCell ⟨w.heap.size + 1, 6, none⟩ (.bool m.C.s)).setCell ⟨w.heap.size + 1, 7, none⟩ (.slice A2 m.C.n c2)).setCell ⟨w.heap.size + 1, 8, none⟩ (.int .i64 m.C.e)).setCell ⟨w.heap.size + 1, 9, none⟩ (.bool m.A.s)).setCell ⟨w.heap.size + 1, 10, none⟩ (.slice A3 m.A.n c3)).setCell ⟨w.heap.size + 1, 11, none⟩ (.int .i64 m.A.e)) w.heap.size w_9.heap.size M := by
    rw [hMe]
    have hfar : ∀ {A : Option Addr} {n : Nat} {xs : List Int}, Ints w_9 (w.heap.size + 2) w_9.heap.size .u32 A n xs → Ints ((((((((((((w_9.setCell ⟨w.heap.size + 1, 0, none⟩ (.bool m.S.s)).setCell ⟨w.heap.size + 1, 1, none⟩ (.slice A0 m.S.n c0)).setCell ⟨w.heap.size + 1, 2, none⟩ (.int .i64 m.S.e)).setCell ⟨w.heap.size + 1, 3, none⟩ (.bool m.W.s)).setCell ⟨w.heap.size + 1, 4, none⟩ (.slice A1 m.W.n c1)).setCell ⟨w.heap.size + 1, 5, none⟩ (.int .i64 m.W.e)).setCell ⟨w.heap.size + 1, 6, none⟩ (.bool m.C.s)).setCell ⟨w.heap.size + 1, 7, none⟩ (.slice A2 m.C.n c2)).setCell ⟨w.heap.size + 1, 8, none⟩ (.int .i64 m.C.e)).setCell ⟨w.heap.size + 1, 9, none⟩ (.bool m.A.s)).setCell ⟨w.heap.size + 1, 10, none⟩ (.slice A3 m.A.n c3)).setCell ⟨w.heap.size + 1, 11, none⟩ (.int .i64 m.A.e)) w.heap.size w_9.heap.size .u32 A n xs := fun h => (ints_rng h fun k h1 h2 => far_all (by omega) ⟨⟨m.S.s, A0, m.S.n, c0, m.S.e, m.S.xs⟩, ⟨m.W.s, A1, m.W.n, c1, m.W.e, m.W.xs⟩, ⟨m.C.s, A2, m.C.n, c2, m.C.e, m.C.xs⟩, ⟨m.A.s, A3, m.A.n, c3, m.A.e, m.A.xs⟩⟩).more (by omega) (Nat.le_refl _)
    exact ⟨hfar I0, hfar I1, hfar I2, hfar I3⟩
  have hY : Below w.heap.size w ((((((((((((w_9.setCell ⟨w.heap.size + 1, 0, none⟩ (.bool m.S.s)).setCell ⟨w.heap.size + 1, 1, none⟩ (.slice A0 m.S.n c0)).setCell ⟨w.heap.size + 1, 2, none⟩ (.int .i64 m.S.e)).setCell ⟨w.heap.size + 1, 3, none⟩ (.bool m.W.s)).setCell ⟨w.heap.size + 1, 4, none⟩ (.slice A1 m.W.n c1)).setCell ⟨w.heap.size + 1, 5, none⟩ (.int .i64 m.W.e)).setCell ⟨w.heap.size + 1, 6, none⟩ (.bool m.C.s)).setCell ⟨w.heap.size + 1, 7, none⟩ (.slice A2 m.C.n c2)).setCell ⟨w.heap.size + 1, 8, none⟩ (.int .i64 m.C.e)).setCell ⟨w.heap.size + 1, 9, none⟩ (.bool m.A.s)).setCell ⟨w.heap.size + 1, 10, none⟩ (.slice A3 m.A.n c3)).setCell ⟨w.heap.size + 1, 11, none⟩ (.int .i64 m.A.e)) := below_all hBL (by omega) ⟨⟨m.S.s, A0, m.S.n, c0, m.S.e, m.S.xs⟩, ⟨m.W.s, A1, m.W.n, c1, m.W.e, m.W.xs⟩, ⟨m.C.s, A2, m.C.n, c2, m.C.e, m.C.xs⟩, ⟨m.A.s, A3, m.A.n, c3, m.A.e, m.A.xs⟩⟩
  have hs : w_9.heap.size ≤ ((((((((((((w_9.setCell ⟨w.heap.size + 1, 0, none⟩ (.bool m.S.s)).setCell ⟨w.heap.size + 1, 1, none⟩ (.slice A0 m.S.n c0)).setCell ⟨w.heap.size + 1, 2, none⟩ (.int .i64 m.S.e)).setCell ⟨w.heap.size + 1, 3, none⟩ (.bool m.W.s)).setCell ⟨w.heap.size + 1, 4, none⟩ (.slice A1 m.W.n c1)).setCell ⟨w.heap.size + 1, 5, none⟩ (.int .i64 m.W.e)).setCell ⟨w.heap.size + 1, 6, none⟩ (.bool m.C.s)).setCell ⟨w.heap.size + 1, 7, none⟩ (.slice A2 m.C.n c2)).setCell ⟨w.heap.size + 1, 8, none⟩ (.int .i64 m.C.e)).setCell ⟨w.heap.size + 1, 9, none⟩ (.bool m.A.s)).setCell ⟨w.heap.size + 1, 10, none⟩ (.slice A3 m.A.n c3)).setCell ⟨w.heap.size + 1, 11, none⟩ (.int .i64 m.A.e)).heap.size := Nat.le_of_eq (size_all (w := w_9) (g := w.heap.size + 1) ⟨⟨m.S.s, A0, m.S.n, c0, m.S.e, m.S.xs⟩, ⟨m.W.s, A1, m.W.n, c1, m.W.e, m.W.xs⟩, ⟨m.C.s, A2, m.C.n, c2, m.C.e, m.C.xs⟩, ⟨m.A.s, A3, m.A.n, c3, m.A.e, m.A.xs⟩⟩).symm
  generalize ((((((((((((w_9.setCell ⟨w.heap.size + 1, 0, none⟩ (.bool m.S.s)).setCell ⟨w.heap.size + 1, 1, none⟩ (.slice A0 m.S.n c0)).setCell ⟨w.heap.size + 1, 2, none⟩ (.int .i64 m.S.e)).setCell ⟨w.heap.size + 1, 3, none⟩ (.bool m.W.s)).setCell ⟨w.heap.size + 1, 4, none⟩ (.slice A1 m.W.n c1)).setCell ⟨w.heap.size + 1, 5, none⟩ (.int .i64 m.W.e)).setCell ⟨w.heap.size + 1, 6, none⟩ (.bool m.C.s)).setCell ⟨w.heap.size + 1, 7, none⟩ (.slice A2 m.C.n c2)).setCell ⟨w.heap.size + 1, 8, none⟩ (.int .i64 m.C.e)).setCell ⟨w.heap.size + 1, 9, none⟩ (.bool m.A.s)).setCell ⟨w.heap.size + 1, 10, none⟩ (.slice A3 m.A.n c3)).setCell ⟨w.heap.size + 1, 11, none⟩ (.int .i64 m.A.e)) = U at *
  have hTw : ∀ x, x < 4 → TwinV (m.get x) (M.get x) := by
    rw [hMe]
    exact four ⟨rfl, rfl, rfl, rfl, hc0⟩ ⟨rfl, rfl, rfl, rfl, hc1⟩ ⟨rfl, rfl, rfl, rfl, hc2⟩ ⟨rfl, rfl, rfl, rfl, hc3⟩
  refine doneE (by kernel_rfl) ?_ _
  go_wp2
  obtain ⟨⟨k0, k1, k2, k3, k4, k5, k6, k7, k8, k9, k10, k11⟩, kf⟩ := MBox.cells hX
  exact bodyPost_ret (v := .agg #[.bool M.S.s, .slice M.S.A M.S.n M.S.c, .int .i64 M.S.e, .bool M.W.s, .slice M.W.A M.W.n M.W.c, .int .i64 M.W.e, .bool M.C.s, .slice M.C.A M.C.n M.C.c, .int .i64 M.C.e, .bool M.A.s, .slice M.A.A M.A.n M.A.c, .int .i64 M.A.e]) (by simp [results, Tryd.results29, go_sem, k0, k1, k2, k3, k4, k5, k6, k7, k8, k9, k10, k11]) rfl ⟨M, rfl, hTw, hY, hRX.more (Nat.le_refl _) hs⟩
end Ma
end Go.Proofs.YtlbkepiflhchdaaDoor
namespace Go.Proofs.YtlbkepiflhchdaaDoor
open Go.RowKit
theorem run_max2 {P : Program} (w : World) (ts : Array TypeId) (t : TypeId) (x0 x1 q : Int) (h : max x0 x1 = q) :
    (Builtin.max_ ts t #[.int .i64 x0, .int .i64 x1]).run P w = .ok (.int .i64 q) w := by
  subst h
  have e : ∀ a b : Int, (if a < b then b else a) = max a b := fun a b => by omega
  simp [Builtin.max_, Builtin.max2, e]
end Go.Proofs.YtlbkepiflhchdaaDoor
namespace Go.Proofs.YtlbkepiflhchdaaDoor
open Go.RowKit
namespace Ma
open Dp Dy
theorem mayMB_neg {m : Mv} (h : mayMB m = false) : ¬ m.may := fun k => by
  have := (mayMB_iff m).2 k
  rw [h] at this
  cases this
end Ma
end Go.Proofs.YtlbkepiflhchdaaDoor
namespace Go.Proofs.YtlbkepiflhchdaaDoor
open Go.RowKit
namespace Ma
open Dp Dy
theorem infoD40 : (Tryd.prog.info? 24).map (fun i => (i.zero, i.size, i.bytes)) = some (some (.agg #[.bool false, .slice none 0 0, .int .i64 0]), 3, 40) := by kernel_rfl
/-- A column of masses. -/
def colV (x : Nat) (ms : List Mv) : List Dv := ms.map fun m => m.get x
theorem colV_get (x : Nat) (ms : List Mv) (j : Nat) (h : j < (colV x ms).length) : (colV x ms)[j] = (ms[j]'(by simpa [colV] using h)).get x := by simp [colV]
theorem colV_snoc (x : Nat) {ms : List Mv} {i : Nat} (h : i < ms.length) : colV x (ms.take i) ++ [ms[i].get x] = colV x (ms.take (i + 1)) := by
  have e : ms.take (i + 1) = ms.take i ++ [ms[i]] := by rw [List.take_add_one]; simp [h]
  unfold colV
  rw [e, List.map_append]
  rfl
theorem colV_dn (x : Nat) (ms : List Mv) : (colV x ms).map dnV = colM x ms := (colM_map x ms).symm
set_option maxHeartbeats 25600000 in
set_option maxRecDepth 100000 in
/-- headcountref16.Far, of 4,096 at most. -/
theorem RFar_num (w : World) (A : Option Addr) (n d : Nat) (ms : List Mv) (hL : LMs w 0 w.heap.size A n ms) (hn : n ≤ 4096) (c a : Dn) (code : Int) (h : farM ms = ((c, a), code)) :
    Calls Tryd.prog 41 #[.slice A n d] w fun e w' => ∃ X Y : Dv, e = .returned (.tuple #[.agg #[.bool X.s, .slice X.A X.n X.c, .int .i64 X.e], .agg #[.bool Y.s, .slice Y.A Y.n Y.c, .int .i64 Y.e], .int .i64 code]) ∧ Below w.heap.size w w' ∧ Is c X ∧ Is a Y ∧ Ints w' w.heap.size w'.heap.size .u32 X.A X.n X.xs ∧ Ints w' w.heap.size w'.heap.size .u32 Y.A Y.n Y.xs := by
  have HL := Lib.hid hL.len
  have H := Lib.hid h
  clear h
  obtain ⟨i0, hi0, hz0, hz1, hz2⟩ := info_parts infoD40
  generalize hw : (w.alloc (.cells #[.bool false, .slice none 0 0, .int .i64 0] 24)).alloc (.cells #[.bool false, .slice none 0 0, .int .i64 0] 24) = w1
  obtain ⟨hRC, hRA, hb, lo1, hi1⟩ := boxes2 w _ _ hw
  replace hRC : w1.heap[w.heap.size]? = some (.cells #[.bool false, .slice none 0 0, .int .i64 0] 24 (0, 0)) := hRC
  replace hRA : w1.heap[w.heap.size + 1]? = some (.cells #[.bool false, .slice none 0 0, .int .i64 0] 24 (0, 0)) := hRA
  replace hb : Below w.heap.size w w1 := hb
  go_enter Tryd.func41, Tryd.ntmps41
  go_wp2
  try clear hw
  clear hi1
  go_loopw [5, 6, 7] (fun cv av iv wr => ∃ i : Nat, iv = .int .i64 i ∧ i ≤ n ∧ OwnD wr (w.heap.size + 2) cv i (colV 2 (ms.take i)) ∧ OwnD wr (w.heap.size + 2) av i (colV 3 (ms.take i)) ∧ Hid (∀ k, cv.ownBlock = some k → av.ownBlock ≠ some k) ∧ wr.heap[w.heap.size]? = some (.cells #[.bool false, .slice none 0 0, .int .i64 0] 24 (0, 0)) ∧ wr.heap[w.heap.size + 1]? = some (.cells #[.bool false, .slice none 0 0, .int .i64 0] 24 (0, 0)) ∧ Below w.heap.size w wr ∧ w.heap.size + 2 ≤ wr.heap.size ∧ Hid (∀ j (h : j < ms.length), j < i → ms[j].may)) (fun _ _ iv _ => n - (intOf iv).toNat)
  case atStart => exact ⟨0, rfl, Nat.zero_le _, OwnD.nil_ _ _, OwnD.nil_ _ _, Lib.hid (fun k h => by cases h), hRC, hRA, hb, lo1, Lib.hid fun j h hj => absurd hj (Nat.not_lt_zero _)⟩
  case round =>
    clear hRC hRA hb lo1
    obtain ⟨i, rfl, hi1, hC, hA, hne, hRC, hRA, hb, lo1, hall⟩ := hrel
    have hLr := hL.below hb (Nat.le_refl _)
    obtain ⟨Ac, cc, rfl, hcc, hcm⟩ := hC.shape
    obtain ⟨Aa, ca, rfl, hac, ham⟩ := hA.shape
    by_cases hlt : i < n
    · skip
      have hi2 : i < ms.length := by rw [HL.out]; exact hlt
      obtain ⟨b, off, hAA, h1, h2, hc⟩ := hLr.row (by omega)
      have hci := hc i hi2
      have hri := hLr.rows i hi2
      obtain ⟨m, hm⟩ : ∃ m, ms[i] = m := ⟨_, rfl⟩
      rw [hm] at hci hri
      have HD := Lib.hid hm
      clear hm hc
      subst hAA
      clear hLr
      have lw := hb.size
      have hwr : IntKind.i64.wrap ((i : Int) + 1) = ((i + 1 : Nat) : Int) := by rw [IntKind.wrap_i64]; omega
      have hciH := Lib.hid hci
      have HRI := Lib.hid hri
      obtain ⟨k0, k1, k2, k3, k4, k5, k6, k7, k8, k9, k10, k11⟩ := hci
      have hr2 : MRows wr 0 wr.heap.size m := hri.more (Nat.le_refl _) lw
      obtain ⟨q, hq⟩ : ∃ q, mayMB m = q := ⟨_, rfl⟩
      have HQ := Lib.hid hq
      clear hq hri
      go_wp2_with fail
      refine (RMay_any wr m hr2 q HQ.out).mono ?_
      rintro e w3 ⟨rfl, hB⟩
      clear k0 k1 k2 k3 k4 k5 k6 k7 k8 k9 k10 k11 hr2
      have l3 := hB.size
      replace hRC := (hB.block _ (by omega)).trans hRC
      replace hRA := (hB.block _ (by omega)).trans hRA
      have hb3 := hb.trans (hB.mono lw)
      have hC3 := hC.on hB
      have hA3 := hA.on hB
      have hci3 := hciH.out.blk (hB.block _ (by omega))
      have hCl : ∀ k, (Value.slice Ac i cc).ownBlock = some k → k < wr.heap.size := fun k hk => (hC.own.lt k hk).2
      have hAl : ∀ k, (Value.slice Aa i ca).ownBlock = some k → k < wr.heap.size := fun k hk => (hA.own.lt k hk).2
      clear hB hb hC hA hciH HRI
      cases q
      · have hmn := mayMB_neg HQ.out
        have hcode : ((Dn.zero, Dn.zero), (8 : Int)) = ((c, a), code) := by
          have e := H.out
          unfold farM at e
          rw [if_neg (by rw [HL.out]; omega), if_pos ⟨ms[i], List.getElem_mem hi2, by rw [HD.out]; exact hmn⟩] at e
          exact e
        injection hcode with hcode hcd
        injection hcode with hcc' hca'
        subst hcc' hca' hcd
        obtain ⟨⟨z0, z1, z2⟩, z3, z4, z5⟩ := boxD hRC
        obtain ⟨⟨y0, y1, y2⟩, y3, y4, y5⟩ := boxD hRA
        clear hci3 hC3 hA3
        go_wp2
        obtain ⟨U1, hu1, hX1, hb1, hf1, hs1, hs1'⟩ := zput hRC (.bool false) (.slice none 0 0) (.int .i64 0)
        try rw [hu1]
        obtain ⟨U2, hu2, hX2, hb2, hf2, hs2, hs2'⟩ := zput (show U1.heap[w.heap.size + 1]? = some (.cells #[.bool false, .slice none 0 0, .int .i64 0] 24 (0, 0)) from (hf1 _ (by omega)).trans hRA) (.bool false) (.slice none 0 0) (.int .i64 0)
        try rw [hu2]
        replace hX1 := (hf2 w.heap.size (by omega)).trans hX1
        have hQ := hb2 _ _ (hb1 _ _ hb3 (Nat.le_refl _)) (by omega)
        clear hu1 hu2 z0 z1 z2 z3 z4 z5 y0 y1 y2 y3 y4 y5
        obtain ⟨⟨z0, z1, z2⟩, _⟩ := boxD hX1
        obtain ⟨⟨y0, y1, y2⟩, _⟩ := boxD hX2
        exact bodyPost_ret (v := .tuple #[.agg #[.bool false, .slice none 0 0, .int .i64 0], .agg #[.bool false, .slice none 0 0, .int .i64 0], .int .i64 8]) (by simp [results, Tryd.results41, go_sem, z0, z1, z2, y0, y1, y2]) rfl ⟨ZDv, ZDv, rfl, hQ, Is.zero, Is.zero, Ints.nil_ .., Ints.nil_ ..⟩
      · have hmy := (mayMB_iff m).1 HQ.out
        obtain ⟨k0, k1, k2, k3, k4, k5, k6, k7, k8, k9, k10, k11⟩ := hci3
        have hciH := Lib.hid (show MCells w3 b (off + i * 12) m from ⟨k0, k1, k2, k3, k4, k5, k6, k7, k8, k9, k10, k11⟩)
        generalize hw4 : w3.alloc (.cells #[.bool m.C.s, .slice m.C.A m.C.n m.C.c, .int .i64 m.C.e] 24) = w4
        have hB4 : Below w3.heap.size w3 w4 := by rw [← hw4]; exact (Below.refl _ _).alloc (Nat.le_refl _) _
        have hraw := raw_oneD w3 m.C hw4
        have l4 : w3.heap.size < w4.heap.size := by rw [← hw4]; simp
        have hC4 := hC3.on hB4
        have hA4 := hA3.on hB4
        replace hRC := (hB4.block _ (by omega)).trans hRC
        replace hRA := (hB4.block _ (by omega)).trans hRA
        have hb4 := hb3.trans (hB4.mono (by omega))
        have hci4 := hciH.out.blk (hB4.block _ (by omega))
        clear hB4 hC3 hA3 hb3 hciH
        go_wp2_with (first
          | (at_builtin; refine wpList_append_raw _ rfl (.tmp 31) (.tmp 37) 105 rfl (w.heap.size + 2) 24 i0 _ 3 40 Tryd.underlying105 hi0 hz0 hz1 hz2 rfl (by decide) _ _ _ rfl hC4.own _ _ _ 1 1 (cells3 m.C) rfl hraw (cells3_one m.C) (by unfold maxLen; omega) (by omega) (by omega) ?_))
        try clear hw4
        clear k0 k1 k2 k3 k4 k5 k6 k7 k8 k9 k10 k11
        intro A5 c5 w5 hown5 hg5 hob5
        have hA5 := hA4.by_ hg5 (fun k hk he => hne.out k he hk)
        have l5 : w4.heap.size ≤ w5.heap.size := hg5.size
        have hk5 : ∀ k, k < w4.heap.size → (Value.slice Ac i cc).ownBlock ≠ some k → w5.heap[k]? = w4.heap[k]? := fun k hk he => hg5.block k hk (fun e => he e.symm)
        have hCb : ∀ k, (Value.slice Ac i cc).ownBlock = some k → w.heap.size + 2 ≤ k := fun k hk => (hC4.own.lt k hk).1
        have hb5 := hb4.grown hg5 (by omega) (fun q hq => Nat.le_trans (by omega) (hC4.own.lt q hq).1)
        replace hRC := (hk5 _ (by omega) (fun he => by have := hCb _ he; omega)).trans hRC
        replace hRA := (hk5 _ (by omega) (fun he => by have := hCb _ he; omega)).trans hRA
        have hci5 := hci4.blk (hk5 b (by omega) (fun he => by have := hCb _ he; omega))
        have hC5 := OwnD.push hC4.len hown5
        rw [show colV 2 (ms.take i) ++ [m.C] = colV 2 (ms.take (i + 1)) by rw [← colV_snoc 2 hi2, HD.out]; rfl] at hC5
        have hne5 : Hid (∀ k, (Value.slice A5 (i + 1) c5).ownBlock = some k → (Value.slice Aa i ca).ownBlock ≠ some k) := Lib.hid (fun k hk he => by
          rcases hob5 with e | e
          · exact hne.out k (e ▸ hk) he
          · rw [e] at hk
            injection hk with hk
            have := hAl k he
            omega)
        clear hC4 hA4 hb4 hown5 hg5 hob5 hk5 hCb hraw hci4 hCl hne
        have hC5l : ∀ k, (Value.slice A5 (i + 1) c5).ownBlock = some k → k < w5.heap.size := fun k hk => (hC5.own.lt k hk).2
        obtain ⟨k0, k1, k2, k3, k4, k5, k6, k7, k8, k9, k10, k11⟩ := hci5
        generalize hw6 : w5.alloc (.cells #[.bool m.A.s, .slice m.A.A m.A.n m.A.c, .int .i64 m.A.e] 24) = w6
        have hB6 : Below w5.heap.size w5 w6 := by rw [← hw6]; exact (Below.refl _ _).alloc (Nat.le_refl _) _
        have hraw := raw_oneD w5 m.A hw6
        have l6 : w5.heap.size < w6.heap.size := by rw [← hw6]; simp
        have hC6 := hC5.on hB6
        have hA6 := hA5.on hB6
        replace hRC := (hB6.block _ (by omega)).trans hRC
        replace hRA := (hB6.block _ (by omega)).trans hRA
        have hb6 := hb5.trans (hB6.mono (by omega))
        clear hB6 hC5 hA5 hb5
        go_wp2_with (first
          | (at_builtin; refine wpList_append_raw _ rfl (.tmp 39) (.tmp 45) 105 rfl (w.heap.size + 2) 24 i0 _ 3 40 Tryd.underlying105 hi0 hz0 hz1 hz2 rfl (by decide) _ _ _ rfl hA6.own _ _ _ 1 1 (cells3 m.A) rfl hraw (cells3_one m.A) (by unfold maxLen; omega) (by omega) (by omega) ?_))
        try clear hw6
        clear k0 k1 k2 k3 k4 k5 k6 k7 k8 k9 k10 k11
        intro A7 c7 w7 hown7 hg7 hob7
        have hC7 := hC6.by_ hg7 (fun k hk he => hne5.out k hk he)
        have l7 : w6.heap.size ≤ w7.heap.size := hg7.size
        have hk7 : ∀ k, k < w6.heap.size → (Value.slice Aa i ca).ownBlock ≠ some k → w7.heap[k]? = w6.heap[k]? := fun k hk he => hg7.block k hk (fun e => he e.symm)
        have hAb : ∀ k, (Value.slice Aa i ca).ownBlock = some k → w.heap.size + 2 ≤ k := fun k hk => (hA6.own.lt k hk).1
        have hb7 := hb6.grown hg7 (by omega) (fun q hq => Nat.le_trans (by omega) (hA6.own.lt q hq).1)
        replace hRC := (hk7 _ (by omega) (fun he => by have := hAb _ he; omega)).trans hRC
        replace hRA := (hk7 _ (by omega) (fun he => by have := hAb _ he; omega)).trans hRA
        have hA7 := OwnD.push hA6.len hown7
        rw [show colV 3 (ms.take i) ++ [m.A] = colV 3 (ms.take (i + 1)) by rw [← colV_snoc 3 hi2, HD.out]; rfl] at hA7
        have hne7 : Hid (∀ k, (Value.slice A5 (i + 1) c5).ownBlock = some k → (Value.slice A7 (i + 1) c7).ownBlock ≠ some k) := Lib.hid (fun k hk he => by
          rcases hob7 with e | e
          · exact hne5.out k hk (e ▸ he)
          · rw [e] at he
            injection he with he
            have := hC5l k hk
            omega)
        clear hC6 hA6 hb6 hown7 hg7 hob7 hk7 hAb hraw hAl hne5 hC5l
        go_wp2
        go_roundw
        case rel => exact ⟨i + 1, by first | rfl | (congr 1; omega) | go_num, by omega, hC7, hA7, hne7, hRC, hRA, hb7, by omega, Lib.hid fun j hj hji => by
          by_cases e : j = i
          · subst e
            rw [HD.out]
            exact hmy
          · exact hall.out j hj (by omega)⟩
        case measure => first | (simp [intOf]; done) | (simp [intOf]; omega)
    · skip
      have hin : i = n := by omega
      subst hin
      have hmay : Hid (∀ j (h : j < ms.length), ms[j].may) := Lib.hid fun j h => hall.out j h (by have := HL.out; omega)
      have htk : ms.take i = ms := List.take_of_length_le (by rw [HL.out]; exact Nat.le_refl _)
      rw [htk] at hC hA
      clear htk hall
      by_cases h0 : i = 0
      · have hcode : ((Dn.zero, Dn.zero), (6 : Int)) = ((c, a), code) := by
          have e := H.out
          have hms : ms = [] := List.eq_nil_of_length_eq_zero (by rw [HL.out]; exact h0)
          subst hms
          unfold farM at e
          rw [if_neg (by simp), if_neg (by rintro ⟨m, hm, _⟩; cases hm), if_neg (by intro k; exact absurd k.1 (by show ¬ ((farL (colM 2 [])).2 = 0); decide)), if_pos rfl] at e
          exact e
        injection hcode with hcode hcd
        injection hcode with hcc' hca'
        subst hcc' hca' hcd
        have hz9 : ((i : Int) == 0) = true := by simp [h0]
        obtain ⟨⟨z0, z1, z2⟩, z3, z4, z5⟩ := boxD hRC
        obtain ⟨⟨y0, y1, y2⟩, y3, y4, y5⟩ := boxD hRA
        clear hC hA hLr
        go_wp2
        obtain ⟨U1, hu1, hX1, hb1, hf1, hs1, hs1'⟩ := zput hRC (.bool false) (.slice none 0 0) (.int .i64 0)
        try rw [hu1]
        obtain ⟨U2, hu2, hX2, hb2, hf2, hs2, hs2'⟩ := zput (show U1.heap[w.heap.size + 1]? = some (.cells #[.bool false, .slice none 0 0, .int .i64 0] 24 (0, 0)) from (hf1 _ (by omega)).trans hRA) (.bool false) (.slice none 0 0) (.int .i64 0)
        try rw [hu2]
        replace hX1 := (hf2 w.heap.size (by omega)).trans hX1
        have hQ := hb2 _ _ (hb1 _ _ hb (Nat.le_refl _)) (by omega)
        clear hu1 hu2 z0 z1 z2 z3 z4 z5 y0 y1 y2 y3 y4 y5
        obtain ⟨⟨z0, z1, z2⟩, _⟩ := boxD hX1
        obtain ⟨⟨y0, y1, y2⟩, _⟩ := boxD hX2
        exact bodyPost_ret (v := .tuple #[.agg #[.bool false, .slice none 0 0, .int .i64 0], .agg #[.bool false, .slice none 0 0, .int .i64 0], .int .i64 6]) (by simp [results, Tryd.results41, go_sem, z0, z1, z2, y0, y1, y2]) rfl ⟨ZDv, ZDv, rfl, hQ, Is.zero, Is.zero, Ints.nil_ .., Ints.nil_ ..⟩
      · skip
        have hz9 : ((i : Int) == 0) = false := by simp [h0]
        have h0' : 0 < i := by omega
        obtain ⟨c1, qc, hc1⟩ : ∃ c q, farL (colM 2 ms) = (c, q) := ⟨_, _, rfl⟩
        obtain ⟨a1, qa, ha1⟩ : ∃ a q, farL (colM 3 ms) = (a, q) := ⟨_, _, rfl⟩
        have hne0 : ms ≠ [] := fun e => by
          have := HL.out
          rw [e] at this
          simp at this
          omega
        have HN : Hid ((qc = 0 ∨ (qc = 10)) ∧ (qa = 0 ∨ qa = 10) ∧ (qc = 0 → qa = 0 → c1 = c ∧ a1 = a ∧ code = 0) ∧ (¬ (qc = 0 ∧ qa = 0) → c = Dn.zero ∧ a = Dn.zero ∧ code = 10)) := Lib.hid (by
          have k1 := farL_two (l := colM 2 ms) (by simpa [colM] using hne0)
          have k2 := farL_two (l := colM 3 ms) (by simpa [colM] using hne0)
          have e := H.out
          unfold farM at e
          rw [if_neg (by rw [HL.out]; omega), if_neg (by
            rintro ⟨m, hm, hn'⟩
            obtain ⟨j, hj, e⟩ := List.getElem_of_mem hm
            exact hn' (e ▸ hmay.out j hj)), hc1, ha1, if_neg hne0] at e
          rw [hc1] at k1
          rw [ha1] at k2
          refine ⟨?_, ?_, ?_, ?_⟩
          · rcases k1 with k | k
            · exact .inl k
            · injection k with _ k
              exact .inr k
          · rcases k2 with k | k
            · exact .inl k
            · injection k with _ k
              exact .inr k
          · intro e1 e2
            rw [if_pos ⟨e1, e2⟩] at e
            injection e with e e3
            injection e with e4 e5
            exact ⟨e4, e5, e3.symm⟩
          · intro hk
            rw [if_neg hk] at e
            injection e with e e3
            injection e with e4 e5
            exact ⟨e4.symm, e5.symm, e3.symm⟩)
        have HC1 := Lib.hid hc1
        have HA1 := Lib.hid ha1
        clear hc1 ha1
        have hb0 := hb.size
        have hLC : LDs wr 0 wr.heap.size Ac i (colV 2 ms) := hC.lds (fun j hj => by rw [colV_get]; exact ((hLr.rows j _).get 2).more (Nat.le_refl _) hb0)
        have hLA : LDs wr 0 wr.heap.size Aa i (colV 3 ms) := hA.lds (fun j hj => by rw [colV_get]; exact ((hLr.rows j _).get 3).more (Nat.le_refl _) hb0)
        clear hC hA hLr hne
        go_wp2_with fail
        refine (rApart_any wr Ac i cc (colV 2 ms) hLC (by omega) h0' (fun j hj => by rw [colV_get]; exact hmay.out j _ 2 (by decide)) c1 qc (by rw [colV_dn]; exact HC1.out)).mono ?_
        rintro e' w5 ⟨A5, n5, c5, rfl, hnc5, hB, I5⟩
        have l5 := hB.size
        replace hLA := hLA.on hB
        replace hRC := (hB.block _ (by omega)).trans hRC
        replace hRA := (hB.block _ (by omega)).trans hRA
        replace hb := hb.trans (hB.mono (by omega))
        clear hB hLC
        generalize hw6 : w5.alloc (.cells #[.bool c1.neg, .slice A5 n5 c5, .int .i64 c1.e] 24) = w6
        have hX6 : w6.heap[w5.heap.size]? = some (.cells #[.bool c1.neg, .slice A5 n5 c5, .int .i64 c1.e] 24 (0, 0)) := by rw [← hw6]; exact heap_alloc_last _ _
        have hB : Below w5.heap.size w5 w6 := by rw [← hw6]; exact (Below.refl _ _).alloc (Nat.le_refl _) _
        have l6 : w5.heap.size < w6.heap.size := by rw [← hw6]; simp
        replace hLA := hLA.on hB
        replace hRC := (hB.block _ (by omega)).trans hRC
        replace hRA := (hB.block _ (by omega)).trans hRA
        replace hb := hb.trans (hB.mono (by omega))
        replace I5 := (I5.below hB (Nat.le_refl _)).more (lo' := w.heap.size + 2) (hi' := w6.heap.size) (by omega) (by omega)
        clear hB
        go_wp2_with fail
        try clear hw6
        refine (rApart_any w6 Aa i ca (colV 3 ms) hLA (by omega) h0' (fun j hj => by rw [colV_get]; exact hmay.out j _ 3 (by decide)) a1 qa (by rw [colV_dn]; exact HA1.out)).mono ?_
        rintro e' w7 ⟨A7, n7, c7, rfl, hnc7, hB, I7⟩
        have l7 := hB.size
        replace hRC := (hB.block _ (by omega)).trans hRC
        replace hRA := (hB.block _ (by omega)).trans hRA
        replace hX6 := (hB.block _ (by omega)).trans hX6
        replace hb := hb.trans (hB.mono (by omega))
        replace I5 := (I5.below hB (Nat.le_refl _)).more (Nat.le_refl _) l7
        clear hB hLA
        generalize hw8 : w7.alloc (.cells #[.bool a1.neg, .slice A7 n7 c7, .int .i64 a1.e] 24) = w8
        have hX8 : w8.heap[w7.heap.size]? = some (.cells #[.bool a1.neg, .slice A7 n7 c7, .int .i64 a1.e] 24 (0, 0)) := by rw [← hw8]; exact heap_alloc_last _ _
        have hB : Below w7.heap.size w7 w8 := by rw [← hw8]; exact (Below.refl _ _).alloc (Nat.le_refl _) _
        have l8 : w7.heap.size < w8.heap.size := by rw [← hw8]; simp
        replace hRC := (hB.block _ (by omega)).trans hRC
        replace hRA := (hB.block _ (by omega)).trans hRA
        replace hX6 := (hB.block _ (by omega)).trans hX6
        replace hb := hb.trans (hB.mono (by omega))
        replace I5 := (I5.below hB (Nat.le_refl _)).more (Nat.le_refl _) (Nat.le_of_lt l8)
        replace I7 := (I7.below hB (Nat.le_refl _)).more (lo' := w.heap.size + 2) (hi' := w8.heap.size) (by omega) (by omega)
        clear hB
        obtain ⟨kC, kA, kok, kbad⟩ := HN.out
        replace kok := Lib.hid kok
        replace kbad := Lib.hid kbad
        clear HN
        rcases kC with rfl | rfl
        · rcases kA with rfl | rfl
          · skip
            have hmax : ∀ W : World, (Builtin.max_ #[3, 3] 3 #[.int .i64 0, .int .i64 0]).run Tryd.prog W = .ok (.int .i64 0) W := fun W => run_max2 W _ _ _ _ _ (by decide)
            obtain ⟨rfl, rfl, rfl⟩ := kok.out rfl rfl
            go_wp2_with fail
            try clear hw8
            refine region_E (fun W => W.heap[w5.heap.size]? = w8.heap[w5.heap.size]? ∧ W.heap[w7.heap.size]? = w8.heap[w7.heap.size]?) [] (m := 5) (L := #[false, false, false, false, false]) (by kernel_rfl) (by rfl) (by rfl) ?_
            have b_ : Below w.heap.size w w8.drew := hb.drew
            replace hRC : w8.drew.heap[w.heap.size]? = some (.cells #[.bool false, .slice none 0 0, .int .i64 0] 24 (0, 0)) := hRC
            replace hRA : w8.drew.heap[w.heap.size + 1]? = some (.cells #[.bool false, .slice none 0 0, .int .i64 0] 24 (0, 0)) := hRA
            have hX6d : w8.drew.heap[w5.heap.size]? = some (.cells #[.bool c1.neg, .slice A5 n5 c5, .int .i64 c1.e] 24 (0, 0)) := hX6
            have hX8d : w8.drew.heap[w7.heap.size]? = some (.cells #[.bool a1.neg, .slice A7 n7 c7, .int .i64 a1.e] 24 (0, 0)) := hX8
            replace I5 : Ints w8.drew (w.heap.size + 2) w8.drew.heap.size .u32 A5 n5 (canon 4294967296 c1.m) := ints_rng I5 (fun _ _ _ => rfl)
            replace I7 : Ints w8.drew (w.heap.size + 2) w8.drew.heap.size .u32 A7 n7 (canon 4294967296 a1.m) := ints_rng I7 (fun _ _ _ => rfl)
            have ld : w8.heap.size ≤ w8.drew.heap.size := Nat.le_refl _
            have hS9 : w8.drew.heap[w5.heap.size]? = w8.heap[w5.heap.size]? ∧ w8.drew.heap[w7.heap.size]? = w8.heap[w7.heap.size]? := ⟨rfl, rfl⟩
            generalize w8.drew = w9 at *
            refine readE (i := 0) (L := #[true, false, false, false, false]) (v := .agg #[.bool c1.neg, .slice A5 n5 c5, .int .i64 c1.e]) rfl (by rfl) (by kernel_rfl) (by kernel_rfl) (by kernel_rfl) (fun _ _ _ h => h) (by assumption) (by rfl) ?ya ?za
            case ya =>
              intro w' h1
              obtain ⟨⟨e0, e1, e2⟩, _⟩ := boxD (h1.1.trans hX6)
              go_simp
            try simp only [Act.put, List.setIfInBounds_toArray, List.set_cons_zero, List.set_cons_succ]
            refine readE (i := 1) (L := #[true, true, false, false, false]) (v := .agg #[.bool a1.neg, .slice A7 n7 c7, .int .i64 a1.e]) rfl (by rfl) (by kernel_rfl) (by kernel_rfl) (by kernel_rfl) (fun _ _ _ h => h) (by assumption) (by rfl) ?yb ?zb
            case yb =>
              intro w' h1
              obtain ⟨⟨e0, e1, e2⟩, _⟩ := boxD (h1.2.trans hX8)
              go_simp
            try simp only [Act.put, List.setIfInBounds_toArray, List.set_cons_zero, List.set_cons_succ]
            obtain ⟨⟨z0, z1, z2⟩, zf⟩ := boxD hRC
            obtain ⟨w10, hwV, hN, hbV, hfV, lw10, lw10'⟩ := zput hRC (.bool c1.neg) (.slice A5 n5 c5) (.int .i64 c1.e)
            refine stepK (i := 2) (L := #[true, true, true, false, false]) rfl (by rfl) (by kernel_rfl) (by rfl) (fun K hK => ?_)
            go_simp
            try rw [hwV]
            clear hwV z0 z1 z2 zf
            replace b_ := hbV _ _ b_ (by omega)
            replace hRA := (hfV _ (by omega)).trans hRA
            replace I5 : Ints w10 (w.heap.size + 2) w10.heap.size .u32 A5 n5 (canon 4294967296 c1.m) := (ints_rng I5 (fun b h1 h2 => hfV b (by omega))).more (Nat.le_refl _) (by omega)
            replace I7 : Ints w10 (w.heap.size + 2) w10.heap.size .u32 A7 n7 (canon 4294967296 a1.m) := (ints_rng I7 (fun b h1 h2 => hfV b (by omega))).more (Nat.le_refl _) (by omega)
            refine hK _ _ ⟨fun _ s => ⟨(hfV _ (by omega)).trans s.1, (hfV _ (by omega)).trans s.2⟩, ?_⟩
            clear hK K hRC
            have hRC := hN
            clear hN hfV hbV
            try simp only [Act.put, List.setIfInBounds_toArray, List.set_cons_zero, List.set_cons_succ]
            obtain ⟨⟨z0, z1, z2⟩, zf⟩ := boxD hRA
            obtain ⟨w11, hwV, hN, hbV, hfV, lw11, lw11'⟩ := zput hRA (.bool a1.neg) (.slice A7 n7 c7) (.int .i64 a1.e)
            refine stepK (i := 3) (L := #[true, true, true, true, false]) rfl (by rfl) (by kernel_rfl) (by rfl) (fun K hK => ?_)
            go_simp
            try rw [hwV]
            clear hwV z0 z1 z2 zf
            replace b_ := hbV _ _ b_ (by omega)
            replace hRC := (hfV _ (by omega)).trans hRC
            replace I5 : Ints w11 (w.heap.size + 2) w11.heap.size .u32 A5 n5 (canon 4294967296 c1.m) := (ints_rng I5 (fun b h1 h2 => hfV b (by omega))).more (Nat.le_refl _) (by omega)
            replace I7 : Ints w11 (w.heap.size + 2) w11.heap.size .u32 A7 n7 (canon 4294967296 a1.m) := (ints_rng I7 (fun b h1 h2 => hfV b (by omega))).more (Nat.le_refl _) (by omega)
            refine hK _ _ ⟨fun _ s => ⟨(hfV _ (by omega)).trans s.1, (hfV _ (by omega)).trans s.2⟩, ?_⟩
            clear hK K hRA
            have hRA := hN
            clear hN hfV hbV
            try simp only [Act.put, List.setIfInBounds_toArray, List.set_cons_zero, List.set_cons_succ]
            refine pureE (i := 4) (L := #[true, true, true, true, true]) (v := ?_) rfl (by rfl) (by kernel_rfl) (by kernel_rfl) (by kernel_rfl) (fun _ _ _ h => h) (by rfl) ?hy19 ?rest19
            case hy19 => intro w; go_simp; (try with_reducible rfl)
            try simp only [Act.put, List.setIfInBounds_toArray, List.set_cons_zero, List.set_cons_succ]
            refine doneE (by kernel_rfl) ?_ _
            obtain ⟨⟨z0, z1, z2⟩, zf⟩ := boxD hRC
            obtain ⟨⟨y0, y1, y2⟩, yf⟩ := boxD hRA
            go_wp2
            exact bodyPost_ret (v := .tuple #[.agg #[.bool c1.neg, .slice A5 n5 c5, .int .i64 c1.e], .agg #[.bool a1.neg, .slice A7 n7 c7, .int .i64 a1.e], .int .i64 0]) (by simp [results, Tryd.results41, go_sem, z0, z1, z2, y0, y1, y2]) rfl ⟨⟨c1.neg, A5, n5, c5, c1.e, canon 4294967296 c1.m⟩, ⟨a1.neg, A7, n7, c7, a1.e, canon 4294967296 a1.m⟩, rfl, b_, ⟨rfl, rfl, rfl⟩, ⟨rfl, rfl, rfl⟩, I5.more (by omega) (Nat.le_refl _), I7.more (by omega) (Nat.le_refl _)⟩
          · skip
            have hmax : ∀ W : World, (Builtin.max_ #[3, 3] 3 #[.int .i64 0, .int .i64 10]).run Tryd.prog W = .ok (.int .i64 10) W := fun W => run_max2 W _ _ _ _ _ (by decide)
            obtain ⟨rfl, rfl, rfl⟩ := kbad.out (by decide)
            clear hX6 hX8 I5 I7
            obtain ⟨⟨z0, z1, z2⟩, z3, z4, z5⟩ := boxD hRC
            obtain ⟨⟨y0, y1, y2⟩, y3, y4, y5⟩ := boxD hRA
            go_wp2
            try clear hw8
            obtain ⟨U1, hu1, hX1, hb1, hf1, hs1, hs1'⟩ := zput hRC (.bool false) (.slice none 0 0) (.int .i64 0)
            try rw [hu1]
            obtain ⟨U2, hu2, hX2, hb2, hf2, hs2, hs2'⟩ := zput (show U1.heap[w.heap.size + 1]? = some (.cells #[.bool false, .slice none 0 0, .int .i64 0] 24 (0, 0)) from (hf1 _ (by omega)).trans hRA) (.bool false) (.slice none 0 0) (.int .i64 0)
            try rw [hu2]
            replace hX1 := (hf2 w.heap.size (by omega)).trans hX1
            have hQ := hb2 _ _ (hb1 _ _ hb (Nat.le_refl _)) (by omega)
            clear hu1 hu2 z0 z1 z2 z3 z4 z5 y0 y1 y2 y3 y4 y5
            obtain ⟨⟨z0, z1, z2⟩, _⟩ := boxD hX1
            obtain ⟨⟨y0, y1, y2⟩, _⟩ := boxD hX2
            exact bodyPost_ret (v := .tuple #[.agg #[.bool false, .slice none 0 0, .int .i64 0], .agg #[.bool false, .slice none 0 0, .int .i64 0], .int .i64 10]) (by simp [results, Tryd.results41, go_sem, z0, z1, z2, y0, y1, y2]) rfl ⟨ZDv, ZDv, rfl, hQ, Is.zero, Is.zero, Ints.nil_ .., Ints.nil_ ..⟩
        · rcases kA with rfl | rfl
          · skip
            have hmax : ∀ W : World, (Builtin.max_ #[3, 3] 3 #[.int .i64 10, .int .i64 0]).run Tryd.prog W = .ok (.int .i64 10) W := fun W => run_max2 W _ _ _ _ _ (by decide)
            obtain ⟨rfl, rfl, rfl⟩ := kbad.out (by decide)
            clear hX6 hX8 I5 I7
            obtain ⟨⟨z0, z1, z2⟩, z3, z4, z5⟩ := boxD hRC
            obtain ⟨⟨y0, y1, y2⟩, y3, y4, y5⟩ := boxD hRA
            go_wp2
            try clear hw8
            obtain ⟨U1, hu1, hX1, hb1, hf1, hs1, hs1'⟩ := zput hRC (.bool false) (.slice none 0 0) (.int .i64 0)
            try rw [hu1]
            obtain ⟨U2, hu2, hX2, hb2, hf2, hs2, hs2'⟩ := zput (show U1.heap[w.heap.size + 1]? = some (.cells #[.bool false, .slice none 0 0, .int .i64 0] 24 (0, 0)) from (hf1 _ (by omega)).trans hRA) (.bool false) (.slice none 0 0) (.int .i64 0)
            try rw [hu2]
            replace hX1 := (hf2 w.heap.size (by omega)).trans hX1
            have hQ := hb2 _ _ (hb1 _ _ hb (Nat.le_refl _)) (by omega)
            clear hu1 hu2 z0 z1 z2 z3 z4 z5 y0 y1 y2 y3 y4 y5
            obtain ⟨⟨z0, z1, z2⟩, _⟩ := boxD hX1
            obtain ⟨⟨y0, y1, y2⟩, _⟩ := boxD hX2
            exact bodyPost_ret (v := .tuple #[.agg #[.bool false, .slice none 0 0, .int .i64 0], .agg #[.bool false, .slice none 0 0, .int .i64 0], .int .i64 10]) (by simp [results, Tryd.results41, go_sem, z0, z1, z2, y0, y1, y2]) rfl ⟨ZDv, ZDv, rfl, hQ, Is.zero, Is.zero, Ints.nil_ .., Ints.nil_ ..⟩
          · skip
            have hmax : ∀ W : World, (Builtin.max_ #[3, 3] 3 #[.int .i64 10, .int .i64 10]).run Tryd.prog W = .ok (.int .i64 10) W := fun W => run_max2 W _ _ _ _ _ (by decide)
            obtain ⟨rfl, rfl, rfl⟩ := kbad.out (by decide)
            clear hX6 hX8 I5 I7
            obtain ⟨⟨z0, z1, z2⟩, z3, z4, z5⟩ := boxD hRC
            obtain ⟨⟨y0, y1, y2⟩, y3, y4, y5⟩ := boxD hRA
            go_wp2
            try clear hw8
            obtain ⟨U1, hu1, hX1, hb1, hf1, hs1, hs1'⟩ := zput hRC (.bool false) (.slice none 0 0) (.int .i64 0)
            try rw [hu1]
            obtain ⟨U2, hu2, hX2, hb2, hf2, hs2, hs2'⟩ := zput (show U1.heap[w.heap.size + 1]? = some (.cells #[.bool false, .slice none 0 0, .int .i64 0] 24 (0, 0)) from (hf1 _ (by omega)).trans hRA) (.bool false) (.slice none 0 0) (.int .i64 0)
            try rw [hu2]
            replace hX1 := (hf2 w.heap.size (by omega)).trans hX1
            have hQ := hb2 _ _ (hb1 _ _ hb (Nat.le_refl _)) (by omega)
            clear hu1 hu2 z0 z1 z2 z3 z4 z5 y0 y1 y2 y3 y4 y5
            obtain ⟨⟨z0, z1, z2⟩, _⟩ := boxD hX1
            obtain ⟨⟨y0, y1, y2⟩, _⟩ := boxD hX2
            exact bodyPost_ret (v := .tuple #[.agg #[.bool false, .slice none 0 0, .int .i64 0], .agg #[.bool false, .slice none 0 0, .int .i64 0], .int .i64 10]) (by simp [results, Tryd.results41, go_sem, z0, z1, z2, y0, y1, y2]) rfl ⟨ZDv, ZDv, rfl, hQ, Is.zero, Is.zero, Ints.nil_ .., Ints.nil_ ..⟩
end Ma
end Go.Proofs.YtlbkepiflhchdaaDoor
namespace Go.Proofs.YtlbkepiflhchdaaDoor
open Go.RowKit
namespace Ma
open Dp Dy
/-- Each row lies in one of two ranges. -/
def TwoR (w : World) (lo hi lo' hi' : Nat) (m : Mv) : Prop := ∀ x, x < 4 → Ints w lo hi .u32 (m.get x).A (m.get x).n (m.get x).xs ∨ Ints w lo' hi' .u32 (m.get x).A (m.get x).n (m.get x).xs
theorem TwoR.below {w w' : World} {lo hi lo' hi' B : Nat} {m : Mv} (h : TwoR w lo hi lo' hi' m) (hb : Below B w w') (h1 : hi ≤ B) (h2 : hi' ≤ B) : TwoR w' lo hi lo' hi' m := fun x hx => (h x hx).imp (fun k => k.below hb h1) (fun k => k.below hb h2)
theorem TwoR.rows {w : World} {lo hi lo' hi' : Nat} {m : Mv} (h : TwoR w lo hi lo' hi' m) (h1 : hi ≤ w.heap.size) (h2 : hi' ≤ w.heap.size) : MRows w 0 w.heap.size m :=
  have k : ∀ x, x < 4 → Ints w 0 w.heap.size .u32 (m.get x).A (m.get x).n (m.get x).xs := fun x hx => (h x hx).elim (fun k => k.more (Nat.zero_le _) h1) (fun k => k.more (Nat.zero_le _) h2)
  ⟨k 0 (by decide), k 1 (by decide), k 2 (by decide), k 3 (by decide)⟩
end Ma
end Go.Proofs.YtlbkepiflhchdaaDoor
namespace Go.Proofs.YtlbkepiflhchdaaDoor
open Go.RowKit
namespace Ma
open Dp Dy
def WrM (w : World) (lo hi : Nat) (m : Mv) : Prop := ∀ x, x < 4 → 0 < (m.get x).n → ∃ b off, (m.get x).A = some ⟨b, off, none⟩ ∧ lo ≤ b ∧ b < hi ∧ WrD w b off (m.get x).n
theorem WrM.of {w w' : World} {lo hi : Nat} {m : Mv} (h : MRows w lo hi m) (hk : ∀ b, b < hi → w'.heap[b]? = w.heap[b]?) : WrM w' lo hi m := fun x hx h0 => by
  obtain ⟨b, off, e, h1, h2, hc⟩ := (h.get x).row h0
  refine ⟨b, off, e, h1, h2, fun j hj => ?_⟩
  have h3 := hk b h2
  obtain ⟨h4, h5⟩ := hc j hj
  exact ⟨⟨_, by rw [World.cell?_of_block h3]; exact h4⟩, by rw [World.frozen?_of_block h3]; exact h5⟩
theorem WrM.set_ {w : World} {lo hi : Nat} {m : Mv} (h : WrM w lo hi m) (p : Addr) (v : Value) : WrM (w.setCell p v) lo hi m := fun x hx h0 => by
  obtain ⟨b, off, e, h1, h2, hW⟩ := h x hx h0
  exact ⟨b, off, e, h1, h2, hW.set_ _ _⟩
def LBox (w : World) (g : Nat) (m : Mv) : Prop := w.heap[g]? = some (.cells #[.slice m.S.A m.S.n m.S.c, .slice m.W.A m.W.n m.W.c, .slice m.C.A m.C.n m.C.c, .slice m.A.A m.A.n m.A.c] 22 (0, 0))
theorem LBox.at_ {w : World} {g : Nat} {m : Mv} (h : LBox w g m) {i : Nat} (hi : i < 4) : w.cell? ⟨g, i, none⟩ = some (.slice (m.get i).A (m.get i).n (m.get i).c) := by
  unfold LBox at h
  have hi' : i = 0 ∨ i = 1 ∨ i = 2 ∨ i = 3 := by omega
  rcases hi' with rfl | rfl | rfl | rfl
  · exact cell_of_row w g 0 _ _ _ h
  · exact cell_of_row w g 1 _ _ _ h
  · exact cell_of_row w g 2 _ _ _ h
  · exact cell_of_row w g 3 _ _ _ h
end Ma
end Go.Proofs.YtlbkepiflhchdaaDoor
