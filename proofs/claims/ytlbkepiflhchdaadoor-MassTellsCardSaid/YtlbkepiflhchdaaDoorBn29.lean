/- headcountref06.Minus, Sub: walks (printed by a program of mine). -/
import Derived.Test.YtlbkepiflhchdaaDoorBn28
namespace Go.Proofs.YtlbkepiflhchdaaDoor
open Go.RowKit
namespace Ma
open Dp Dy
/-- The sign turned. -/
def negV (d : Dv) : Dv := { d with s := if d.n = 0 then d.s else !d.s }
def negM (m : Mv) : Mv := ⟨negV m.S, negV m.W, negV m.C, negV m.A⟩
theorem negM_get (m : Mv) (j : Nat) : (negM m).get j = negV (m.get j) := by
  unfold Mv.get
  split <;> rfl
theorem negV_may {d : Dv} (hl : d.xs.length = d.n) (hm : d.may) : (negV d).may := by
  refine ⟨hm.1, hm.2.1, hm.2.2.1, fun h => ?_, hm.2.2.2.2⟩
  have h0 : d.n = 0 := by rw [← hl, show d.xs = [] from h]; rfl
  refine ⟨(hm.2.2.2.1 h).1, ?_⟩
  show (if d.n = 0 then d.s else !d.s) = false
  rw [if_pos h0]
  exact (hm.2.2.2.1 h).2
theorem negV_back {d : Dv} (hl : d.xs.length = d.n) (hm : (negV d).may) : d.may := by
  refine ⟨hm.1, hm.2.1, hm.2.2.1, fun h => ?_, hm.2.2.2.2⟩
  have h0 : d.n = 0 := by rw [← hl, show d.xs = [] from h]; rfl
  refine ⟨(hm.2.2.2.1 h).1, ?_⟩
  have h1 : (if d.n = 0 then d.s else !d.s) = false := (hm.2.2.2.1 h).2
  rw [if_pos h0] at h1
  exact h1
theorem negV_dn {d : Dv} (hd : Dig 4294967296 d.xs) (hl : d.xs.length = d.n) (hm : d.may) : dn (negV d).s (negV d).xs (negV d).e = negD (dn d.s d.xs d.e) := by
  unfold dn negD
  show (⟨if d.n = 0 then d.s else !d.s, num 4294967296 d.xs, d.e.toNat⟩ : Dn) = ⟨!d.s && decide (num 4294967296 d.xs ≠ 0), num 4294967296 d.xs, d.e.toNat⟩
  by_cases h0 : d.n = 0
  · have hx : d.xs = [] := List.eq_nil_of_length_eq_zero (by rw [hl, h0])
    have hs : d.s = false := (hm.2.2.2.1 hx).2
    rw [if_pos h0, hs, hx]
    simp [num]
  · have hx : d.xs ≠ [] := fun h => h0 (by rw [← hl, h]; rfl)
    have hp := num_pos hd hm.1.2 hx
    rw [if_neg h0]
    have : num 4294967296 d.xs ≠ 0 := by omega
    simp [this]
theorem neg_add {w : World} {lo hi : Nat} {a b : Mv} (hB : MRows w lo hi b) (j : Nat) (_hj : j < 4) : xAdd a (negM b) j = xSub a b j := by
  have hb := hB.get j
  unfold xAdd xSub addX subX
  rw [negM_get]
  by_cases hm : MayD (a.get j).s (a.get j).xs (a.get j).e ∧ (b.get j).may
  · rw [if_pos ⟨hm.1, negV_may hb.len hm.2⟩, if_pos (show MayD _ _ _ ∧ MayD _ _ _ from hm), negV_dn (dig_ints hb) hb.len hm.2]
    rfl
  · rw [if_neg fun k => hm ⟨k.1, negV_back hb.len k.2⟩, if_neg (show ¬ (MayD (a.get j).s (a.get j).xs (a.get j).e ∧ MayD (b.get j).s (b.get j).xs (b.get j).e) from fun k => hm k)]
theorem negM_may {w : World} {lo hi : Nat} {b : Mv} (hB : MRows w lo hi b) (h : b.may) : (negM b).may := fun x hx => by
  rw [negM_get]
  exact negV_may (hB.get x).len (h x hx)
theorem subM_add {w : World} {lo hi : Nat} {a b : Mv} (hB : MRows w lo hi b) (ma : a.may) (mb : b.may) {R : Nat → Dn} {code : Int} (h : subM a b = (R, code)) : ∃ S, addM a (negM b) = (S, code) ∧ ∀ x, x < 4 → R x = S x := by
  have key : ∀ j, j < 4 → xAdd a (negM b) j = xSub a b j := fun j hj => neg_add hB j hj
  unfold subM at h
  rw [if_pos ⟨ma, mb⟩] at h
  unfold addM
  rw [if_pos ⟨ma, negM_may hB mb⟩]
  by_cases hc : ∀ j, j < 4 → (xSub a b j).2 = 0
  · rw [if_pos hc] at h
    rw [if_pos fun j hj => by rw [key j hj]; exact hc j hj]
    injection h with h1 h2
    subst h1 h2
    exact ⟨_, rfl, fun x hx => by rw [key x hx]⟩
  · rw [if_neg hc] at h
    rw [if_neg fun k => hc fun j hj => by rw [← key j hj]; exact k j hj]
    injection h with h1 h2
    subst h1 h2
    exact ⟨_, rfl, fun _ _ => rfl⟩
set_option maxHeartbeats 6400000 in
set_option maxRecDepth 100000 in
theorem RMinusM_any (w : World) (m : Mv) :
    Calls Tryd.prog 85 #[.agg #[.bool m.S.s, .slice m.S.A m.S.n m.S.c, .int .i64 m.S.e, .bool m.W.s, .slice m.W.A m.W.n m.W.c, .int .i64 m.W.e, .bool m.C.s, .slice m.C.A m.C.n m.C.c, .int .i64 m.C.e, .bool m.A.s, .slice m.A.A m.A.n m.A.c, .int .i64 m.A.e]] w fun e w' => e = .returned (.agg #[.bool (negV m.S).s, .slice m.S.A m.S.n m.S.c, .int .i64 m.S.e, .bool (negV m.W).s, .slice m.W.A m.W.n m.W.c, .int .i64 m.W.e, .bool (negV m.C).s, .slice m.C.A m.C.n m.C.c, .int .i64 m.C.e, .bool (negV m.A).s, .slice m.A.A m.A.n m.A.c, .int .i64 m.A.e]) ∧ Below w.heap.size w w' := by
  generalize hw1 : (w.alloc (.cells #[.bool m.S.s, .slice m.S.A m.S.n m.S.c, .int .i64 m.S.e, .bool m.W.s, .slice m.W.A m.W.n m.W.c, .int .i64 m.W.e, .bool m.C.s, .slice m.C.A m.C.n m.C.c, .int .i64 m.C.e, .bool m.A.s, .slice m.A.A m.A.n m.A.c, .int .i64 m.A.e] 39)).alloc (.cells #[.bool false, .slice none 0 0, .int .i64 0, .bool false, .slice none 0 0, .int .i64 0, .bool false, .slice none 0 0, .int .i64 0, .bool false, .slice none 0 0, .int .i64 0] 39) = w1
  obtain ⟨hM, hZ, hBL, lo1, hi1⟩ := boxes2 w _ _ hw1
  replace hM : MBox w1 w.heap.size m := hM
  replace hZ : MBox w1 (w.heap.size + 1) ZM := hZ
  replace hBL : Below w.heap.size w w1 := hBL
  obtain ⟨t0, ht0⟩ : ∃ t, (if m.S.n = 0 then m.S.s else !m.S.s) = t := ⟨_, rfl⟩
  obtain ⟨t1, ht1⟩ : ∃ t, (if m.W.n = 0 then m.W.s else !m.W.s) = t := ⟨_, rfl⟩
  obtain ⟨t2, ht2⟩ : ∃ t, (if m.C.n = 0 then m.C.s else !m.C.s) = t := ⟨_, rfl⟩
  obtain ⟨t3, ht3⟩ : ∃ t, (if m.A.n = 0 then m.A.s else !m.A.s) = t := ⟨_, rfl⟩
  have e0 : (negV m.S).s = t0 := ht0
  have e1 : (negV m.W).s = t1 := ht1
  have e2 : (negV m.C).s = t2 := ht2
  have e3 : (negV m.A).s = t3 := ht3
  rw [e0, e1, e2, e3]
  have HT0 := Lib.hid ht0
  have HT1 := Lib.hid ht1
  have HT2 := Lib.hid ht2
  have HT3 := Lib.hid ht3
  clear ht0 ht1 ht2 ht3 e0 e1 e2 e3
  go_enter Tryd.func85, Tryd.ntmps85
  go_wp2_with fail
  try clear hw1
  refine region_E (Keeps w1) [13] (m := 14) (L := #[false, false, false, false, false, false, false, false, false, false, false, false, false, false]) (by kernel_rfl) (by rfl) (by rfl) ?_
  have kp_ : Keeps w1 w1.drew := fun _ _ => rfl
  have hB : Below w1.heap.size w1 w1.drew := (Below.refl _ _).drew
  replace hBL := hBL.trans (hB.mono (by omega))
  have lw_1 : w1.heap.size ≤ w1.drew.heap.size := hB.size
  clear hB
  generalize w1.drew = w_1 at *
  refine pureE (i := 0) (L := #[true, false, false, false, false, false, false, false, false, false, false, false, false, false]) (v := ?_) rfl (by rfl) (by kernel_rfl) (by kernel_rfl) (by kernel_rfl) (fun _ _ _ h => h) (by rfl) ?hy1 ?rest1
  case hy1 => intro w; go_simp; (try with_reducible rfl)
  try simp only [Act.put, List.setIfInBounds_toArray, List.set_cons_zero, List.set_cons_succ]
  refine pureE (i := 3) (L := #[true, false, false, true, false, false, false, false, false, false, false, false, false, false]) (v := ?_) rfl (by rfl) (by kernel_rfl) (by kernel_rfl) (by kernel_rfl) (fun _ _ _ h => h) (by rfl) ?hy2 ?rest2
  case hy2 => intro w; go_simp; (try with_reducible rfl)
  try simp only [Act.put, List.setIfInBounds_toArray, List.set_cons_zero, List.set_cons_succ]
  refine pureE (i := 6) (L := #[true, false, false, true, false, false, true, false, false, false, false, false, false, false]) (v := ?_) rfl (by rfl) (by kernel_rfl) (by kernel_rfl) (by kernel_rfl) (fun _ _ _ h => h) (by rfl) ?hy3 ?rest3
  case hy3 => intro w; go_simp; (try with_reducible rfl)
  try simp only [Act.put, List.setIfInBounds_toArray, List.set_cons_zero, List.set_cons_succ]
  refine pureE (i := 9) (L := #[true, false, false, true, false, false, true, false, false, true, false, false, false, false]) (v := ?_) rfl (by rfl) (by kernel_rfl) (by kernel_rfl) (by kernel_rfl) (fun _ _ _ h => h) (by rfl) ?hy4 ?rest4
  case hy4 => intro w; go_simp; (try with_reducible rfl)
  try simp only [Act.put, List.setIfInBounds_toArray, List.set_cons_zero, List.set_cons_succ]
  refine readE (i := 1) (L := #[true, true, false, true, false, false, true, false, false, true, false, false, false, false]) (v := .agg #[.bool m.S.s, .slice m.S.A m.S.n m.S.c, .int .i64 m.S.e]) rfl (by rfl) (by kernel_rfl) (by kernel_rfl) (by kernel_rfl) (fun _ _ _ h => h) (by assumption) (by rfl) ?yr_2 ?zr_2
  case yr_2 =>
    intro w' h1
    obtain ⟨⟨k0, k1, k2, k3, k4, k5, k6, k7, k8, k9, k10, k11⟩, kf⟩ := MBox.cells ((h1 _ (by omega)).trans hM)
    go_simp
  try simp only [Act.put, List.setIfInBounds_toArray, List.set_cons_zero, List.set_cons_succ]
  refine readE (i := 4) (L := #[true, true, false, true, true, false, true, false, false, true, false, false, false, false]) (v := .agg #[.bool m.W.s, .slice m.W.A m.W.n m.W.c, .int .i64 m.W.e]) rfl (by rfl) (by kernel_rfl) (by kernel_rfl) (by kernel_rfl) (fun _ _ _ h => h) (by assumption) (by rfl) ?yr_3 ?zr_3
  case yr_3 =>
    intro w' h1
    obtain ⟨⟨k0, k1, k2, k3, k4, k5, k6, k7, k8, k9, k10, k11⟩, kf⟩ := MBox.cells ((h1 _ (by omega)).trans hM)
    go_simp
  try simp only [Act.put, List.setIfInBounds_toArray, List.set_cons_zero, List.set_cons_succ]
  refine readE (i := 7) (L := #[true, true, false, true, true, false, true, true, false, true, false, false, false, false]) (v := .agg #[.bool m.C.s, .slice m.C.A m.C.n m.C.c, .int .i64 m.C.e]) rfl (by rfl) (by kernel_rfl) (by kernel_rfl) (by kernel_rfl) (fun _ _ _ h => h) (by assumption) (by rfl) ?yr_4 ?zr_4
  case yr_4 =>
    intro w' h1
    obtain ⟨⟨k0, k1, k2, k3, k4, k5, k6, k7, k8, k9, k10, k11⟩, kf⟩ := MBox.cells ((h1 _ (by omega)).trans hM)
    go_simp
  try simp only [Act.put, List.setIfInBounds_toArray, List.set_cons_zero, List.set_cons_succ]
  refine readE (i := 10) (L := #[true, true, false, true, true, false, true, true, false, true, true, false, false, false]) (v := .agg #[.bool m.A.s, .slice m.A.A m.A.n m.A.c, .int .i64 m.A.e]) rfl (by rfl) (by kernel_rfl) (by kernel_rfl) (by kernel_rfl) (fun _ _ _ h => h) (by assumption) (by rfl) ?yr_5 ?zr_5
  case yr_5 =>
    intro w' h1
    obtain ⟨⟨k0, k1, k2, k3, k4, k5, k6, k7, k8, k9, k10, k11⟩, kf⟩ := MBox.cells ((h1 _ (by omega)).trans hM)
    go_simp
  try simp only [Act.put, List.setIfInBounds_toArray, List.set_cons_zero, List.set_cons_succ]
  refine stepK (i := 2) (L := #[true, true, true, true, true, false, true, true, false, true, true, false, false, false]) rfl (by rfl) (by kernel_rfl) (by rfl) (fun K hK => ?_)
  go_simp
  go_at_call 71
  refine (rMinus_any w_1 m.S.s m.S.A m.S.n m.S.c m.S.e t0 HT0.out).mono ?_
  rintro e' w_6 ⟨rfl, hB⟩
  replace kp_ := Keeps.on kp_ (by omega) hB
  have lw_6 : w_1.heap.size ≤ w_6.heap.size := hB.size
  replace hBL := hBL.trans (hB.mono (by omega))
  clear hB
  refine hK _ _ ⟨fun _ _ => kp_, ?_⟩
  clear hK K
  try simp only [Act.put, List.setIfInBounds_toArray, List.set_cons_zero, List.set_cons_succ]
  refine stepK (i := 5) (L := #[true, true, true, true, true, true, true, true, false, true, true, false, false, false]) rfl (by rfl) (by kernel_rfl) (by rfl) (fun K hK => ?_)
  go_simp
  go_at_call 71
  refine (rMinus_any w_6 m.W.s m.W.A m.W.n m.W.c m.W.e t1 HT1.out).mono ?_
  rintro e' w_7 ⟨rfl, hB⟩
  replace kp_ := Keeps.on kp_ (by omega) hB
  have lw_7 : w_6.heap.size ≤ w_7.heap.size := hB.size
  replace hBL := hBL.trans (hB.mono (by omega))
  clear hB
  refine hK _ _ ⟨fun _ _ => kp_, ?_⟩
  clear hK K
  try simp only [Act.put, List.setIfInBounds_toArray, List.set_cons_zero, List.set_cons_succ]
  refine stepK (i := 8) (L := #[true, true, true, true, true, true, true, true, true, true, true, false, false, false]) rfl (by rfl) (by kernel_rfl) (by rfl) (fun K hK => ?_)
  go_simp
  go_at_call 71
  refine (rMinus_any w_7 m.C.s m.C.A m.C.n m.C.c m.C.e t2 HT2.out).mono ?_
  rintro e' w_8 ⟨rfl, hB⟩
  replace kp_ := Keeps.on kp_ (by omega) hB
  have lw_8 : w_7.heap.size ≤ w_8.heap.size := hB.size
  replace hBL := hBL.trans (hB.mono (by omega))
  clear hB
  refine hK _ _ ⟨fun _ _ => kp_, ?_⟩
  clear hK K
  try simp only [Act.put, List.setIfInBounds_toArray, List.set_cons_zero, List.set_cons_succ]
  refine stepK (i := 11) (L := #[true, true, true, true, true, true, true, true, true, true, true, true, false, false]) rfl (by rfl) (by kernel_rfl) (by rfl) (fun K hK => ?_)
  go_simp
  go_at_call 71
  refine (rMinus_any w_8 m.A.s m.A.A m.A.n m.A.c m.A.e t3 HT3.out).mono ?_
  rintro e' w_9 ⟨rfl, hB⟩
  replace kp_ := Keeps.on kp_ (by omega) hB
  have lw_9 : w_8.heap.size ≤ w_9.heap.size := hB.size
  replace hBL := hBL.trans (hB.mono (by omega))
  clear hB
  refine hK _ _ ⟨fun _ _ => kp_, ?_⟩
  clear hK K
  try simp only [Act.put, List.setIfInBounds_toArray, List.set_cons_zero, List.set_cons_succ]
  refine pureE (i := 12) (L := #[true, true, true, true, true, true, true, true, true, true, true, true, true, false]) (v := ?_) rfl (by rfl) (by kernel_rfl) (by kernel_rfl) (by kernel_rfl) (fun _ _ _ h => h) (by rfl) ?hy13 ?rest13
  case hy13 => intro w; go_simp; (try with_reducible rfl)
  try simp only [Act.put, List.setIfInBounds_toArray, List.set_cons_zero, List.set_cons_succ]
  have hZ2 : MBox w_9 (w.heap.size + 1) ZM := (kp_ _ (by omega)).trans hZ
  obtain ⟨⟨z0, z1, z2, z3, z4, z5, z6, z7, z8, z9, z10, z11⟩, zf⟩ := MBox.cells hZ2
  refine stepK (i := 13) (L := #[true, true, true, true, true, true, true, true, true, true, true, true, true, true]) rfl (by rfl) (by kernel_rfl) (by rfl) (fun K hK => ?_)
  go_simp
  refine hK _ _ ⟨fun h => absurd h (by decide), ?_⟩
  clear hK K z0 z1 z2 z3 z4 z5 z6 z7 z8 z9 z10 z11 zf
  try simp only [Act.put, List.setIfInBounds_toArray, List.set_cons_zero, List.set_cons_succ]
  have hX : MBox ((((((((((((w_9.setCell ⟨w.heap.size + 1, 0, none⟩ (.bool t0)).setCell ⟨w.heap.size + 1, 1, none⟩ (.slice m.S.A m.S.n m.S.c)).setCell ⟨w.heap.size + 1, 2, none⟩ (.int .i64 m.S.e)).setCell ⟨w.heap.size + 1, 3, none⟩ (.bool t1)).setCell ⟨w.heap.size + 1, 4, none⟩ (.slice m.W.A m.W.n m.W.c)).setCell ⟨w.heap.size + 1, 5, none⟩ (.int .i64 m.W.e)).setCell ⟨w.heap.size + 1, 6, none⟩ (.bool t2)).setCell ⟨w.heap.size + 1, 7, none⟩ (.slice m.C.A m.C.n m.C.c)).setCell ⟨w.heap.size + 1, 8, none⟩ (.int .i64 m.C.e)).setCell ⟨w.heap.size + 1, 9, none⟩ (.bool t3)).setCell ⟨w.heap.size + 1, 10, none⟩ (.slice m.A.A m.A.n m.A.c)).setCell ⟨w.heap.size + 1, 11, none⟩ (.int .i64 m.A.e)) (w.heap.size + 1) ⟨⟨t0, m.S.A, m.S.n, m.S.c, m.S.e, m.S.xs⟩, ⟨t1, m.W.A, m.W.n, m.W.c, m.W.e, m.W.xs⟩, ⟨t2, m.C.A, m.C.n, m.C.c, m.C.e, m.C.xs⟩, ⟨t3, m.A.A, m.A.n, m.A.c, m.A.e, m.A.xs⟩⟩ := MBox.all hZ2 ⟨⟨t0, m.S.A, m.S.n, m.S.c, m.S.e, m.S.xs⟩, ⟨t1, m.W.A, m.W.n, m.W.c, m.W.e, m.W.xs⟩, ⟨t2, m.C.A, m.C.n, m.C.c, m.C.e, m.C.xs⟩, ⟨t3, m.A.A, m.A.n, m.A.c, m.A.e, m.A.xs⟩⟩
  have hY : Below w.heap.size w ((((((((((((w_9.setCell ⟨w.heap.size + 1, 0, none⟩ (.bool t0)).setCell ⟨w.heap.size + 1, 1, none⟩ (.slice m.S.A m.S.n m.S.c)).setCell ⟨w.heap.size + 1, 2, none⟩ (.int .i64 m.S.e)).setCell ⟨w.heap.size + 1, 3, none⟩ (.bool t1)).setCell ⟨w.heap.size + 1, 4, none⟩ (.slice m.W.A m.W.n m.W.c)).setCell ⟨w.heap.size + 1, 5, none⟩ (.int .i64 m.W.e)).setCell ⟨w.heap.size + 1, 6, none⟩ (.bool t2)).setCell ⟨w.heap.size + 1, 7, none⟩ (.slice m.C.A m.C.n m.C.c)).setCell ⟨w.heap.size + 1, 8, none⟩ (.int .i64 m.C.e)).setCell ⟨w.heap.size + 1, 9, none⟩ (.bool t3)).setCell ⟨w.heap.size + 1, 10, none⟩ (.slice m.A.A m.A.n m.A.c)).setCell ⟨w.heap.size + 1, 11, none⟩ (.int .i64 m.A.e)) := below_all hBL (by omega) ⟨⟨t0, m.S.A, m.S.n, m.S.c, m.S.e, m.S.xs⟩, ⟨t1, m.W.A, m.W.n, m.W.c, m.W.e, m.W.xs⟩, ⟨t2, m.C.A, m.C.n, m.C.c, m.C.e, m.C.xs⟩, ⟨t3, m.A.A, m.A.n, m.A.c, m.A.e, m.A.xs⟩⟩
  generalize ((((((((((((w_9.setCell ⟨w.heap.size + 1, 0, none⟩ (.bool t0)).setCell ⟨w.heap.size + 1, 1, none⟩ (.slice m.S.A m.S.n m.S.c)).setCell ⟨w.heap.size + 1, 2, none⟩ (.int .i64 m.S.e)).setCell ⟨w.heap.size + 1, 3, none⟩ (.bool t1)).setCell ⟨w.heap.size + 1, 4, none⟩ (.slice m.W.A m.W.n m.W.c)).setCell ⟨w.heap.size + 1, 5, none⟩ (.int .i64 m.W.e)).setCell ⟨w.heap.size + 1, 6, none⟩ (.bool t2)).setCell ⟨w.heap.size + 1, 7, none⟩ (.slice m.C.A m.C.n m.C.c)).setCell ⟨w.heap.size + 1, 8, none⟩ (.int .i64 m.C.e)).setCell ⟨w.heap.size + 1, 9, none⟩ (.bool t3)).setCell ⟨w.heap.size + 1, 10, none⟩ (.slice m.A.A m.A.n m.A.c)).setCell ⟨w.heap.size + 1, 11, none⟩ (.int .i64 m.A.e)) = U at *
  obtain ⟨M, hMe⟩ : ∃ M : Mv, M = ⟨⟨t0, m.S.A, m.S.n, m.S.c, m.S.e, m.S.xs⟩, ⟨t1, m.W.A, m.W.n, m.W.c, m.W.e, m.W.xs⟩, ⟨t2, m.C.A, m.C.n, m.C.c, m.C.e, m.C.xs⟩, ⟨t3, m.A.A, m.A.n, m.A.c, m.A.e, m.A.xs⟩⟩ := ⟨_, rfl⟩
  rw [← hMe] at hX
  refine doneE (by kernel_rfl) ?_ _
  go_wp2
  obtain ⟨⟨k0, k1, k2, k3, k4, k5, k6, k7, k8, k9, k10, k11⟩, kf⟩ := MBox.cells hX
  exact bodyPost_ret (v := .agg #[.bool M.S.s, .slice M.S.A M.S.n M.S.c, .int .i64 M.S.e, .bool M.W.s, .slice M.W.A M.W.n M.W.c, .int .i64 M.W.e, .bool M.C.s, .slice M.C.A M.C.n M.C.c, .int .i64 M.C.e, .bool M.A.s, .slice M.A.A M.A.n M.A.c, .int .i64 M.A.e]) (by simp [results, Tryd.results85, go_sem, k0, k1, k2, k3, k4, k5, k6, k7, k8, k9, k10, k11]) rfl ⟨by rw [hMe], hY⟩
set_option maxHeartbeats 12800000 in
set_option maxRecDepth 100000 in
theorem RSub_num (w : World) (a b : Mv) (hA : MRows w 0 w.heap.size a) (hB : MRows w 0 w.heap.size b) (R : Nat → Dn) (code : Int) (hR : subM a b = (R, code)) :
    Calls Tryd.prog 54 #[.agg #[.bool a.S.s, .slice a.S.A a.S.n a.S.c, .int .i64 a.S.e, .bool a.W.s, .slice a.W.A a.W.n a.W.c, .int .i64 a.W.e, .bool a.C.s, .slice a.C.A a.C.n a.C.c, .int .i64 a.C.e, .bool a.A.s, .slice a.A.A a.A.n a.A.c, .int .i64 a.A.e], .agg #[.bool b.S.s, .slice b.S.A b.S.n b.S.c, .int .i64 b.S.e, .bool b.W.s, .slice b.W.A b.W.n b.W.c, .int .i64 b.W.e, .bool b.C.s, .slice b.C.A b.C.n b.C.c, .int .i64 b.C.e, .bool b.A.s, .slice b.A.A b.A.n b.A.c, .int .i64 b.A.e]] w fun e w' => ∃ m' : Mv, e = .returned (.tuple #[.agg #[.bool m'.S.s, .slice m'.S.A m'.S.n m'.S.c, .int .i64 m'.S.e, .bool m'.W.s, .slice m'.W.A m'.W.n m'.W.c, .int .i64 m'.W.e, .bool m'.C.s, .slice m'.C.A m'.C.n m'.C.c, .int .i64 m'.C.e, .bool m'.A.s, .slice m'.A.A m'.A.n m'.A.c, .int .i64 m'.A.e], .int .i64 code]) ∧ Below w.heap.size w w' ∧ IsM R m' ∧ MRows w' w.heap.size w'.heap.size m' := by
  generalize hw1 : ((w.alloc (.cells #[.bool a.S.s, .slice a.S.A a.S.n a.S.c, .int .i64 a.S.e, .bool a.W.s, .slice a.W.A a.W.n a.W.c, .int .i64 a.W.e, .bool a.C.s, .slice a.C.A a.C.n a.C.c, .int .i64 a.C.e, .bool a.A.s, .slice a.A.A a.A.n a.A.c, .int .i64 a.A.e] 39)).alloc (.cells #[.bool b.S.s, .slice b.S.A b.S.n b.S.c, .int .i64 b.S.e, .bool b.W.s, .slice b.W.A b.W.n b.W.c, .int .i64 b.W.e, .bool b.C.s, .slice b.C.A b.C.n b.C.c, .int .i64 b.C.e, .bool b.A.s, .slice b.A.A b.A.n b.A.c, .int .i64 b.A.e] 39)).alloc (.cells #[.bool false, .slice none 0 0, .int .i64 0, .bool false, .slice none 0 0, .int .i64 0, .bool false, .slice none 0 0, .int .i64 0, .bool false, .slice none 0 0, .int .i64 0] 39) = w1
  obtain ⟨hMa, hMb, hZ, hBL, lo1, hi1⟩ := boxes3 w _ _ _ hw1
  replace hMa : MBox w1 w.heap.size a := hMa
  replace hMb : MBox w1 (w.heap.size + 1) b := hMb
  replace hZ : MBox w1 (w.heap.size + 1 + 1) ZM := hZ
  replace hBL : Below w.heap.size w w1 := hBL
  have Ra : MRows w1 0 w1.heap.size a := hA.on hBL
  have Rb : MRows w1 0 w1.heap.size b := hB.on hBL
  have HR := Lib.hid hR
  clear hR
  obtain ⟨ga, hga⟩ : ∃ g, mayMB a = g := ⟨_, rfl⟩
  obtain ⟨gb, hgb⟩ : ∃ g, mayMB b = g := ⟨_, rfl⟩
  have HGA := Lib.hid hga
  have HGB := Lib.hid hgb
  clear hga hgb
  go_enter Tryd.func54, Tryd.ntmps54
  obtain ⟨⟨q_10_0, q_10_1, q_10_2, q_10_3, q_10_4, q_10_5, q_10_6, q_10_7, q_10_8, q_10_9, q_10_10, q_10_11⟩, q_10f⟩ := MBox.cells hMa
  go_wp2_with fail
  refine (RMay_any w1 a Ra ga HGA.out).mono ?_
  rintro e' w_11 ⟨rfl, hB⟩
  clear q_10_0 q_10_1 q_10_2 q_10_3 q_10_4 q_10_5 q_10_6 q_10_7 q_10_8 q_10_9 q_10_10 q_10_11 q_10f
  have lw_11 : w1.heap.size ≤ w_11.heap.size := hB.size
  replace hMa := box_on hMa hB (by omega)
  replace hMb := box_on hMb hB (by omega)
  replace hZ := box_on hZ hB (by omega)
  replace Ra := MRows.on Ra hB
  replace Rb := MRows.on Rb hB
  replace hBL := hBL.trans (hB.mono (by omega))
  try clear hw1
  clear hB
  cases ga
  · skip
    have hcode : (zR, (8 : Int)) = (R, code) := by
      rw [← HR.out]
      unfold subM
      rw [if_neg fun k => ?_]
      have := (mayMB_iff a).2 k.1
      rw [HGA.out] at this
      cases this
    injection hcode with h1 h2
    subst h1 h2
    obtain ⟨⟨q_12_0, q_12_1, q_12_2, q_12_3, q_12_4, q_12_5, q_12_6, q_12_7, q_12_8, q_12_9, q_12_10, q_12_11⟩, q_12f⟩ := MBox.cells hZ
    go_wp2
    obtain ⟨U, M, hc_, hMe, hX, hb_, _, _, _⟩ := zero_to hZ
    rw [hc_]
    have hY := hb_ _ _ hBL (by omega)
    clear q_12_0 q_12_1 q_12_2 q_12_3 q_12_4 q_12_5 q_12_6 q_12_7 q_12_8 q_12_9 q_12_10 q_12_11 q_12f
    clear hc_
    obtain ⟨⟨k0, k1, k2, k3, k4, k5, k6, k7, k8, k9, k10, k11⟩, kf⟩ := MBox.cells hX
    refine bodyPost_ret (v := .tuple #[.agg #[.bool M.S.s, .slice M.S.A M.S.n M.S.c, .int .i64 M.S.e, .bool M.W.s, .slice M.W.A M.W.n M.W.c, .int .i64 M.W.e, .bool M.C.s, .slice M.C.A M.C.n M.C.c, .int .i64 M.C.e, .bool M.A.s, .slice M.A.A M.A.n M.A.c, .int .i64 M.A.e], .int .i64 8]) (by simp [results, Tryd.results54, go_sem, k0, k1, k2, k3, k4, k5, k6, k7, k8, k9, k10, k11]) rfl ⟨M, rfl, hY, ?_, ?_⟩
    · rw [hMe]
      exact IsM.zero
    · rw [hMe]
      exact ZM_rows ..
  · skip
    obtain ⟨⟨q_13_0, q_13_1, q_13_2, q_13_3, q_13_4, q_13_5, q_13_6, q_13_7, q_13_8, q_13_9, q_13_10, q_13_11⟩, q_13f⟩ := MBox.cells hMb
    go_wp2_with fail
    refine (RMay_any w_11 b Rb gb HGB.out).mono ?_
    rintro e' w_14 ⟨rfl, hB⟩
    clear q_13_0 q_13_1 q_13_2 q_13_3 q_13_4 q_13_5 q_13_6 q_13_7 q_13_8 q_13_9 q_13_10 q_13_11 q_13f
    have lw_14 : w_11.heap.size ≤ w_14.heap.size := hB.size
    replace hMa := box_on hMa hB (by omega)
    replace hMb := box_on hMb hB (by omega)
    replace hZ := box_on hZ hB (by omega)
    replace Ra := MRows.on Ra hB
    replace Rb := MRows.on Rb hB
    replace hBL := hBL.trans (hB.mono (by omega))
    clear hB
    cases gb
    · skip
      have hcode : (zR, (8 : Int)) = (R, code) := by
        rw [← HR.out]
        unfold subM
        rw [if_neg fun k => ?_]
        have := (mayMB_iff b).2 k.2
        rw [HGB.out] at this
        cases this
      injection hcode with h1 h2
      subst h1 h2
      obtain ⟨⟨q_15_0, q_15_1, q_15_2, q_15_3, q_15_4, q_15_5, q_15_6, q_15_7, q_15_8, q_15_9, q_15_10, q_15_11⟩, q_15f⟩ := MBox.cells hZ
      go_wp2
      obtain ⟨U, M, hc_, hMe, hX, hb_, _, _, _⟩ := zero_to hZ
      rw [hc_]
      have hY := hb_ _ _ hBL (by omega)
      clear q_15_0 q_15_1 q_15_2 q_15_3 q_15_4 q_15_5 q_15_6 q_15_7 q_15_8 q_15_9 q_15_10 q_15_11 q_15f
      clear hc_
      obtain ⟨⟨k0, k1, k2, k3, k4, k5, k6, k7, k8, k9, k10, k11⟩, kf⟩ := MBox.cells hX
      refine bodyPost_ret (v := .tuple #[.agg #[.bool M.S.s, .slice M.S.A M.S.n M.S.c, .int .i64 M.S.e, .bool M.W.s, .slice M.W.A M.W.n M.W.c, .int .i64 M.W.e, .bool M.C.s, .slice M.C.A M.C.n M.C.c, .int .i64 M.C.e, .bool M.A.s, .slice M.A.A M.A.n M.A.c, .int .i64 M.A.e], .int .i64 8]) (by simp [results, Tryd.results54, go_sem, k0, k1, k2, k3, k4, k5, k6, k7, k8, k9, k10, k11]) rfl ⟨M, rfl, hY, ?_, ?_⟩
      · rw [hMe]
        exact IsM.zero
      · rw [hMe]
        exact ZM_rows ..
    · skip
      obtain ⟨S, hadd, hRS⟩ := subM_add (lo := 0) (hi := w.heap.size) hB ((mayMB_iff a).1 HGA.out) ((mayMB_iff b).1 HGB.out) HR.out
      have HADD := Lib.hid hadd
      replace hRS := Lib.hid hRS
      clear hadd
      go_wp2_with fail
      refine region_E (Keeps w_14) [] (m := 10) (L := #[false, false, false, false, false, false, false, false, false, false]) (by kernel_rfl) (by rfl) (by rfl) ?_
      have kp_ : Keeps w_14 w_14.drew := fun _ _ => rfl
      have hB : Below w_14.heap.size w_14 w_14.drew := (Below.refl _ _).drew
      replace Ra : MRows w_14.drew 0 w_14.drew.heap.size _ := MRows.on Ra hB
      replace Rb : MRows w_14.drew 0 w_14.drew.heap.size _ := MRows.on Rb hB
      replace hBL := hBL.trans (hB.mono (by omega))
      have lw_16 : w_14.heap.size ≤ w_14.drew.heap.size := hB.size
      clear hB
      generalize w_14.drew = w_16 at *
      refine readE (i := 0) (L := #[true, false, false, false, false, false, false, false, false, false]) (v := .agg #[.bool a.S.s, .slice a.S.A a.S.n a.S.c, .int .i64 a.S.e, .bool a.W.s, .slice a.W.A a.W.n a.W.c, .int .i64 a.W.e, .bool a.C.s, .slice a.C.A a.C.n a.C.c, .int .i64 a.C.e, .bool a.A.s, .slice a.A.A a.A.n a.A.c, .int .i64 a.A.e]) rfl (by rfl) (by kernel_rfl) (by kernel_rfl) (by kernel_rfl) (fun _ _ _ h => h) (by assumption) (by rfl) ?yr_17 ?zr_17
      case yr_17 =>
        intro w' h1
        obtain ⟨⟨k0, k1, k2, k3, k4, k5, k6, k7, k8, k9, k10, k11⟩, kf⟩ := MBox.cells ((h1 _ (by omega)).trans hMa)
        go_simp
      try simp only [Act.put, List.setIfInBounds_toArray, List.set_cons_zero, List.set_cons_succ]
      refine readE (i := 1) (L := #[true, true, false, false, false, false, false, false, false, false]) (v := .agg #[.bool b.S.s, .slice b.S.A b.S.n b.S.c, .int .i64 b.S.e, .bool b.W.s, .slice b.W.A b.W.n b.W.c, .int .i64 b.W.e, .bool b.C.s, .slice b.C.A b.C.n b.C.c, .int .i64 b.C.e, .bool b.A.s, .slice b.A.A b.A.n b.A.c, .int .i64 b.A.e]) rfl (by rfl) (by kernel_rfl) (by kernel_rfl) (by kernel_rfl) (fun _ _ _ h => h) (by assumption) (by rfl) ?yr_18 ?zr_18
      case yr_18 =>
        intro w' h1
        obtain ⟨⟨k0, k1, k2, k3, k4, k5, k6, k7, k8, k9, k10, k11⟩, kf⟩ := MBox.cells ((h1 _ (by omega)).trans hMb)
        go_simp
      try simp only [Act.put, List.setIfInBounds_toArray, List.set_cons_zero, List.set_cons_succ]
      refine stepK2 (i := 2) (j := 7) (Li := #[true, true, true, false, false, false, false, false, false, false]) (Lj := #[true, true, false, false, false, false, false, true, false, false]) rfl rfl (by rfl) (by rfl) (by kernel_rfl) (by rfl) (by rfl) (fun K hK => ?o_19) (fun K hK => ?o_20)
      case o_19 =>
        
        go_simp
        go_at_call 85
        refine (RMinusM_any w_16 b).mono ?_
        rintro e' w_21 ⟨rfl, hB⟩
        replace kp_ := Keeps.on kp_ (by omega) hB
        have lw_21 : w_16.heap.size ≤ w_21.heap.size := hB.size
        replace Ra := MRows.on Ra hB
        replace Rb := MRows.on Rb hB
        replace hBL := hBL.trans (hB.mono (by omega))
        clear hB
        refine hK _ _ ⟨fun _ _ => kp_, ?_⟩
        clear hK K
        try simp only [Act.put, List.setIfInBounds_toArray, List.set_cons_zero, List.set_cons_succ]
        refine stepK2 (i := 3) (j := 7) (Li := #[true, true, true, true, false, false, false, false, false, false]) (Lj := #[true, true, true, false, false, false, false, true, false, false]) rfl rfl (by rfl) (by rfl) (by kernel_rfl) (by rfl) (by rfl) (fun K hK => ?o_22) (fun K hK => ?o_23)
        case o_22 =>
          
          go_simp
          have Rn : MRows w_21 0 w_21.heap.size (negM b) := ⟨Rb.S, Rb.W, Rb.C, Rb.A⟩
          go_at_call 52
          refine (RAdd_num w_21 a (negM b) Ra Rn S code HADD.out).mono ?_
          rintro e' w_24 ⟨x, rfl, hB, hx, rx⟩
          clear Rn
          replace hx := Lib.hid hx
          replace kp_ := Keeps.on kp_ (by omega) hB
          have lw_24 : w_21.heap.size ≤ w_24.heap.size := hB.size
          replace Ra := MRows.on Ra hB
          replace Rb := MRows.on Rb hB
          replace hBL := hBL.trans (hB.mono (by omega))
          have X : MRows w_24 (w_21.heap.size) w_24.heap.size x := rx
          clear rx
          clear hB
          refine hK _ _ ⟨fun _ _ => kp_, ?_⟩
          clear hK K
          try simp only [Act.put, List.setIfInBounds_toArray, List.set_cons_zero, List.set_cons_succ]
          refine pureE (i := 4) (L := #[true, true, true, true, true, false, false, false, false, false]) (v := ?_) rfl (by rfl) (by kernel_rfl) (by kernel_rfl) (by kernel_rfl) (fun _ _ _ h => h) (by rfl) ?hy17 ?rest17
          case hy17 => intro w; go_simp; (try with_reducible rfl)
          try simp only [Act.put, List.setIfInBounds_toArray, List.set_cons_zero, List.set_cons_succ]
          refine pureE (i := 5) (L := #[true, true, true, true, true, true, false, false, false, false]) (v := ?_) rfl (by rfl) (by kernel_rfl) (by kernel_rfl) (by kernel_rfl) (fun _ _ _ h => h) (by rfl) ?hy18 ?rest18
          case hy18 => intro w; go_simp; (try with_reducible rfl)
          try simp only [Act.put, List.setIfInBounds_toArray, List.set_cons_zero, List.set_cons_succ]
          refine pureE (i := 6) (L := #[true, true, true, true, true, true, true, false, false, false]) (v := ?_) rfl (by rfl) (by kernel_rfl) (by kernel_rfl) (by kernel_rfl) (fun _ _ _ h => h) (by rfl) ?hy19 ?rest19
          case hy19 => intro w; go_simp; (try with_reducible rfl)
          try simp only [Act.put, List.setIfInBounds_toArray, List.set_cons_zero, List.set_cons_succ]
          refine stepK (i := 7) (L := #[true, true, true, true, true, true, true, true, false, false]) rfl (by rfl) (by kernel_rfl) (by rfl) (fun K hK => ?_)
          go_simp
          have hB := (Below.refl w_24.heap.size w_24).alloc (Nat.le_refl _) (.cells #[.bool false, .slice none 0 0, .int .i64 0, .bool false, .slice none 0 0, .int .i64 0, .bool false, .slice none 0 0, .int .i64 0, .bool false, .slice none 0 0, .int .i64 0] 39)
          have hV : MBox (w_24.alloc (.cells #[.bool false, .slice none 0 0, .int .i64 0, .bool false, .slice none 0 0, .int .i64 0, .bool false, .slice none 0 0, .int .i64 0, .bool false, .slice none 0 0, .int .i64 0] 39)) w_24.heap.size ZM := heap_alloc_last _ _
          have mw_25 : w_24.heap.size < (w_24.alloc (.cells #[.bool false, .slice none 0 0, .int .i64 0, .bool false, .slice none 0 0, .int .i64 0, .bool false, .slice none 0 0, .int .i64 0, .bool false, .slice none 0 0, .int .i64 0] 39)).heap.size := by simp
          generalize hww_25 : w_24.alloc (.cells #[.bool false, .slice none 0 0, .int .i64 0, .bool false, .slice none 0 0, .int .i64 0, .bool false, .slice none 0 0, .int .i64 0, .bool false, .slice none 0 0, .int .i64 0] 39) = w_25 at *
          replace kp_ := Keeps.on kp_ (by omega) hB
          have lw_25 : w_24.heap.size ≤ w_25.heap.size := hB.size
          replace Ra := MRows.on Ra hB
          replace Rb := MRows.on Rb hB
          replace hBL := hBL.trans (hB.mono (by omega))
          replace X := MRows.below X hB (by omega)
          clear hB
          refine hK _ _ ⟨fun _ _ => kp_, ?_⟩
          clear hK K
          try clear hww_25
          try simp only [Act.put, List.setIfInBounds_toArray, List.set_cons_zero, List.set_cons_succ]
          obtain ⟨⟨z0, z1, z2, z3, z4, z5, z6, z7, z8, z9, z10, z11⟩, zf⟩ := MBox.cells hV
          refine stepK (i := 8) (L := #[true, true, true, true, true, true, true, true, true, false]) rfl (by rfl) (by kernel_rfl) (by rfl) (fun K hK => ?_)
          go_simp
          obtain ⟨w_26, hc_, hx2, hb_, hf2, lw_26, l2w_26⟩ := all_to hV x
          rw [hc_]
          clear hc_ z0 z1 z2 z3 z4 z5 z6 z7 z8 z9 z10 z11 zf
          refine hK _ _ ⟨fun _ _ p hp => (hf2 p (by omega)).trans (kp_ p hp), ?_⟩
          clear hK K
          try simp only [Act.put, List.setIfInBounds_toArray, List.set_cons_zero, List.set_cons_succ]
          have hZ2 : MBox w_26 (w.heap.size + 1 + 1) ZM := (hf2 _ (by omega)).trans ((kp_ _ (by omega)).trans hZ)
          have hb2 := hb_ _ _ hBL (by omega)
          replace X := rows_rng X (w' := w_26) (fun b h1 h2 => hf2 b (by omega))
          refine pureE (i := 9) (L := #[true, true, true, true, true, true, true, true, true, true]) (v := ?_) rfl (by rfl) (by kernel_rfl) (by kernel_rfl) (by kernel_rfl) (fun _ _ _ h => h) (by rfl) ?hy22 ?rest22
          case hy22 => intro w; go_simp; (try with_reducible rfl)
          try simp only [Act.put, List.setIfInBounds_toArray, List.set_cons_zero, List.set_cons_succ]
          refine doneE (by kernel_rfl) ?_ _
          obtain ⟨⟨k0, k1, k2, k3, k4, k5, k6, k7, k8, k9, k10, k11⟩, kf⟩ := MBox.cells hx2
          obtain ⟨⟨z0, z1, z2, z3, z4, z5, z6, z7, z8, z9, z10, z11⟩, zf⟩ := MBox.cells hZ2
          have hgz : w.heap.size + 1 + 1 ≠ w_24.heap.size := by omega
          have hgz2 : w_24.heap.size ≠ w.heap.size + 1 + 1 := by omega
          go_wp2
          obtain ⟨UU, hc_, hX, hb3, hf3, l3, l4⟩ := all_to hZ2 x
          rw [hc_]
          clear hc_ k0 k1 k2 k3 k4 k5 k6 k7 k8 k9 k10 k11 kf z0 z1 z2 z3 z4 z5 z6 z7 z8 z9 z10 z11 zf
          have hY := hb3 _ _ hb2 (by omega)
          replace X := rows_rng X (w' := UU) (fun b h1 h2 => hf3 b (by omega))
          obtain ⟨⟨k0, k1, k2, k3, k4, k5, k6, k7, k8, k9, k10, k11⟩, kf⟩ := MBox.cells hX
          exact bodyPost_ret (v := .tuple #[.agg #[.bool x.S.s, .slice x.S.A x.S.n x.S.c, .int .i64 x.S.e, .bool x.W.s, .slice x.W.A x.W.n x.W.c, .int .i64 x.W.e, .bool x.C.s, .slice x.C.A x.C.n x.C.c, .int .i64 x.C.e, .bool x.A.s, .slice x.A.A x.A.n x.A.c, .int .i64 x.A.e], .int .i64 code]) (by simp [results, Tryd.results54, go_sem, k0, k1, k2, k3, k4, k5, k6, k7, k8, k9, k10, k11]) rfl ⟨x, rfl, hY, hx.out.of_eq fun j hj => hRS.out j hj, X.more (by omega) (by omega)⟩
        case o_23 =>
          
          go_simp
          have hB := (Below.refl w_21.heap.size w_21).alloc (Nat.le_refl _) (.cells #[.bool false, .slice none 0 0, .int .i64 0, .bool false, .slice none 0 0, .int .i64 0, .bool false, .slice none 0 0, .int .i64 0, .bool false, .slice none 0 0, .int .i64 0] 39)
          have hV : MBox (w_21.alloc (.cells #[.bool false, .slice none 0 0, .int .i64 0, .bool false, .slice none 0 0, .int .i64 0, .bool false, .slice none 0 0, .int .i64 0, .bool false, .slice none 0 0, .int .i64 0] 39)) w_21.heap.size ZM := heap_alloc_last _ _
          have mw_27 : w_21.heap.size < (w_21.alloc (.cells #[.bool false, .slice none 0 0, .int .i64 0, .bool false, .slice none 0 0, .int .i64 0, .bool false, .slice none 0 0, .int .i64 0, .bool false, .slice none 0 0, .int .i64 0] 39)).heap.size := by simp
          generalize hww_27 : w_21.alloc (.cells #[.bool false, .slice none 0 0, .int .i64 0, .bool false, .slice none 0 0, .int .i64 0, .bool false, .slice none 0 0, .int .i64 0, .bool false, .slice none 0 0, .int .i64 0] 39) = w_27 at *
          replace kp_ := Keeps.on kp_ (by omega) hB
          have lw_27 : w_21.heap.size ≤ w_27.heap.size := hB.size
          replace Ra := MRows.on Ra hB
          replace Rb := MRows.on Rb hB
          replace hBL := hBL.trans (hB.mono (by omega))
          clear hB
          refine hK _ _ ⟨fun _ _ => kp_, ?_⟩
          clear hK K
          try clear hww_27
          try simp only [Act.put, List.setIfInBounds_toArray, List.set_cons_zero, List.set_cons_succ]
          refine stepK (i := 3) (L := #[true, true, true, true, false, false, false, true, false, false]) rfl (by rfl) (by kernel_rfl) (by rfl) (fun K hK => ?_)
          go_simp
          have Rn : MRows w_27 0 w_27.heap.size (negM b) := ⟨Rb.S, Rb.W, Rb.C, Rb.A⟩
          go_at_call 52
          refine (RAdd_num w_27 a (negM b) Ra Rn S code HADD.out).mono ?_
          rintro e' w_28 ⟨x, rfl, hB, hx, rx⟩
          clear Rn
          replace hx := Lib.hid hx
          replace kp_ := Keeps.on kp_ (by omega) hB
          have lw_28 : w_27.heap.size ≤ w_28.heap.size := hB.size
          replace hV := box_on hV hB (by omega)
          replace Ra := MRows.on Ra hB
          replace Rb := MRows.on Rb hB
          replace hBL := hBL.trans (hB.mono (by omega))
          have X : MRows w_28 (w_27.heap.size) w_28.heap.size x := rx
          clear rx
          clear hB
          refine hK _ _ ⟨fun _ _ => kp_, ?_⟩
          clear hK K
          try simp only [Act.put, List.setIfInBounds_toArray, List.set_cons_zero, List.set_cons_succ]
          refine pureE (i := 4) (L := #[true, true, true, true, true, false, false, true, false, false]) (v := ?_) rfl (by rfl) (by kernel_rfl) (by kernel_rfl) (by kernel_rfl) (fun _ _ _ h => h) (by rfl) ?hy24 ?rest24
          case hy24 => intro w; go_simp; (try with_reducible rfl)
          try simp only [Act.put, List.setIfInBounds_toArray, List.set_cons_zero, List.set_cons_succ]
          refine pureE (i := 5) (L := #[true, true, true, true, true, true, false, true, false, false]) (v := ?_) rfl (by rfl) (by kernel_rfl) (by kernel_rfl) (by kernel_rfl) (fun _ _ _ h => h) (by rfl) ?hy25 ?rest25
          case hy25 => intro w; go_simp; (try with_reducible rfl)
          try simp only [Act.put, List.setIfInBounds_toArray, List.set_cons_zero, List.set_cons_succ]
          refine pureE (i := 6) (L := #[true, true, true, true, true, true, true, true, false, false]) (v := ?_) rfl (by rfl) (by kernel_rfl) (by kernel_rfl) (by kernel_rfl) (fun _ _ _ h => h) (by rfl) ?hy26 ?rest26
          case hy26 => intro w; go_simp; (try with_reducible rfl)
          try simp only [Act.put, List.setIfInBounds_toArray, List.set_cons_zero, List.set_cons_succ]
          obtain ⟨⟨z0, z1, z2, z3, z4, z5, z6, z7, z8, z9, z10, z11⟩, zf⟩ := MBox.cells hV
          refine stepK (i := 8) (L := #[true, true, true, true, true, true, true, true, true, false]) rfl (by rfl) (by kernel_rfl) (by rfl) (fun K hK => ?_)
          go_simp
          obtain ⟨w_29, hc_, hx2, hb_, hf2, lw_29, l2w_29⟩ := all_to hV x
          rw [hc_]
          clear hc_ z0 z1 z2 z3 z4 z5 z6 z7 z8 z9 z10 z11 zf
          refine hK _ _ ⟨fun _ _ p hp => (hf2 p (by omega)).trans (kp_ p hp), ?_⟩
          clear hK K
          try simp only [Act.put, List.setIfInBounds_toArray, List.set_cons_zero, List.set_cons_succ]
          have hZ2 : MBox w_29 (w.heap.size + 1 + 1) ZM := (hf2 _ (by omega)).trans ((kp_ _ (by omega)).trans hZ)
          have hb2 := hb_ _ _ hBL (by omega)
          replace X := rows_rng X (w' := w_29) (fun b h1 h2 => hf2 b (by omega))
          refine pureE (i := 9) (L := #[true, true, true, true, true, true, true, true, true, true]) (v := ?_) rfl (by rfl) (by kernel_rfl) (by kernel_rfl) (by kernel_rfl) (fun _ _ _ h => h) (by rfl) ?hy28 ?rest28
          case hy28 => intro w; go_simp; (try with_reducible rfl)
          try simp only [Act.put, List.setIfInBounds_toArray, List.set_cons_zero, List.set_cons_succ]
          refine doneE (by kernel_rfl) ?_ _
          obtain ⟨⟨k0, k1, k2, k3, k4, k5, k6, k7, k8, k9, k10, k11⟩, kf⟩ := MBox.cells hx2
          obtain ⟨⟨z0, z1, z2, z3, z4, z5, z6, z7, z8, z9, z10, z11⟩, zf⟩ := MBox.cells hZ2
          have hgz : w.heap.size + 1 + 1 ≠ w_21.heap.size := by omega
          have hgz2 : w_21.heap.size ≠ w.heap.size + 1 + 1 := by omega
          go_wp2
          obtain ⟨UU, hc_, hX, hb3, hf3, l3, l4⟩ := all_to hZ2 x
          rw [hc_]
          clear hc_ k0 k1 k2 k3 k4 k5 k6 k7 k8 k9 k10 k11 kf z0 z1 z2 z3 z4 z5 z6 z7 z8 z9 z10 z11 zf
          have hY := hb3 _ _ hb2 (by omega)
          replace X := rows_rng X (w' := UU) (fun b h1 h2 => hf3 b (by omega))
          obtain ⟨⟨k0, k1, k2, k3, k4, k5, k6, k7, k8, k9, k10, k11⟩, kf⟩ := MBox.cells hX
          exact bodyPost_ret (v := .tuple #[.agg #[.bool x.S.s, .slice x.S.A x.S.n x.S.c, .int .i64 x.S.e, .bool x.W.s, .slice x.W.A x.W.n x.W.c, .int .i64 x.W.e, .bool x.C.s, .slice x.C.A x.C.n x.C.c, .int .i64 x.C.e, .bool x.A.s, .slice x.A.A x.A.n x.A.c, .int .i64 x.A.e], .int .i64 code]) (by simp [results, Tryd.results54, go_sem, k0, k1, k2, k3, k4, k5, k6, k7, k8, k9, k10, k11]) rfl ⟨x, rfl, hY, hx.out.of_eq fun j hj => hRS.out j hj, X.more (by omega) (by omega)⟩
      case o_20 =>
        
        go_simp
        have hB := (Below.refl w_16.heap.size w_16).alloc (Nat.le_refl _) (.cells #[.bool false, .slice none 0 0, .int .i64 0, .bool false, .slice none 0 0, .int .i64 0, .bool false, .slice none 0 0, .int .i64 0, .bool false, .slice none 0 0, .int .i64 0] 39)
        have hV : MBox (w_16.alloc (.cells #[.bool false, .slice none 0 0, .int .i64 0, .bool false, .slice none 0 0, .int .i64 0, .bool false, .slice none 0 0, .int .i64 0, .bool false, .slice none 0 0, .int .i64 0] 39)) w_16.heap.size ZM := heap_alloc_last _ _
        have mw_30 : w_16.heap.size < (w_16.alloc (.cells #[.bool false, .slice none 0 0, .int .i64 0, .bool false, .slice none 0 0, .int .i64 0, .bool false, .slice none 0 0, .int .i64 0, .bool false, .slice none 0 0, .int .i64 0] 39)).heap.size := by simp
        generalize hww_30 : w_16.alloc (.cells #[.bool false, .slice none 0 0, .int .i64 0, .bool false, .slice none 0 0, .int .i64 0, .bool false, .slice none 0 0, .int .i64 0, .bool false, .slice none 0 0, .int .i64 0] 39) = w_30 at *
        replace kp_ := Keeps.on kp_ (by omega) hB
        have lw_30 : w_16.heap.size ≤ w_30.heap.size := hB.size
        replace Ra := MRows.on Ra hB
        replace Rb := MRows.on Rb hB
        replace hBL := hBL.trans (hB.mono (by omega))
        clear hB
        refine hK _ _ ⟨fun _ _ => kp_, ?_⟩
        clear hK K
        try clear hww_30
        try simp only [Act.put, List.setIfInBounds_toArray, List.set_cons_zero, List.set_cons_succ]
        refine stepK (i := 2) (L := #[true, true, true, false, false, false, false, true, false, false]) rfl (by rfl) (by kernel_rfl) (by rfl) (fun K hK => ?_)
        go_simp
        go_at_call 85
        refine (RMinusM_any w_30 b).mono ?_
        rintro e' w_31 ⟨rfl, hB⟩
        replace kp_ := Keeps.on kp_ (by omega) hB
        have lw_31 : w_30.heap.size ≤ w_31.heap.size := hB.size
        replace hV := box_on hV hB (by omega)
        replace Ra := MRows.on Ra hB
        replace Rb := MRows.on Rb hB
        replace hBL := hBL.trans (hB.mono (by omega))
        clear hB
        refine hK _ _ ⟨fun _ _ => kp_, ?_⟩
        clear hK K
        try simp only [Act.put, List.setIfInBounds_toArray, List.set_cons_zero, List.set_cons_succ]
        refine stepK (i := 3) (L := #[true, true, true, true, false, false, false, true, false, false]) rfl (by rfl) (by kernel_rfl) (by rfl) (fun K hK => ?_)
        go_simp
        have Rn : MRows w_31 0 w_31.heap.size (negM b) := ⟨Rb.S, Rb.W, Rb.C, Rb.A⟩
        go_at_call 52
        refine (RAdd_num w_31 a (negM b) Ra Rn S code HADD.out).mono ?_
        rintro e' w_32 ⟨x, rfl, hB, hx, rx⟩
        clear Rn
        replace hx := Lib.hid hx
        replace kp_ := Keeps.on kp_ (by omega) hB
        have lw_32 : w_31.heap.size ≤ w_32.heap.size := hB.size
        replace hV := box_on hV hB (by omega)
        replace Ra := MRows.on Ra hB
        replace Rb := MRows.on Rb hB
        replace hBL := hBL.trans (hB.mono (by omega))
        have X : MRows w_32 (w_31.heap.size) w_32.heap.size x := rx
        clear rx
        clear hB
        refine hK _ _ ⟨fun _ _ => kp_, ?_⟩
        clear hK K
        try simp only [Act.put, List.setIfInBounds_toArray, List.set_cons_zero, List.set_cons_succ]
        refine pureE (i := 4) (L := #[true, true, true, true, true, false, false, true, false, false]) (v := ?_) rfl (by rfl) (by kernel_rfl) (by kernel_rfl) (by kernel_rfl) (fun _ _ _ h => h) (by rfl) ?hy31 ?rest31
        case hy31 => intro w; go_simp; (try with_reducible rfl)
        try simp only [Act.put, List.setIfInBounds_toArray, List.set_cons_zero, List.set_cons_succ]
        refine pureE (i := 5) (L := #[true, true, true, true, true, true, false, true, false, false]) (v := ?_) rfl (by rfl) (by kernel_rfl) (by kernel_rfl) (by kernel_rfl) (fun _ _ _ h => h) (by rfl) ?hy32 ?rest32
        case hy32 => intro w; go_simp; (try with_reducible rfl)
        try simp only [Act.put, List.setIfInBounds_toArray, List.set_cons_zero, List.set_cons_succ]
        refine pureE (i := 6) (L := #[true, true, true, true, true, true, true, true, false, false]) (v := ?_) rfl (by rfl) (by kernel_rfl) (by kernel_rfl) (by kernel_rfl) (fun _ _ _ h => h) (by rfl) ?hy33 ?rest33
        case hy33 => intro w; go_simp; (try with_reducible rfl)
        try simp only [Act.put, List.setIfInBounds_toArray, List.set_cons_zero, List.set_cons_succ]
        obtain ⟨⟨z0, z1, z2, z3, z4, z5, z6, z7, z8, z9, z10, z11⟩, zf⟩ := MBox.cells hV
        refine stepK (i := 8) (L := #[true, true, true, true, true, true, true, true, true, false]) rfl (by rfl) (by kernel_rfl) (by rfl) (fun K hK => ?_)
        go_simp
        obtain ⟨w_33, hc_, hx2, hb_, hf2, lw_33, l2w_33⟩ := all_to hV x
        rw [hc_]
        clear hc_ z0 z1 z2 z3 z4 z5 z6 z7 z8 z9 z10 z11 zf
        refine hK _ _ ⟨fun _ _ p hp => (hf2 p (by omega)).trans (kp_ p hp), ?_⟩
        clear hK K
        try simp only [Act.put, List.setIfInBounds_toArray, List.set_cons_zero, List.set_cons_succ]
        have hZ2 : MBox w_33 (w.heap.size + 1 + 1) ZM := (hf2 _ (by omega)).trans ((kp_ _ (by omega)).trans hZ)
        have hb2 := hb_ _ _ hBL (by omega)
        replace X := rows_rng X (w' := w_33) (fun b h1 h2 => hf2 b (by omega))
        refine pureE (i := 9) (L := #[true, true, true, true, true, true, true, true, true, true]) (v := ?_) rfl (by rfl) (by kernel_rfl) (by kernel_rfl) (by kernel_rfl) (fun _ _ _ h => h) (by rfl) ?hy35 ?rest35
        case hy35 => intro w; go_simp; (try with_reducible rfl)
        try simp only [Act.put, List.setIfInBounds_toArray, List.set_cons_zero, List.set_cons_succ]
        refine doneE (by kernel_rfl) ?_ _
        obtain ⟨⟨k0, k1, k2, k3, k4, k5, k6, k7, k8, k9, k10, k11⟩, kf⟩ := MBox.cells hx2
        obtain ⟨⟨z0, z1, z2, z3, z4, z5, z6, z7, z8, z9, z10, z11⟩, zf⟩ := MBox.cells hZ2
        have hgz : w.heap.size + 1 + 1 ≠ w_16.heap.size := by omega
        have hgz2 : w_16.heap.size ≠ w.heap.size + 1 + 1 := by omega
        go_wp2
        obtain ⟨UU, hc_, hX, hb3, hf3, l3, l4⟩ := all_to hZ2 x
        rw [hc_]
        clear hc_ k0 k1 k2 k3 k4 k5 k6 k7 k8 k9 k10 k11 kf z0 z1 z2 z3 z4 z5 z6 z7 z8 z9 z10 z11 zf
        have hY := hb3 _ _ hb2 (by omega)
        replace X := rows_rng X (w' := UU) (fun b h1 h2 => hf3 b (by omega))
        obtain ⟨⟨k0, k1, k2, k3, k4, k5, k6, k7, k8, k9, k10, k11⟩, kf⟩ := MBox.cells hX
        exact bodyPost_ret (v := .tuple #[.agg #[.bool x.S.s, .slice x.S.A x.S.n x.S.c, .int .i64 x.S.e, .bool x.W.s, .slice x.W.A x.W.n x.W.c, .int .i64 x.W.e, .bool x.C.s, .slice x.C.A x.C.n x.C.c, .int .i64 x.C.e, .bool x.A.s, .slice x.A.A x.A.n x.A.c, .int .i64 x.A.e], .int .i64 code]) (by simp [results, Tryd.results54, go_sem, k0, k1, k2, k3, k4, k5, k6, k7, k8, k9, k10, k11]) rfl ⟨x, rfl, hY, hx.out.of_eq fun j hj => hRS.out j hj, X.more (by omega) (by omega)⟩
end Ma
end Go.Proofs.YtlbkepiflhchdaaDoor
