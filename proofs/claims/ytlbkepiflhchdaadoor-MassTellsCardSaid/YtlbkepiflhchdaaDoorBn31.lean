/- headcountref06.Seeded, Seed: walks (printed by a program of mine). -/
/- headcountlaw06.spoil: a walk (printed by a program of mine). -/
import Derived.Test.YtlbkepiflhchdaaDoorBn27
import Derived.Test.YtlbkepiflhchdaaDoorBn30
import Derived.Test.YtlbkepiflhchdaaDoorBn22
namespace Go.Proofs.YtlbkepiflhchdaaDoor
open Go.RowKit
namespace Ma
open Dp Dy
set_option maxHeartbeats 6400000 in
set_option maxRecDepth 100000 in
theorem RSeeded_any (w : World) (x : Int) (h0 : -2147483647 ≤ x) (h1 : x ≤ 2147483647) (first : Bool) :
    Calls Tryd.prog 86 #[.int .i64 x, .bool first] w fun e w' => ∃ m' : Mv, e = .returned (.agg #[.bool m'.S.s, .slice m'.S.A m'.S.n m'.S.c, .int .i64 m'.S.e, .bool m'.W.s, .slice m'.W.A m'.W.n m'.W.c, .int .i64 m'.W.e, .bool m'.C.s, .slice m'.C.A m'.C.n m'.C.c, .int .i64 m'.C.e, .bool m'.A.s, .slice m'.A.A m'.A.n m'.A.c, .int .i64 m'.A.e]) ∧ Below w.heap.size w w' ∧ ∀ j, j < 4 → ResV w' w.heap.size (seedD x first j) (m'.get j) := by
  obtain ⟨s, hs0⟩ : ∃ s, decide (x < 0) = s := ⟨_, rfl⟩
  obtain ⟨v, hv0⟩ : ∃ v, x.natAbs = v := ⟨_, rfl⟩
  have HS0 := Lib.hid hs0
  have HV0 := Lib.hid hv0
  clear hs0 hv0
  generalize hw : w.alloc (.cells #[.bool false, .slice none 0 0, .int .i64 0, .bool false, .slice none 0 0, .int .i64 0, .bool false, .slice none 0 0, .int .i64 0, .bool false, .slice none 0 0, .int .i64 0] 39) = w1
  have hZ1 : MBox w1 w.heap.size ZM := by rw [← hw]; exact heap_alloc_last _ _
  have hb : Below w.heap.size w w1 := by rw [← hw]; exact (Below.refl _ w).alloc (Nat.le_refl _) _
  have l1 : w.heap.size < w1.heap.size := by rw [← hw]; simp
  cases first
  all_goals
    go_enter Tryd.func86, Tryd.ntmps86
    go_wp2_with fail
    try clear hw
    refine (rOf_any w1 x (by omega) (by omega) s v HS0.out HV0.out).mono ?_
    rintro e w2 ⟨A1, n1, c1, rfl, hc1, hB, hI⟩
    have l2 := hB.size
    have I1 : Ints w2 (w.heap.size + 1) w2.heap.size .u32 A1 n1 (canon 4294967296 v) := Ints.more hI (by omega) (Nat.le_refl _)
    replace hZ1 : MBox w2 w.heap.size ZM := box_on hZ1 hB l1
    replace hb := hb.trans (hB.mono (by omega))
    clear hB hI
    go_wp2_with fail
    refine (rOf_any w2 1 (by decide) (by decide) false 1 rfl rfl).mono ?_
    rintro e w3 ⟨A2, n2, c2, rfl, hc2, hB, hI⟩
    have l3 := hB.size
    replace I1 := I1.below hB (Nat.le_refl _)
    have I2 : Ints w3 (w.heap.size + 1) w3.heap.size .u32 A2 n2 (canon 4294967296 1) := Ints.more hI (by omega) (Nat.le_refl _)
    replace hZ1 : MBox w3 w.heap.size ZM := box_on hZ1 hB (by omega)
    replace hb := hb.trans (hB.mono (by omega))
    clear hB hI
    go_wp2_with fail
    refine (rOf_any w3 x (by omega) (by omega) s v HS0.out HV0.out).mono ?_
    rintro e w4 ⟨A3, n3, c3, rfl, hc3, hB, hI⟩
    have l4 := hB.size
    replace I1 := I1.below hB (by omega)
    replace I2 := I2.below hB (Nat.le_refl _)
    have I3 : Ints w4 (w.heap.size + 1) w4.heap.size .u32 A3 n3 (canon 4294967296 v) := Ints.more hI (by omega) (Nat.le_refl _)
    replace hZ1 : MBox w4 w.heap.size ZM := box_on hZ1 hB (by omega)
    replace hb := hb.trans (hB.mono (by omega))
    clear hB hI
    have hB := (Below.refl w4.heap.size w4).alloc (Nat.le_refl _) (.cells #[.bool s, .slice A1 n1 c1, .int .i64 0, .bool false, .slice A2 n2 c2, .int .i64 0, .bool false, .slice none 0 0, .int .i64 0, .bool s, .slice A3 n3 c3, .int .i64 0] 39)
    have hM := heap_alloc_last w4 (.cells #[.bool s, .slice A1 n1 c1, .int .i64 0, .bool false, .slice A2 n2 c2, .int .i64 0, .bool false, .slice none 0 0, .int .i64 0, .bool s, .slice A3 n3 c3, .int .i64 0] 39)
    have l5 : w4.heap.size < (w4.alloc (.cells #[.bool s, .slice A1 n1 c1, .int .i64 0, .bool false, .slice A2 n2 c2, .int .i64 0, .bool false, .slice none 0 0, .int .i64 0, .bool s, .slice A3 n3 c3, .int .i64 0] 39)).heap.size := by simp
    replace hM : MBox (w4.alloc (.cells #[.bool s, .slice A1 n1 c1, .int .i64 0, .bool false, .slice A2 n2 c2, .int .i64 0, .bool false, .slice none 0 0, .int .i64 0, .bool s, .slice A3 n3 c3, .int .i64 0] 39)) w4.heap.size ⟨⟨s, A1, n1, c1, 0, canon 4294967296 v⟩, ⟨false, A2, n2, c2, 0, canon 4294967296 1⟩, ⟨false, none, 0, 0, 0, []⟩, ⟨s, A3, n3, c3, 0, canon 4294967296 v⟩⟩ := hM
    replace I1 := I1.below hB (by omega)
    replace I2 := I2.below hB (by omega)
    replace I3 := I3.below hB (Nat.le_refl _)
    replace hZ1 : MBox (w4.alloc (.cells #[.bool s, .slice A1 n1 c1, .int .i64 0, .bool false, .slice A2 n2 c2, .int .i64 0, .bool false, .slice none 0 0, .int .i64 0, .bool s, .slice A3 n3 c3, .int .i64 0] 39)) w.heap.size ZM := box_on hZ1 hB (by omega)
    replace hb := hb.trans (hB.mono (by omega))
    clear hB
  · obtain ⟨⟨k0, k1, k2, k3, k4, k5, k6, k7, k8, k9, k10, k11⟩, kf⟩ := MBox.cells hM
    obtain ⟨⟨z0, z1, z2, z3, z4, z5, z6, z7, z8, z9, z10, z11⟩, zf⟩ := MBox.cells hZ1
    go_wp2
    clear k0 k1 k2 k3 k4 k5 k6 k7 k8 k9 k10 k11 kf z0 z1 z2 z3 z4 z5 z6 z7 z8 z9 z10 z11 zf
    generalize (w4.alloc (.cells #[.bool s, .slice A1 n1 c1, .int .i64 0, .bool false, .slice A2 n2 c2, .int .i64 0, .bool false, .slice none 0 0, .int .i64 0, .bool s, .slice A3 n3 c3, .int .i64 0] 39)) = w5 at *
    have hX : MBox ((((((((((((w5.setCell ⟨w.heap.size, 0, none⟩ (.bool s)).setCell ⟨w.heap.size, 1, none⟩ (.slice A1 n1 c1)).setCell ⟨w.heap.size, 2, none⟩ (.int .i64 0)).setCell ⟨w.heap.size, 3, none⟩ (.bool false)).setCell ⟨w.heap.size, 4, none⟩ (.slice A2 n2 c2)).setCell ⟨w.heap.size, 5, none⟩ (.int .i64 0)).setCell ⟨w.heap.size, 6, none⟩ (.bool false)).setCell ⟨w.heap.size, 7, none⟩ (.slice none 0 0)).setCell ⟨w.heap.size, 8, none⟩ (.int .i64 0)).setCell ⟨w.heap.size, 9, none⟩ (.bool s)).setCell ⟨w.heap.size, 10, none⟩ (.slice A3 n3 c3)).setCell ⟨w.heap.size, 11, none⟩ (.int .i64 0)) w.heap.size ⟨⟨s, A1, n1, c1, 0, canon 4294967296 v⟩, ⟨false, A2, n2, c2, 0, canon 4294967296 1⟩, ⟨false, none, 0, 0, 0, []⟩, ⟨s, A3, n3, c3, 0, canon 4294967296 v⟩⟩ := MBox.all hZ1 ⟨⟨s, A1, n1, c1, 0, canon 4294967296 v⟩, ⟨false, A2, n2, c2, 0, canon 4294967296 1⟩, ⟨false, none, 0, 0, 0, []⟩, ⟨s, A3, n3, c3, 0, canon 4294967296 v⟩⟩
    have hY : Below w.heap.size w ((((((((((((w5.setCell ⟨w.heap.size, 0, none⟩ (.bool s)).setCell ⟨w.heap.size, 1, none⟩ (.slice A1 n1 c1)).setCell ⟨w.heap.size, 2, none⟩ (.int .i64 0)).setCell ⟨w.heap.size, 3, none⟩ (.bool false)).setCell ⟨w.heap.size, 4, none⟩ (.slice A2 n2 c2)).setCell ⟨w.heap.size, 5, none⟩ (.int .i64 0)).setCell ⟨w.heap.size, 6, none⟩ (.bool false)).setCell ⟨w.heap.size, 7, none⟩ (.slice none 0 0)).setCell ⟨w.heap.size, 8, none⟩ (.int .i64 0)).setCell ⟨w.heap.size, 9, none⟩ (.bool s)).setCell ⟨w.heap.size, 10, none⟩ (.slice A3 n3 c3)).setCell ⟨w.heap.size, 11, none⟩ (.int .i64 0)) := below_all hb (Nat.le_refl _) ⟨⟨s, A1, n1, c1, 0, canon 4294967296 v⟩, ⟨false, A2, n2, c2, 0, canon 4294967296 1⟩, ⟨false, none, 0, 0, 0, []⟩, ⟨s, A3, n3, c3, 0, canon 4294967296 v⟩⟩
    have hs : (((((((((((((w5.setCell ⟨w.heap.size, 0, none⟩ (.bool s)).setCell ⟨w.heap.size, 1, none⟩ (.slice A1 n1 c1)).setCell ⟨w.heap.size, 2, none⟩ (.int .i64 0)).setCell ⟨w.heap.size, 3, none⟩ (.bool false)).setCell ⟨w.heap.size, 4, none⟩ (.slice A2 n2 c2)).setCell ⟨w.heap.size, 5, none⟩ (.int .i64 0)).setCell ⟨w.heap.size, 6, none⟩ (.bool false)).setCell ⟨w.heap.size, 7, none⟩ (.slice none 0 0)).setCell ⟨w.heap.size, 8, none⟩ (.int .i64 0)).setCell ⟨w.heap.size, 9, none⟩ (.bool s)).setCell ⟨w.heap.size, 10, none⟩ (.slice A3 n3 c3)).setCell ⟨w.heap.size, 11, none⟩ (.int .i64 0))).heap.size = w5.heap.size := size_all (w := w5) (g := w.heap.size) ⟨⟨s, A1, n1, c1, 0, canon 4294967296 v⟩, ⟨false, A2, n2, c2, 0, canon 4294967296 1⟩, ⟨false, none, 0, 0, 0, []⟩, ⟨s, A3, n3, c3, 0, canon 4294967296 v⟩⟩
    have hfar : ∀ k, k ≠ w.heap.size → (((((((((((((w5.setCell ⟨w.heap.size, 0, none⟩ (.bool s)).setCell ⟨w.heap.size, 1, none⟩ (.slice A1 n1 c1)).setCell ⟨w.heap.size, 2, none⟩ (.int .i64 0)).setCell ⟨w.heap.size, 3, none⟩ (.bool false)).setCell ⟨w.heap.size, 4, none⟩ (.slice A2 n2 c2)).setCell ⟨w.heap.size, 5, none⟩ (.int .i64 0)).setCell ⟨w.heap.size, 6, none⟩ (.bool false)).setCell ⟨w.heap.size, 7, none⟩ (.slice none 0 0)).setCell ⟨w.heap.size, 8, none⟩ (.int .i64 0)).setCell ⟨w.heap.size, 9, none⟩ (.bool s)).setCell ⟨w.heap.size, 10, none⟩ (.slice A3 n3 c3)).setCell ⟨w.heap.size, 11, none⟩ (.int .i64 0))).heap[k]? = w5.heap[k]? := fun k hk => far_all hk ⟨⟨s, A1, n1, c1, 0, canon 4294967296 v⟩, ⟨false, A2, n2, c2, 0, canon 4294967296 1⟩, ⟨false, none, 0, 0, 0, []⟩, ⟨s, A3, n3, c3, 0, canon 4294967296 v⟩⟩
    generalize ((((((((((((w5.setCell ⟨w.heap.size, 0, none⟩ (.bool s)).setCell ⟨w.heap.size, 1, none⟩ (.slice A1 n1 c1)).setCell ⟨w.heap.size, 2, none⟩ (.int .i64 0)).setCell ⟨w.heap.size, 3, none⟩ (.bool false)).setCell ⟨w.heap.size, 4, none⟩ (.slice A2 n2 c2)).setCell ⟨w.heap.size, 5, none⟩ (.int .i64 0)).setCell ⟨w.heap.size, 6, none⟩ (.bool false)).setCell ⟨w.heap.size, 7, none⟩ (.slice none 0 0)).setCell ⟨w.heap.size, 8, none⟩ (.int .i64 0)).setCell ⟨w.heap.size, 9, none⟩ (.bool s)).setCell ⟨w.heap.size, 10, none⟩ (.slice A3 n3 c3)).setCell ⟨w.heap.size, 11, none⟩ (.int .i64 0)) = U at *
    obtain ⟨M, hMe⟩ : ∃ M : Mv, M = ⟨⟨s, A1, n1, c1, 0, canon 4294967296 v⟩, ⟨false, A2, n2, c2, 0, canon 4294967296 1⟩, ⟨false, none, 0, 0, 0, []⟩, ⟨s, A3, n3, c3, 0, canon 4294967296 v⟩⟩ := ⟨_, rfl⟩
    rw [← hMe] at hX
    have HME := Lib.hid hMe
    clear hMe
    obtain ⟨⟨k0, k1, k2, k3, k4, k5, k6, k7, k8, k9, k10, k11⟩, kf⟩ := MBox.cells hX
    refine bodyPost_ret (v := .agg #[.bool M.S.s, .slice M.S.A M.S.n M.S.c, .int .i64 M.S.e, .bool M.W.s, .slice M.W.A M.W.n M.W.c, .int .i64 M.W.e, .bool M.C.s, .slice M.C.A M.C.n M.C.c, .int .i64 M.C.e, .bool M.A.s, .slice M.A.A M.A.n M.A.c, .int .i64 M.A.e]) (by simp [results, Tryd.results86, go_sem, k0, k1, k2, k3, k4, k5, k6, k7, k8, k9, k10, k11]) rfl ⟨M, rfl, hY, ?_⟩
    rw [HME.out]
    have hs' : U.heap.size = w5.heap.size := hs
    have mv : ∀ {lo hi n : Nat} {A : Option Addr} {xs : List Int}, Ints w5 lo hi .u32 A n xs → w.heap.size + 1 ≤ lo → hi ≤ w5.heap.size → Ints U w.heap.size U.heap.size .u32 A n xs := fun hi hl hh => (ints_blocks hi (fun k h1 => hfar k (by omega))).more (by omega) (by omega)
    refine four ?_ ?_ ?_ ?_
    · exact ⟨HS0.out.symm, rfl, by show canon 4294967296 v = canon 4294967296 x.natAbs; rw [HV0.out], hc1, mv I1 (by omega) (by omega)⟩
    · exact ⟨rfl, rfl, rfl, hc2, mv I2 (by omega) (by omega)⟩
    · exact ⟨rfl, rfl, rfl, Nat.le_refl _, Ints.nil_ ..⟩
    · exact ⟨HS0.out.symm, rfl, by show canon 4294967296 v = canon 4294967296 x.natAbs; rw [HV0.out], hc3, mv I3 (by omega) (by omega)⟩
  · go_wp2_with fail
    generalize (w4.alloc (.cells #[.bool s, .slice A1 n1 c1, .int .i64 0, .bool false, .slice A2 n2 c2, .int .i64 0, .bool false, .slice none 0 0, .int .i64 0, .bool s, .slice A3 n3 c3, .int .i64 0] 39)) = w5 at *
    refine (rOf_any w5 1 (by decide) (by decide) false 1 rfl rfl).mono ?_
    rintro e w6 ⟨A4, n4, c4, rfl, hc4, hB, hI⟩
    have l6 := hB.size
    have I4 : Ints w6 w5.heap.size w6.heap.size .u32 A4 n4 (canon 4294967296 1) := hI
    replace I1 := I1.below hB (by omega)
    replace I2 := I2.below hB (by omega)
    replace I3 := I3.below hB (by omega)
    replace hZ1 : MBox w6 w.heap.size ZM := box_on hZ1 hB (by omega)
    replace hM := box_on hM hB (by omega)
    replace hb := hb.trans (hB.mono (by omega))
    clear hB hI
    obtain ⟨⟨k0, k1, k2, k3, k4, k5, k6, k7, k8, k9, k10, k11⟩, kf⟩ := MBox.cells hM
    obtain ⟨⟨z0, z1, z2, z3, z4, z5, z6, z7, z8, z9, z10, z11⟩, zf⟩ := MBox.cells hZ1
    have hne : w4.heap.size ≠ w.heap.size := by omega
    have hne2 : w.heap.size ≠ w4.heap.size := by omega
    go_wp2
    clear k0 k1 k2 k3 k4 k5 k6 k7 k8 k9 k10 k11 kf z0 z1 z2 z3 z4 z5 z6 z7 z8 z9 z10 z11 zf
    have hfar6 : ∀ k, k ≠ w4.heap.size → ((((w6.setCell ⟨w4.heap.size, 6, none⟩ (.bool false)).setCell ⟨w4.heap.size, 7, none⟩ (.slice A4 n4 c4)).setCell ⟨w4.heap.size, 8, none⟩ (.int .i64 0))).heap[k]? = w6.heap[k]? := fun k hk => (Below.heap_setCell _ _ _ _ hk).trans ((Below.heap_setCell _ _ _ _ hk).trans (Below.heap_setCell _ _ _ _ hk))
    have hs6 : ((((w6.setCell ⟨w4.heap.size, 6, none⟩ (.bool false)).setCell ⟨w4.heap.size, 7, none⟩ (.slice A4 n4 c4)).setCell ⟨w4.heap.size, 8, none⟩ (.int .i64 0))).heap.size = w6.heap.size := by simp only [size_set]
    replace hZ1 : MBox (((w6.setCell ⟨w4.heap.size, 6, none⟩ (.bool false)).setCell ⟨w4.heap.size, 7, none⟩ (.slice A4 n4 c4)).setCell ⟨w4.heap.size, 8, none⟩ (.int .i64 0)) w.heap.size ZM := (hfar6 _ hne2).trans hZ1
    replace hb : Below w.heap.size w (((w6.setCell ⟨w4.heap.size, 6, none⟩ (.bool false)).setCell ⟨w4.heap.size, 7, none⟩ (.slice A4 n4 c4)).setCell ⟨w4.heap.size, 8, none⟩ (.int .i64 0)) := ((hb.setCell (by simp; omega) _).setCell (by simp; omega) _).setCell (by simp; omega) _
    generalize (((w6.setCell ⟨w4.heap.size, 6, none⟩ (.bool false)).setCell ⟨w4.heap.size, 7, none⟩ (.slice A4 n4 c4)).setCell ⟨w4.heap.size, 8, none⟩ (.int .i64 0)) = w7 at *
    have hX : MBox ((((((((((((w7.setCell ⟨w.heap.size, 0, none⟩ (.bool s)).setCell ⟨w.heap.size, 1, none⟩ (.slice A1 n1 c1)).setCell ⟨w.heap.size, 2, none⟩ (.int .i64 0)).setCell ⟨w.heap.size, 3, none⟩ (.bool false)).setCell ⟨w.heap.size, 4, none⟩ (.slice A2 n2 c2)).setCell ⟨w.heap.size, 5, none⟩ (.int .i64 0)).setCell ⟨w.heap.size, 6, none⟩ (.bool false)).setCell ⟨w.heap.size, 7, none⟩ (.slice A4 n4 c4)).setCell ⟨w.heap.size, 8, none⟩ (.int .i64 0)).setCell ⟨w.heap.size, 9, none⟩ (.bool s)).setCell ⟨w.heap.size, 10, none⟩ (.slice A3 n3 c3)).setCell ⟨w.heap.size, 11, none⟩ (.int .i64 0)) w.heap.size ⟨⟨s, A1, n1, c1, 0, canon 4294967296 v⟩, ⟨false, A2, n2, c2, 0, canon 4294967296 1⟩, ⟨false, A4, n4, c4, 0, canon 4294967296 1⟩, ⟨s, A3, n3, c3, 0, canon 4294967296 v⟩⟩ := MBox.all hZ1 ⟨⟨s, A1, n1, c1, 0, canon 4294967296 v⟩, ⟨false, A2, n2, c2, 0, canon 4294967296 1⟩, ⟨false, A4, n4, c4, 0, canon 4294967296 1⟩, ⟨s, A3, n3, c3, 0, canon 4294967296 v⟩⟩
    have hY : Below w.heap.size w ((((((((((((w7.setCell ⟨w.heap.size, 0, none⟩ (.bool s)).setCell ⟨w.heap.size, 1, none⟩ (.slice A1 n1 c1)).setCell ⟨w.heap.size, 2, none⟩ (.int .i64 0)).setCell ⟨w.heap.size, 3, none⟩ (.bool false)).setCell ⟨w.heap.size, 4, none⟩ (.slice A2 n2 c2)).setCell ⟨w.heap.size, 5, none⟩ (.int .i64 0)).setCell ⟨w.heap.size, 6, none⟩ (.bool false)).setCell ⟨w.heap.size, 7, none⟩ (.slice A4 n4 c4)).setCell ⟨w.heap.size, 8, none⟩ (.int .i64 0)).setCell ⟨w.heap.size, 9, none⟩ (.bool s)).setCell ⟨w.heap.size, 10, none⟩ (.slice A3 n3 c3)).setCell ⟨w.heap.size, 11, none⟩ (.int .i64 0)) := below_all hb (Nat.le_refl _) ⟨⟨s, A1, n1, c1, 0, canon 4294967296 v⟩, ⟨false, A2, n2, c2, 0, canon 4294967296 1⟩, ⟨false, A4, n4, c4, 0, canon 4294967296 1⟩, ⟨s, A3, n3, c3, 0, canon 4294967296 v⟩⟩
    have hs : (((((((((((((w7.setCell ⟨w.heap.size, 0, none⟩ (.bool s)).setCell ⟨w.heap.size, 1, none⟩ (.slice A1 n1 c1)).setCell ⟨w.heap.size, 2, none⟩ (.int .i64 0)).setCell ⟨w.heap.size, 3, none⟩ (.bool false)).setCell ⟨w.heap.size, 4, none⟩ (.slice A2 n2 c2)).setCell ⟨w.heap.size, 5, none⟩ (.int .i64 0)).setCell ⟨w.heap.size, 6, none⟩ (.bool false)).setCell ⟨w.heap.size, 7, none⟩ (.slice A4 n4 c4)).setCell ⟨w.heap.size, 8, none⟩ (.int .i64 0)).setCell ⟨w.heap.size, 9, none⟩ (.bool s)).setCell ⟨w.heap.size, 10, none⟩ (.slice A3 n3 c3)).setCell ⟨w.heap.size, 11, none⟩ (.int .i64 0))).heap.size = w7.heap.size := size_all (w := w7) (g := w.heap.size) ⟨⟨s, A1, n1, c1, 0, canon 4294967296 v⟩, ⟨false, A2, n2, c2, 0, canon 4294967296 1⟩, ⟨false, A4, n4, c4, 0, canon 4294967296 1⟩, ⟨s, A3, n3, c3, 0, canon 4294967296 v⟩⟩
    have hfar : ∀ k, k ≠ w.heap.size → (((((((((((((w7.setCell ⟨w.heap.size, 0, none⟩ (.bool s)).setCell ⟨w.heap.size, 1, none⟩ (.slice A1 n1 c1)).setCell ⟨w.heap.size, 2, none⟩ (.int .i64 0)).setCell ⟨w.heap.size, 3, none⟩ (.bool false)).setCell ⟨w.heap.size, 4, none⟩ (.slice A2 n2 c2)).setCell ⟨w.heap.size, 5, none⟩ (.int .i64 0)).setCell ⟨w.heap.size, 6, none⟩ (.bool false)).setCell ⟨w.heap.size, 7, none⟩ (.slice A4 n4 c4)).setCell ⟨w.heap.size, 8, none⟩ (.int .i64 0)).setCell ⟨w.heap.size, 9, none⟩ (.bool s)).setCell ⟨w.heap.size, 10, none⟩ (.slice A3 n3 c3)).setCell ⟨w.heap.size, 11, none⟩ (.int .i64 0))).heap[k]? = w7.heap[k]? := fun k hk => far_all hk ⟨⟨s, A1, n1, c1, 0, canon 4294967296 v⟩, ⟨false, A2, n2, c2, 0, canon 4294967296 1⟩, ⟨false, A4, n4, c4, 0, canon 4294967296 1⟩, ⟨s, A3, n3, c3, 0, canon 4294967296 v⟩⟩
    generalize ((((((((((((w7.setCell ⟨w.heap.size, 0, none⟩ (.bool s)).setCell ⟨w.heap.size, 1, none⟩ (.slice A1 n1 c1)).setCell ⟨w.heap.size, 2, none⟩ (.int .i64 0)).setCell ⟨w.heap.size, 3, none⟩ (.bool false)).setCell ⟨w.heap.size, 4, none⟩ (.slice A2 n2 c2)).setCell ⟨w.heap.size, 5, none⟩ (.int .i64 0)).setCell ⟨w.heap.size, 6, none⟩ (.bool false)).setCell ⟨w.heap.size, 7, none⟩ (.slice A4 n4 c4)).setCell ⟨w.heap.size, 8, none⟩ (.int .i64 0)).setCell ⟨w.heap.size, 9, none⟩ (.bool s)).setCell ⟨w.heap.size, 10, none⟩ (.slice A3 n3 c3)).setCell ⟨w.heap.size, 11, none⟩ (.int .i64 0)) = U at *
    obtain ⟨M, hMe⟩ : ∃ M : Mv, M = ⟨⟨s, A1, n1, c1, 0, canon 4294967296 v⟩, ⟨false, A2, n2, c2, 0, canon 4294967296 1⟩, ⟨false, A4, n4, c4, 0, canon 4294967296 1⟩, ⟨s, A3, n3, c3, 0, canon 4294967296 v⟩⟩ := ⟨_, rfl⟩
    rw [← hMe] at hX
    have HME := Lib.hid hMe
    clear hMe
    obtain ⟨⟨k0, k1, k2, k3, k4, k5, k6, k7, k8, k9, k10, k11⟩, kf⟩ := MBox.cells hX
    refine bodyPost_ret (v := .agg #[.bool M.S.s, .slice M.S.A M.S.n M.S.c, .int .i64 M.S.e, .bool M.W.s, .slice M.W.A M.W.n M.W.c, .int .i64 M.W.e, .bool M.C.s, .slice M.C.A M.C.n M.C.c, .int .i64 M.C.e, .bool M.A.s, .slice M.A.A M.A.n M.A.c, .int .i64 M.A.e]) (by simp [results, Tryd.results86, go_sem, k0, k1, k2, k3, k4, k5, k6, k7, k8, k9, k10, k11]) rfl ⟨M, rfl, hY, ?_⟩
    rw [HME.out]
    have hs' : U.heap.size = w7.heap.size := hs
    have hs6' : w7.heap.size = w6.heap.size := hs6
    have mv : ∀ {lo hi n : Nat} {A : Option Addr} {xs : List Int}, Ints w6 lo hi .u32 A n xs → w.heap.size + 1 ≤ lo → (hi ≤ w4.heap.size ∨ w4.heap.size + 1 ≤ lo) → hi ≤ w6.heap.size → Ints U w.heap.size U.heap.size .u32 A n xs := fun hi hl hd hh => (ints_rng hi (fun k h1 h2 => (hfar k (by omega)).trans (hfar6 k (by omega)))).more (by omega) (by omega)
    refine four ?_ ?_ ?_ ?_
    · exact ⟨HS0.out.symm, rfl, by show canon 4294967296 v = canon 4294967296 x.natAbs; rw [HV0.out], hc1, mv I1 (by omega) (.inl (by omega)) (by omega)⟩
    · exact ⟨rfl, rfl, rfl, hc2, mv I2 (by omega) (.inl (by omega)) (by omega)⟩
    · exact ⟨rfl, rfl, rfl, hc4, mv I4 (by omega) (.inr (by omega)) (by omega)⟩
    · exact ⟨HS0.out.symm, rfl, by show canon 4294967296 v = canon 4294967296 x.natAbs; rw [HV0.out], hc3, mv I3 (by omega) (.inl (by omega)) (by omega)⟩

set_option maxHeartbeats 6400000 in
set_option maxRecDepth 100000 in
theorem RSeed_ok (w : World) (x : Int) (h0 : -2147483647 ≤ x) (h1 : x ≤ 2147483647) (first : Bool) :
    Calls Tryd.prog 57 #[.int .i64 x, .bool first] w fun e w' => ∃ m' : Mv, e = .returned (.tuple #[.agg #[.bool m'.S.s, .slice m'.S.A m'.S.n m'.S.c, .int .i64 m'.S.e, .bool m'.W.s, .slice m'.W.A m'.W.n m'.W.c, .int .i64 m'.W.e, .bool m'.C.s, .slice m'.C.A m'.C.n m'.C.c, .int .i64 m'.C.e, .bool m'.A.s, .slice m'.A.A m'.A.n m'.A.c, .int .i64 m'.A.e], .int .i64 0]) ∧ Below w.heap.size w w' ∧ ∀ j, j < 4 → ResV w' w.heap.size (seedD x first j) (m'.get j) := by
  have g0 : ¬ x < -2147483647 := by omega
  have g1 : ¬ 2147483647 < x := by omega
  generalize hw : w.alloc (.cells #[.bool false, .slice none 0 0, .int .i64 0, .bool false, .slice none 0 0, .int .i64 0, .bool false, .slice none 0 0, .int .i64 0, .bool false, .slice none 0 0, .int .i64 0] 39) = w1
  have hZ1 : MBox w1 w.heap.size ZM := by rw [← hw]; exact heap_alloc_last _ _
  have hb : Below w.heap.size w w1 := by rw [← hw]; exact (Below.refl _ w).alloc (Nat.le_refl _) _
  have l1 : w.heap.size < w1.heap.size := by rw [← hw]; simp
  go_enter Tryd.func57, Tryd.ntmps57
  go_wp2_with fail
  try clear hw
  refine (RSeeded_any w1 x h0 h1 first).mono ?_
  rintro e w2 ⟨m, rfl, hB, hm⟩
  replace hm := Lib.hid hm
  have l2 := hB.size
  replace hZ1 : MBox w2 w.heap.size ZM := box_on hZ1 hB l1
  replace hb := hb.trans (hB.mono (by omega))
  clear hB
  obtain ⟨⟨z0, z1, z2, z3, z4, z5, z6, z7, z8, z9, z10, z11⟩, zf⟩ := MBox.cells hZ1
  go_wp2
  have hX : MBox ((((((((((((w2.setCell ⟨w.heap.size, 0, none⟩ (.bool m.S.s)).setCell ⟨w.heap.size, 1, none⟩ (.slice m.S.A m.S.n m.S.c)).setCell ⟨w.heap.size, 2, none⟩ (.int .i64 m.S.e)).setCell ⟨w.heap.size, 3, none⟩ (.bool m.W.s)).setCell ⟨w.heap.size, 4, none⟩ (.slice m.W.A m.W.n m.W.c)).setCell ⟨w.heap.size, 5, none⟩ (.int .i64 m.W.e)).setCell ⟨w.heap.size, 6, none⟩ (.bool m.C.s)).setCell ⟨w.heap.size, 7, none⟩ (.slice m.C.A m.C.n m.C.c)).setCell ⟨w.heap.size, 8, none⟩ (.int .i64 m.C.e)).setCell ⟨w.heap.size, 9, none⟩ (.bool m.A.s)).setCell ⟨w.heap.size, 10, none⟩ (.slice m.A.A m.A.n m.A.c)).setCell ⟨w.heap.size, 11, none⟩ (.int .i64 m.A.e)) (w.heap.size) m := MBox.all hZ1 m
  have hY : Below w.heap.size w ((((((((((((w2.setCell ⟨w.heap.size, 0, none⟩ (.bool m.S.s)).setCell ⟨w.heap.size, 1, none⟩ (.slice m.S.A m.S.n m.S.c)).setCell ⟨w.heap.size, 2, none⟩ (.int .i64 m.S.e)).setCell ⟨w.heap.size, 3, none⟩ (.bool m.W.s)).setCell ⟨w.heap.size, 4, none⟩ (.slice m.W.A m.W.n m.W.c)).setCell ⟨w.heap.size, 5, none⟩ (.int .i64 m.W.e)).setCell ⟨w.heap.size, 6, none⟩ (.bool m.C.s)).setCell ⟨w.heap.size, 7, none⟩ (.slice m.C.A m.C.n m.C.c)).setCell ⟨w.heap.size, 8, none⟩ (.int .i64 m.C.e)).setCell ⟨w.heap.size, 9, none⟩ (.bool m.A.s)).setCell ⟨w.heap.size, 10, none⟩ (.slice m.A.A m.A.n m.A.c)).setCell ⟨w.heap.size, 11, none⟩ (.int .i64 m.A.e)) := below_all hb (Nat.le_refl _) m
  have hfar : ∀ k, k ≠ w.heap.size → ((((((((((((w2.setCell ⟨w.heap.size, 0, none⟩ (.bool m.S.s)).setCell ⟨w.heap.size, 1, none⟩ (.slice m.S.A m.S.n m.S.c)).setCell ⟨w.heap.size, 2, none⟩ (.int .i64 m.S.e)).setCell ⟨w.heap.size, 3, none⟩ (.bool m.W.s)).setCell ⟨w.heap.size, 4, none⟩ (.slice m.W.A m.W.n m.W.c)).setCell ⟨w.heap.size, 5, none⟩ (.int .i64 m.W.e)).setCell ⟨w.heap.size, 6, none⟩ (.bool m.C.s)).setCell ⟨w.heap.size, 7, none⟩ (.slice m.C.A m.C.n m.C.c)).setCell ⟨w.heap.size, 8, none⟩ (.int .i64 m.C.e)).setCell ⟨w.heap.size, 9, none⟩ (.bool m.A.s)).setCell ⟨w.heap.size, 10, none⟩ (.slice m.A.A m.A.n m.A.c)).setCell ⟨w.heap.size, 11, none⟩ (.int .i64 m.A.e)).heap[k]? = w2.heap[k]? := fun k hk => far_all hk m
  have hs : w2.heap.size ≤ ((((((((((((w2.setCell ⟨w.heap.size, 0, none⟩ (.bool m.S.s)).setCell ⟨w.heap.size, 1, none⟩ (.slice m.S.A m.S.n m.S.c)).setCell ⟨w.heap.size, 2, none⟩ (.int .i64 m.S.e)).setCell ⟨w.heap.size, 3, none⟩ (.bool m.W.s)).setCell ⟨w.heap.size, 4, none⟩ (.slice m.W.A m.W.n m.W.c)).setCell ⟨w.heap.size, 5, none⟩ (.int .i64 m.W.e)).setCell ⟨w.heap.size, 6, none⟩ (.bool m.C.s)).setCell ⟨w.heap.size, 7, none⟩ (.slice m.C.A m.C.n m.C.c)).setCell ⟨w.heap.size, 8, none⟩ (.int .i64 m.C.e)).setCell ⟨w.heap.size, 9, none⟩ (.bool m.A.s)).setCell ⟨w.heap.size, 10, none⟩ (.slice m.A.A m.A.n m.A.c)).setCell ⟨w.heap.size, 11, none⟩ (.int .i64 m.A.e)).heap.size := Nat.le_of_eq (size_all (w := w2) (g := w.heap.size) m).symm
  clear z0 z1 z2 z3 z4 z5 z6 z7 z8 z9 z10 z11 zf hZ1 hb
  generalize ((((((((((((w2.setCell ⟨w.heap.size, 0, none⟩ (.bool m.S.s)).setCell ⟨w.heap.size, 1, none⟩ (.slice m.S.A m.S.n m.S.c)).setCell ⟨w.heap.size, 2, none⟩ (.int .i64 m.S.e)).setCell ⟨w.heap.size, 3, none⟩ (.bool m.W.s)).setCell ⟨w.heap.size, 4, none⟩ (.slice m.W.A m.W.n m.W.c)).setCell ⟨w.heap.size, 5, none⟩ (.int .i64 m.W.e)).setCell ⟨w.heap.size, 6, none⟩ (.bool m.C.s)).setCell ⟨w.heap.size, 7, none⟩ (.slice m.C.A m.C.n m.C.c)).setCell ⟨w.heap.size, 8, none⟩ (.int .i64 m.C.e)).setCell ⟨w.heap.size, 9, none⟩ (.bool m.A.s)).setCell ⟨w.heap.size, 10, none⟩ (.slice m.A.A m.A.n m.A.c)).setCell ⟨w.heap.size, 11, none⟩ (.int .i64 m.A.e)) = U at *
  obtain ⟨⟨k0, k1, k2, k3, k4, k5, k6, k7, k8, k9, k10, k11⟩, kf⟩ := MBox.cells hX
  refine bodyPost_ret (v := .tuple #[.agg #[.bool m.S.s, .slice m.S.A m.S.n m.S.c, .int .i64 m.S.e, .bool m.W.s, .slice m.W.A m.W.n m.W.c, .int .i64 m.W.e, .bool m.C.s, .slice m.C.A m.C.n m.C.c, .int .i64 m.C.e, .bool m.A.s, .slice m.A.A m.A.n m.A.c, .int .i64 m.A.e], .int .i64 0]) (by simp [results, Tryd.results57, go_sem, k0, k1, k2, k3, k4, k5, k6, k7, k8, k9, k10, k11]) rfl ⟨m, rfl, hY, fun j hj => ?_⟩
  obtain ⟨a1, a2, a3, a4, a5⟩ := hm.out j hj
  exact ⟨a1, a2, a3, a4, (ints_rng a5 fun k h1 _ => hfar k (by omega)).more (by omega) hs⟩
set_option maxHeartbeats 6400000 in
set_option maxRecDepth 100000 in
theorem RSeed_bad (w : World) (x : Int) (h : x < -2147483647 ∨ 2147483647 < x) (first : Bool) :
    Calls Tryd.prog 57 #[.int .i64 x, .bool first] w fun e w' => e = .returned (.tuple #[.agg #[.bool false, .slice none 0 0, .int .i64 0, .bool false, .slice none 0 0, .int .i64 0, .bool false, .slice none 0 0, .int .i64 0, .bool false, .slice none 0 0, .int .i64 0], .int .i64 2]) ∧ Below w.heap.size w w' := by
  generalize hw : w.alloc (.cells #[.bool false, .slice none 0 0, .int .i64 0, .bool false, .slice none 0 0, .int .i64 0, .bool false, .slice none 0 0, .int .i64 0, .bool false, .slice none 0 0, .int .i64 0] 39) = w1
  have hZ1 : MBox w1 w.heap.size ZM := by rw [← hw]; exact heap_alloc_last _ _
  have hb : Below w.heap.size w w1 := by rw [← hw]; exact (Below.refl _ w).alloc (Nat.le_refl _) _
  obtain ⟨⟨z0, z1, z2, z3, z4, z5, z6, z7, z8, z9, z10, z11⟩, zf⟩ := MBox.cells hZ1
  by_cases h1 : x < -2147483647
  all_goals
    try have h2 : 2147483647 < x := h.resolve_left h1
    clear h
    go_enter Tryd.func57, Tryd.ntmps57
    go_wp2
    try clear hw
    have hX : MBox ((((((((((((w1.setCell ⟨w.heap.size, 0, none⟩ (.bool false)).setCell ⟨w.heap.size, 1, none⟩ (.slice none 0 0)).setCell ⟨w.heap.size, 2, none⟩ (.int .i64 0)).setCell ⟨w.heap.size, 3, none⟩ (.bool false)).setCell ⟨w.heap.size, 4, none⟩ (.slice none 0 0)).setCell ⟨w.heap.size, 5, none⟩ (.int .i64 0)).setCell ⟨w.heap.size, 6, none⟩ (.bool false)).setCell ⟨w.heap.size, 7, none⟩ (.slice none 0 0)).setCell ⟨w.heap.size, 8, none⟩ (.int .i64 0)).setCell ⟨w.heap.size, 9, none⟩ (.bool false)).setCell ⟨w.heap.size, 10, none⟩ (.slice none 0 0)).setCell ⟨w.heap.size, 11, none⟩ (.int .i64 0)) (w.heap.size) ZM := MBox.all hZ1 ZM
    have hY : Below w.heap.size w ((((((((((((w1.setCell ⟨w.heap.size, 0, none⟩ (.bool false)).setCell ⟨w.heap.size, 1, none⟩ (.slice none 0 0)).setCell ⟨w.heap.size, 2, none⟩ (.int .i64 0)).setCell ⟨w.heap.size, 3, none⟩ (.bool false)).setCell ⟨w.heap.size, 4, none⟩ (.slice none 0 0)).setCell ⟨w.heap.size, 5, none⟩ (.int .i64 0)).setCell ⟨w.heap.size, 6, none⟩ (.bool false)).setCell ⟨w.heap.size, 7, none⟩ (.slice none 0 0)).setCell ⟨w.heap.size, 8, none⟩ (.int .i64 0)).setCell ⟨w.heap.size, 9, none⟩ (.bool false)).setCell ⟨w.heap.size, 10, none⟩ (.slice none 0 0)).setCell ⟨w.heap.size, 11, none⟩ (.int .i64 0)) := below_all hb (Nat.le_refl _) ZM
    clear z0 z1 z2 z3 z4 z5 z6 z7 z8 z9 z10 z11 zf hZ1 hb
    generalize ((((((((((((w1.setCell ⟨w.heap.size, 0, none⟩ (.bool false)).setCell ⟨w.heap.size, 1, none⟩ (.slice none 0 0)).setCell ⟨w.heap.size, 2, none⟩ (.int .i64 0)).setCell ⟨w.heap.size, 3, none⟩ (.bool false)).setCell ⟨w.heap.size, 4, none⟩ (.slice none 0 0)).setCell ⟨w.heap.size, 5, none⟩ (.int .i64 0)).setCell ⟨w.heap.size, 6, none⟩ (.bool false)).setCell ⟨w.heap.size, 7, none⟩ (.slice none 0 0)).setCell ⟨w.heap.size, 8, none⟩ (.int .i64 0)).setCell ⟨w.heap.size, 9, none⟩ (.bool false)).setCell ⟨w.heap.size, 10, none⟩ (.slice none 0 0)).setCell ⟨w.heap.size, 11, none⟩ (.int .i64 0)) = U at *
    obtain ⟨M, hMe⟩ : ∃ M : Mv, M = ZM := ⟨_, rfl⟩
    rw [← hMe] at hX
    obtain ⟨⟨k0, k1, k2, k3, k4, k5, k6, k7, k8, k9, k10, k11⟩, kf⟩ := MBox.cells hX
    refine bodyPost_ret (v := .tuple #[.agg #[.bool M.S.s, .slice M.S.A M.S.n M.S.c, .int .i64 M.S.e, .bool M.W.s, .slice M.W.A M.W.n M.W.c, .int .i64 M.W.e, .bool M.C.s, .slice M.C.A M.C.n M.C.c, .int .i64 M.C.e, .bool M.A.s, .slice M.A.A M.A.n M.A.c, .int .i64 M.A.e], .int .i64 2]) (by simp [results, Tryd.results57, go_sem, k0, k1, k2, k3, k4, k5, k6, k7, k8, k9, k10, k11]) rfl ⟨by rw [hMe]; rfl, hY⟩
open Classical in
/-- What a node begins with, or the error. -/
noncomputable def seedM (x : Int) (first : Bool) : (Nat → Dn) × Int := if x < -2147483647 ∨ 2147483647 < x then (zR, 2) else (seedD x first, 0)
theorem MSeed_num (w : World) (x : Int) (first : Bool) (R : Nat → Dn) (code : Int) (h : seedM x first = (R, code)) :
    Calls Tryd.prog 56 #[.int .i64 x, .bool first] w fun e w' => ∃ m' : Mv, e = .returned (.tuple #[.agg #[.bool m'.S.s, .slice m'.S.A m'.S.n m'.S.c, .int .i64 m'.S.e, .bool m'.W.s, .slice m'.W.A m'.W.n m'.W.c, .int .i64 m'.W.e, .bool m'.C.s, .slice m'.C.A m'.C.n m'.C.c, .int .i64 m'.C.e, .bool m'.A.s, .slice m'.A.A m'.A.n m'.A.c, .int .i64 m'.A.e], .int .i64 code]) ∧ Below w.heap.size w w' ∧ IsM R m' ∧ MRows w' w.heap.size w'.heap.size m' := by
  unfold seedM at h
  split at h
  · rename_i hx
    injection h with h1 h2
    subst h1 h2
    exact (MSeed_bad w x hx first).mono fun _ _ ⟨h1, h2⟩ => ⟨ZM, h1, h2, IsM.zero, ZM_rows ..⟩
  · rename_i hx
    injection h with h1 h2
    subst h1 h2
    exact (MSeed_ok w x (by omega) (by omega) first).mono fun _ _ ⟨m, h1, h2, h3⟩ => ⟨m, h1, h2, fun x hx => (h3 x hx).is, rows_res h3⟩
theorem RSeed_num (w : World) (x : Int) (first : Bool) (R : Nat → Dn) (code : Int) (h : seedM x first = (R, code)) :
    Calls Tryd.prog 57 #[.int .i64 x, .bool first] w fun e w' => ∃ m' : Mv, e = .returned (.tuple #[.agg #[.bool m'.S.s, .slice m'.S.A m'.S.n m'.S.c, .int .i64 m'.S.e, .bool m'.W.s, .slice m'.W.A m'.W.n m'.W.c, .int .i64 m'.W.e, .bool m'.C.s, .slice m'.C.A m'.C.n m'.C.c, .int .i64 m'.C.e, .bool m'.A.s, .slice m'.A.A m'.A.n m'.A.c, .int .i64 m'.A.e], .int .i64 code]) ∧ Below w.heap.size w w' ∧ IsM R m' ∧ MRows w' w.heap.size w'.heap.size m' := by
  unfold seedM at h
  split at h
  · rename_i hx
    injection h with h1 h2
    subst h1 h2
    exact (RSeed_bad w x hx first).mono fun _ _ ⟨h1, h2⟩ => ⟨ZM, h1, h2, IsM.zero, ZM_rows ..⟩
  · rename_i hx
    injection h with h1 h2
    subst h1 h2
    exact (RSeed_ok w x (by omega) (by omega) first).mono fun _ _ ⟨m, h1, h2, h3⟩ => ⟨m, h1, h2, fun x hx => (h3 x hx).is, rows_res h3⟩

end Ma
end Go.Proofs.YtlbkepiflhchdaaDoor

namespace Go.Proofs.YtlbkepiflhchdaaDoor
open Go.RowKit
namespace Ma
open Dp Dy
def WrM (w : World) (lo hi : Nat) (m : Mv) : Prop := ∀ x, x < 4 → 0 < (m.get x).n → ∃ b off, (m.get x).A = some ⟨b, off, none⟩ ∧ lo ≤ b ∧ b < hi ∧ WrD w b off (m.get x).n
theorem WrM.of {w w' : World} {lo hi : Nat} {m : Mv} (h : MRows w lo hi m) (hk : ∀ b, b < hi → w'.heap[b]? = w.heap[b]?) : WrM w' lo hi m := fun x hx h0 => by
  obtain ⟨b, off, e, h1, h2, hc⟩ := (h.get x).row h0
  refine ⟨b, off, e, h1, h2, fun j hj => ?_⟩
  have h3 := hk b h2
  obtain ⟨h4, h5⟩ := hc j hj
  exact ⟨⟨_, by rw [World.cell?_of_block h3]; exact h4⟩, by rw [World.frozen?_of_block h3]; exact h5⟩
theorem WrM.set_ {w : World} {lo hi : Nat} {m : Mv} (h : WrM w lo hi m) (p : Addr) (v : Value) : WrM (w.setCell p v) lo hi m := fun x hx h0 => by
  obtain ⟨b, off, e, h1, h2, hW⟩ := h x hx h0
  exact ⟨b, off, e, h1, h2, hW.set_ _ _⟩
def LBox (w : World) (g : Nat) (m : Mv) : Prop := w.heap[g]? = some (.cells #[.slice m.S.A m.S.n m.S.c, .slice m.W.A m.W.n m.W.c, .slice m.C.A m.C.n m.C.c, .slice m.A.A m.A.n m.A.c] 22 (0, 0))
theorem LBox.at_ {w : World} {g : Nat} {m : Mv} (h : LBox w g m) {i : Nat} (hi : i < 4) : w.cell? ⟨g, i, none⟩ = some (.slice (m.get i).A (m.get i).n (m.get i).c) := by
  unfold LBox at h
  have hi' : i = 0 ∨ i = 1 ∨ i = 2 ∨ i = 3 := by omega
  rcases hi' with rfl | rfl | rfl | rfl
  · exact cell_of_row w g 0 _ _ _ h
  · exact cell_of_row w g 1 _ _ _ h
  · exact cell_of_row w g 2 _ _ _ h
  · exact cell_of_row w g 3 _ _ _ h
set_option maxHeartbeats 12800000 in
set_option maxRecDepth 100000 in
theorem spoilM_any (w : World) (m : Mv) (lo hi : Nat) (h : MRows w lo hi m) (hn : ∀ x, x < 4 → (m.get x).n ≤ 1000000) (hhi : hi ≤ w.heap.size) (hlo : lo ≤ w.heap.size) :
    Calls Tryd.prog 33 #[.agg #[.bool m.S.s, .slice m.S.A m.S.n m.S.c, .int .i64 m.S.e, .bool m.W.s, .slice m.W.A m.W.n m.W.c, .int .i64 m.W.e, .bool m.C.s, .slice m.C.A m.C.n m.C.c, .int .i64 m.C.e, .bool m.A.s, .slice m.A.A m.A.n m.A.c, .int .i64 m.A.e]] w fun e w' => e = .returned (.tuple #[]) ∧ Below lo w w' ∧ From hi w w' := by
  generalize hw : (w.alloc (.cells #[.bool m.S.s, .slice m.S.A m.S.n m.S.c, .int .i64 m.S.e, .bool m.W.s, .slice m.W.A m.W.n m.W.c, .int .i64 m.W.e, .bool m.C.s, .slice m.C.A m.C.n m.C.c, .int .i64 m.C.e, .bool m.A.s, .slice m.A.A m.A.n m.A.c, .int .i64 m.A.e] 39)).alloc (.cells #[.slice m.S.A m.S.n m.S.c, .slice m.W.A m.W.n m.W.c, .slice m.C.A m.C.n m.C.c, .slice m.A.A m.A.n m.A.c] 22) = w1
  obtain ⟨hM, hLB, hBL, lo1, hi1⟩ := boxes2 w _ _ hw
  replace hM : MBox w1 w.heap.size m := hM
  replace hLB : LBox w1 (w.heap.size + 1) m := hLB
  have b1 : Below lo w w1 := hBL.mono hlo
  have f1 : From hi w w1 := fun k _ h2 => hBL.block k h2
  have hW : WrM w1 lo hi m := WrM.of h fun b hb => hBL.block b (by omega)
  clear h hBL
  obtain ⟨⟨k0, k1, k2, k3, k4, k5, k6, k7, k8, k9, k10, k11⟩, kf⟩ := MBox.cells hM
  go_enter Tryd.func33, Tryd.ntmps33
  go_wp2
  clear k0 k1 k2 k3 k4 k5 k6 k7 k8 k9 k10 k11 kf hM
  try clear hw
  go_loopw [3, 4] (fun iv _ wr => ∃ i : Nat, iv = .int .i64 i ∧ i ≤ 4 ∧ LBox wr (w.heap.size + 1) m ∧ Below lo w wr ∧ From hi w wr ∧ WrM wr lo hi m) (fun iv _ _ => 4 - (intOf iv).toNat)
  case atStart => exact ⟨0, rfl, Nat.zero_le _, hLB, b1, f1, hW⟩
  case round =>
    clear hLB b1 f1 hW
    obtain ⟨i, rfl, hi4, hLB, b1, f1, hW⟩ := hrel
    by_cases hlt : i < 4
    · have hwi : IntKind.i64.wrap ((i : Int) + 1) = ((i + 1 : Nat) : Int) := by rw [IntKind.wrap_i64]; omega
      have hni := hn i hlt
      go_wp2
      obtain ⟨wo, rfl⟩ : ∃ wo : World, wo = wr := ⟨_, rfl⟩
      go_loopw [4] (fun kv wr => ∃ k : Nat, kv = .int .i64 k ∧ k ≤ (m.get i).n ∧ LBox wr (w.heap.size + 1) m ∧ Below lo w wr ∧ From hi w wr ∧ WrM wr lo hi m) (fun kv _ => (m.get i).n - (intOf kv).toNat)
      case atStart => exact ⟨0, rfl, Nat.zero_le _, hLB, b1, f1, hW⟩
      case round =>
        clear hLB b1 f1 hW
        obtain ⟨k, rfl, hk, hLB, b1, f1, hW⟩ := hrel
        have q0 := hLB.at_ hlt
        by_cases hkl : k < (m.get i).n
        · obtain ⟨b, off, hA, hb1, hb2, hWr⟩ := hW i hlt (by omega)
          obtain ⟨⟨u, q1⟩, q2⟩ := hWr k hkl
          have hwk : IntKind.i64.wrap ((k : Int) + 1) = ((k + 1 : Nat) : Int) := by rw [IntKind.wrap_i64]; omega
          rw [hA] at q0
          generalize hd : (m.get i).n = n at *
          generalize hc : (m.get i).c = c at *
          go_wp2
          go_roundw
          case rel => exact ⟨k + 1, by first | rfl | (congr 1; omega) | go_num, by omega, (Below.heap_setCell _ _ _ _ (by simp; omega)).trans hLB, b1.setCell hb1 _, f1.setCell hb2 _, hW.set_ _ _⟩
          case measure => first | (simp [intOf]; done) | (simp [intOf]; omega)
        · generalize hA : (m.get i).A = A at *
          generalize hd : (m.get i).n = n at *
          generalize hc : (m.get i).c = c at *
          go_wp2
          go_roundw
          case rel => exact ⟨i + 1, by first | rfl | (congr 1; omega) | go_num, by omega, hLB, b1, f1, hW⟩
          case measure => first | (simp [intOf]; done) | (simp [intOf]; omega)
    · go_wp2
      go_end0
      exact ⟨rfl, b1, f1⟩
end Ma
end Go.Proofs.YtlbkepiflhchdaaDoor
