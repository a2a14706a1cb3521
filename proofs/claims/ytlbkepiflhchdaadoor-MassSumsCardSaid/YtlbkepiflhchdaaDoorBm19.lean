/- The plain laws of MassWhole and MassGroup. No program in sight. -/
/- headcountlaw06.half and alive: walks (printed by a program of mine). -/
/- headcountlaw06.spoil: a walk (printed by a program of mine). -/
/- Small laws that shorten walks over masses (printed by a program of mine). -/
import Derived.Test.YtlbkepiflhchdaaDoorBm18
import Derived.Test.YtlbkepiflhchdaaDoorBm09
import Derived.Test.YtlbkepiflhchdaaDoorBm16
namespace Go.Proofs.YtlbkepiflhchdaaDoor
open Go.RowKit
namespace Ma
open Dp Dy
theorem IsM.of_eq {R S : Nat → Dn} {m : Mv} (h : IsM R m) (he : ∀ x, x < 4 → S x = R x) : IsM S m := fun x hx => by rw [he x hx]; exact h x hx
theorem splitM_may {w : World} {lo hi : Nat} {m : Mv} (hR : MRows w lo hi m) {kR sR : Nat → Dn} {code : Int} (h : splitM m = ((kR, sR), code)) : MayR kR ∧ MayR sR := by
  unfold splitM at h
  split at h
  · rename_i hm
    split at h
    · injection h with h1 h2
      injection h1 with h1 h3
      subst h1 h3
      exact ⟨four (halfX_may ..) (halfX_may ..) (dnM_may hR hm 2 (by decide)) (dnM_may hR hm 3 (by decide)), four (halfX_may ..) (halfX_may ..) zero_may zero_may⟩
    · injection h with h1 h2
      injection h1 with h1 h3
      subst h1 h3
      exact ⟨zR_may, zR_may⟩
  · injection h with h1 h2
    injection h1 with h1 h3
    subst h1 h3
    exact ⟨zR_may, zR_may⟩
theorem split_codes {m : Mv} {kR sR : Nat → Dn} {code : Int} (h : splitM m = ((kR, sR), code)) : code = 0 ∨ (code = 8 ∧ ¬ m.may ∧ kR = zR ∧ sR = zR) ∨ (code = 10 ∧ m.may ∧ kR = zR ∧ sR = zR) := by
  unfold splitM at h
  split at h
  · rename_i hm
    split at h
    · injection h with h1 h2
      exact .inl h2.symm
    · injection h with h1 h2
      injection h1 with h1 h3
      exact .inr (.inr ⟨h2.symm, hm, h1.symm, h3.symm⟩)
  · rename_i hm
    injection h with h1 h2
    injection h1 with h1 h3
    exact .inr (.inl ⟨h2.symm, hm, h1.symm, h3.symm⟩)
/-- What is kept and what is sent are the whole. -/
theorem whole_law {w : World} {lo hi : Nat} {m k s : Mv} (hR : MRows w lo hi m) {kR sR : Nat → Dn} (h : splitM m = ((kR, sR), 0)) (hk : IsM kR k) (hs : IsM sR s) :
    ∃ T, addM k s = (T, 0) ∧ IsM T m ∧ kR 0 = sR 0 ∧ kR 1 = sR 1 := by
  obtain ⟨mk, ms⟩ := splitM_may hR h
  unfold splitM at h
  split at h
  · rename_i hm
    split at h
    · rename_i hc
      injection h with h1 h2
      injection h1 with h1 h3
      have hI := IsM.of hR hm
      have hM := dnM_may hR hm
      have a0 : halfD (dnM m 0) = halfX m.S.s m.S.xs m.S.e := ((hI 0 (by decide)).half (hM 0 (by decide))).symm
      have a1 : halfD (dnM m 1) = halfX m.W.s m.W.xs m.W.e := ((hI 1 (by decide)).half (hM 1 (by decide))).symm
      obtain ⟨T, e, hT⟩ := addM_of hk hs mk ms (T := dnM m) (by
        subst h1 h3
        refine four ?_ ?_ (add_zero (hM 2 (by decide))) (add_zero (hM 3 (by decide)))
        · have := (half_twice (hM 0 (by decide)) (by rw [a0]; exact hc.1)).1
          rw [a0] at this
          exact this
        · have := (half_twice (hM 1 (by decide)) (by rw [a1]; exact hc.2)).1
          rw [a1] at this
          exact this)
      refine ⟨T, e, hI.of_eq hT, ?_, ?_⟩ <;> (subst h1 h3; rfl)
    · injection h with h1 h2
      omega
  · injection h with h1 h2
    omega
theorem xAdd_comm (a b : Mv) (j : Nat) : xAdd a b j = xAdd b a j := by
  unfold xAdd addX
  by_cases hm : MayD (a.get j).s (a.get j).xs (a.get j).e ∧ MayD (b.get j).s (b.get j).xs (b.get j).e
  · rw [if_pos hm, if_pos ⟨hm.2, hm.1⟩, add_comm]
  · rw [if_neg hm, if_neg fun k => hm ⟨k.2, k.1⟩]
theorem addM_comm (a b : Mv) : addM a b = addM b a := by
  unfold addM
  simp only [xAdd_comm a b]
  by_cases h : a.may ∧ b.may
  · rw [if_pos h, if_pos (⟨h.2, h.1⟩ : b.may ∧ a.may)]
    by_cases hc : ∀ j, j < 4 → (xAdd b a j).2 = 0
    · rw [if_pos hc, if_pos hc]
    · rw [if_neg hc, if_neg hc]
  · rw [if_neg h, if_neg (fun k => h ⟨k.2, k.1⟩ : ¬ (b.may ∧ a.may))]
theorem addM_codes {a b : Mv} {R : Nat → Dn} {code : Int} (h : addM a b = (R, code)) : code = 0 ∨ (code = 8 ∧ ¬ (a.may ∧ b.may) ∧ R = zR) ∨ (code = 10 ∧ (a.may ∧ b.may) ∧ R = zR) := by
  unfold addM at h
  split at h
  · rename_i hm
    split at h
    · injection h with h1 h2
      exact .inl h2.symm
    · injection h with h1 h2
      exact .inr (.inr ⟨h2.symm, hm, h1.symm⟩)
  · rename_i hm
    injection h with h1 h2
    exact .inr (.inl ⟨h2.symm, hm, h1.symm⟩)
theorem addM_zero {a b : Mv} {R : Nat → Dn} (h : addM a b = (R, 0)) : a.may ∧ b.may ∧ ∀ j, j < 4 → xAdd a b j = (R j, 0) := by
  unfold addM at h
  split at h
  · rename_i hm
    split at h
    · rename_i hc
      injection h with h1 h2
      subst h1
      exact ⟨hm.1, hm.2, fun j hj => by rw [← hc j hj]⟩
    · injection h with h1 h2
      omega
  · injection h with h1 h2
    omega
/-- Differences undo sums. -/
theorem back_law {w : World} {lo hi lo' hi' : Nat} {a b x : Mv} (hA : MRows w lo hi a) (hB : MRows w lo' hi' b) {R : Nat → Dn} (h : addM a b = (R, 0)) (hx : IsM R x) :
    ∃ T, subM x b = (T, 0) ∧ IsM T a := by
  obtain ⟨ma, mb, hj⟩ := addM_zero h
  have mR : MayR R := by have := addM_may a b; rw [h] at this; exact this
  have ia := IsM.of hA ma
  have ib := IsM.of hB mb
  have ha := dnM_may hA ma
  have hb := dnM_may hB mb
  have key : ∀ j, j < 4 → xSub x b j = (dnM a j, 0) := fun j hj4 => by
    rw [hx.sub ib mR hb hj4]
    have e : addD (dnM a j) (dnM b j) = (R j, 0) := by rw [← ia.add ib ha hb hj4]; exact hj j hj4
    have := add_back (ha j hj4) (b := dnM b j) (by rw [e])
    rw [e] at this
    exact this
  refine ⟨fun j => (xSub x b j).1, ?_, fun j hj4 => by show Is (xSub x b j).1 _; rw [key j hj4]; exact ia j hj4⟩
  unfold subM
  rw [if_pos ⟨hx.may mR, mb⟩, if_pos fun j hj4 => by rw [key j hj4]]
end Ma
end Go.Proofs.YtlbkepiflhchdaaDoor

namespace Go.Proofs.YtlbkepiflhchdaaDoor
open Go.RowKit
namespace Ma
open Dp Dy
theorem MRows.on {w w' : World} {m : Mv} (h : MRows w 0 w.heap.size m) (hb : Below w.heap.size w w') : MRows w' 0 w'.heap.size m := (h.below hb (Nat.le_refl _)).more (Nat.le_refl _) hb.size
theorem hal1 : halfD ⟨false, 1, 0⟩ = (⟨false, 1, 1⟩, 0) := formed_of (K := 1) (may_small _ _ _ (by decide) (by decide) (by decide) (by decide)) (by decide) (by decide) (by decide)
theorem hal6 : halfD ⟨false, 6, 0⟩ = (⟨false, 3, 0⟩, 0) := formed_of (K := 1) (may_small _ _ _ (by decide) (by decide) (by decide) (by decide)) (by decide) (by decide) (by decide)
def aR (j : Nat) : Dn := match j with
  | 0 => ⟨false, 6, 0⟩
  | 1 => ⟨false, 1, 0⟩
  | 2 => ⟨false, 1, 0⟩
  | _ => ⟨false, 6, 0⟩
theorem aR_may : MayR aR := four (may_small _ _ _ (by decide) (by decide) (by decide) (by decide)) (may_small _ _ _ (by decide) (by decide) (by decide) (by decide)) (may_small _ _ _ (by decide) (by decide) (by decide) (by decide)) (may_small _ _ _ (by decide) (by decide) (by decide) (by decide))
end Ma
end Go.Proofs.YtlbkepiflhchdaaDoor

namespace Go.Proofs.YtlbkepiflhchdaaDoor
open Go.RowKit
namespace Ma
open Dp Dy
def WrM (w : World) (lo hi : Nat) (m : Mv) : Prop := ∀ x, x < 4 → 0 < (m.get x).n → ∃ b off, (m.get x).A = some ⟨b, off, none⟩ ∧ lo ≤ b ∧ b < hi ∧ WrD w b off (m.get x).n
theorem WrM.of {w w' : World} {lo hi : Nat} {m : Mv} (h : MRows w lo hi m) (hk : ∀ b, b < hi → w'.heap[b]? = w.heap[b]?) : WrM w' lo hi m := fun x hx h0 => by
  obtain ⟨b, off, e, h1, h2, hc⟩ := (h.get x).row h0
  refine ⟨b, off, e, h1, h2, fun j hj => ?_⟩
  have h3 := hk b h2
  obtain ⟨h4, h5⟩ := hc j hj
  exact ⟨⟨_, by rw [World.cell?_of_block h3]; exact h4⟩, by rw [World.frozen?_of_block h3]; exact h5⟩
theorem WrM.set_ {w : World} {lo hi : Nat} {m : Mv} (h : WrM w lo hi m) (p : Addr) (v : Value) : WrM (w.setCell p v) lo hi m := fun x hx h0 => by
  obtain ⟨b, off, e, h1, h2, hW⟩ := h x hx h0
  exact ⟨b, off, e, h1, h2, hW.set_ _ _⟩
def LBox (w : World) (g : Nat) (m : Mv) : Prop := w.heap[g]? = some (.cells #[.slice m.S.A m.S.n m.S.c, .slice m.W.A m.W.n m.W.c, .slice m.C.A m.C.n m.C.c, .slice m.A.A m.A.n m.A.c] 22 (0, 0))
theorem LBox.at_ {w : World} {g : Nat} {m : Mv} (h : LBox w g m) {i : Nat} (hi : i < 4) : w.cell? ⟨g, i, none⟩ = some (.slice (m.get i).A (m.get i).n (m.get i).c) := by
  unfold LBox at h
  have hi' : i = 0 ∨ i = 1 ∨ i = 2 ∨ i = 3 := by omega
  rcases hi' with rfl | rfl | rfl | rfl
  · exact cell_of_row w g 0 _ _ _ h
  · exact cell_of_row w g 1 _ _ _ h
  · exact cell_of_row w g 2 _ _ _ h
  · exact cell_of_row w g 3 _ _ _ h
set_option maxHeartbeats 12800000 in
set_option maxRecDepth 100000 in
theorem spoilM_any (w : World) (m : Mv) (lo hi : Nat) (h : MRows w lo hi m) (hn : ∀ x, x < 4 → (m.get x).n ≤ 1000000) (hhi : hi ≤ w.heap.size) (hlo : lo ≤ w.heap.size) :
    Calls Tryd.prog 33 #[.agg #[.bool m.S.s, .slice m.S.A m.S.n m.S.c, .int .i64 m.S.e, .bool m.W.s, .slice m.W.A m.W.n m.W.c, .int .i64 m.W.e, .bool m.C.s, .slice m.C.A m.C.n m.C.c, .int .i64 m.C.e, .bool m.A.s, .slice m.A.A m.A.n m.A.c, .int .i64 m.A.e]] w fun e w' => e = .returned (.tuple #[]) ∧ Below lo w w' ∧ From hi w w' := by
  generalize hw : (w.alloc (.cells #[.bool m.S.s, .slice m.S.A m.S.n m.S.c, .int .i64 m.S.e, .bool m.W.s, .slice m.W.A m.W.n m.W.c, .int .i64 m.W.e, .bool m.C.s, .slice m.C.A m.C.n m.C.c, .int .i64 m.C.e, .bool m.A.s, .slice m.A.A m.A.n m.A.c, .int .i64 m.A.e] 39)).alloc (.cells #[.slice m.S.A m.S.n m.S.c, .slice m.W.A m.W.n m.W.c, .slice m.C.A m.C.n m.C.c, .slice m.A.A m.A.n m.A.c] 22) = w1
  obtain ⟨hM, hLB, hBL, lo1, hi1⟩ := boxes2 w _ _ hw
  replace hM : MBox w1 w.heap.size m := hM
  replace hLB : LBox w1 (w.heap.size + 1) m := hLB
  have b1 : Below lo w w1 := hBL.mono hlo
  have f1 : From hi w w1 := fun k _ h2 => hBL.block k h2
  have hW : WrM w1 lo hi m := WrM.of h fun b hb => hBL.block b (by omega)
  clear h hBL
  obtain ⟨⟨k0, k1, k2, k3, k4, k5, k6, k7, k8, k9, k10, k11⟩, kf⟩ := MBox.cells hM
  go_enter Tryd.func33, Tryd.ntmps33
  go_wp2
  clear k0 k1 k2 k3 k4 k5 k6 k7 k8 k9 k10 k11 kf hM
  try clear hw
  go_loopw [3, 4] (fun iv _ wr => ∃ i : Nat, iv = .int .i64 i ∧ i ≤ 4 ∧ LBox wr (w.heap.size + 1) m ∧ Below lo w wr ∧ From hi w wr ∧ WrM wr lo hi m) (fun iv _ _ => 4 - (intOf iv).toNat)
  case atStart => exact ⟨0, rfl, Nat.zero_le _, hLB, b1, f1, hW⟩
  case round =>
    clear hLB b1 f1 hW
    obtain ⟨i, rfl, hi4, hLB, b1, f1, hW⟩ := hrel
    by_cases hlt : i < 4
    · have hwi : IntKind.i64.wrap ((i : Int) + 1) = ((i + 1 : Nat) : Int) := by rw [IntKind.wrap_i64]; omega
      have hni := hn i hlt
      go_wp2
      obtain ⟨wo, rfl⟩ : ∃ wo : World, wo = wr := ⟨_, rfl⟩
      go_loopw [4] (fun kv wr => ∃ k : Nat, kv = .int .i64 k ∧ k ≤ (m.get i).n ∧ LBox wr (w.heap.size + 1) m ∧ Below lo w wr ∧ From hi w wr ∧ WrM wr lo hi m) (fun kv _ => (m.get i).n - (intOf kv).toNat)
      case atStart => exact ⟨0, rfl, Nat.zero_le _, hLB, b1, f1, hW⟩
      case round =>
        clear hLB b1 f1 hW
        obtain ⟨k, rfl, hk, hLB, b1, f1, hW⟩ := hrel
        have q0 := hLB.at_ hlt
        by_cases hkl : k < (m.get i).n
        · obtain ⟨b, off, hA, hb1, hb2, hWr⟩ := hW i hlt (by omega)
          obtain ⟨⟨u, q1⟩, q2⟩ := hWr k hkl
          have hwk : IntKind.i64.wrap ((k : Int) + 1) = ((k + 1 : Nat) : Int) := by rw [IntKind.wrap_i64]; omega
          rw [hA] at q0
          generalize hd : (m.get i).n = n at *
          generalize hc : (m.get i).c = c at *
          go_wp2
          go_roundw
          case rel => exact ⟨k + 1, by first | rfl | (congr 1; omega) | go_num, by omega, (Below.heap_setCell _ _ _ _ (by simp; omega)).trans hLB, b1.setCell hb1 _, f1.setCell hb2 _, hW.set_ _ _⟩
          case measure => first | (simp [intOf]; done) | (simp [intOf]; omega)
        · generalize hA : (m.get i).A = A at *
          generalize hd : (m.get i).n = n at *
          generalize hc : (m.get i).c = c at *
          go_wp2
          go_roundw
          case rel => exact ⟨i + 1, by first | rfl | (congr 1; omega) | go_num, by omega, hLB, b1, f1, hW⟩
          case measure => first | (simp [intOf]; done) | (simp [intOf]; omega)
    · go_wp2
      go_end0
      exact ⟨rfl, b1, f1⟩
end Ma
end Go.Proofs.YtlbkepiflhchdaaDoor

namespace Go.Proofs.YtlbkepiflhchdaaDoor
open Go.RowKit
namespace Ma
open Dp Dy
theorem alloc_m (w : World) (m : Mv) : ∃ U, w.alloc (.cells #[.bool m.S.s, .slice m.S.A m.S.n m.S.c, .int .i64 m.S.e, .bool m.W.s, .slice m.W.A m.W.n m.W.c, .int .i64 m.W.e, .bool m.C.s, .slice m.C.A m.C.n m.C.c, .int .i64 m.C.e, .bool m.A.s, .slice m.A.A m.A.n m.A.c, .int .i64 m.A.e] 39) = U ∧ MBox U w.heap.size m ∧ Below w.heap.size w U ∧ w.heap.size < U.heap.size :=
  ⟨_, rfl, heap_alloc_last _ _, (Below.refl _ w).alloc (Nat.le_refl _) _, by simp⟩
theorem alloc_z (w : World) : ∃ U, w.alloc (.cells #[.bool false, .slice none 0 0, .int .i64 0, .bool false, .slice none 0 0, .int .i64 0, .bool false, .slice none 0 0, .int .i64 0, .bool false, .slice none 0 0, .int .i64 0] 39) = U ∧ MBox U w.heap.size ZM ∧ Below w.heap.size w U ∧ w.heap.size < U.heap.size :=
  ⟨_, rfl, heap_alloc_last _ _, (Below.refl _ w).alloc (Nat.le_refl _) _, by simp⟩
theorem alloc_mm (w : World) (m n : Mv) : ∃ U, (w.alloc (.cells #[.bool m.S.s, .slice m.S.A m.S.n m.S.c, .int .i64 m.S.e, .bool m.W.s, .slice m.W.A m.W.n m.W.c, .int .i64 m.W.e, .bool m.C.s, .slice m.C.A m.C.n m.C.c, .int .i64 m.C.e, .bool m.A.s, .slice m.A.A m.A.n m.A.c, .int .i64 m.A.e] 39)).alloc (.cells #[.bool n.S.s, .slice n.S.A n.S.n n.S.c, .int .i64 n.S.e, .bool n.W.s, .slice n.W.A n.W.n n.W.c, .int .i64 n.W.e, .bool n.C.s, .slice n.C.A n.C.n n.C.c, .int .i64 n.C.e, .bool n.A.s, .slice n.A.A n.A.n n.A.c, .int .i64 n.A.e] 39) = U ∧ MBox U w.heap.size m ∧ MBox U (w.heap.size + 1) n ∧ Below w.heap.size w U ∧ w.heap.size + 2 ≤ U.heap.size := by
  obtain ⟨h1, h2, h3, h4, _⟩ := boxes2 w _ _ rfl
  exact ⟨_, rfl, h1, h2, h3, h4⟩
theorem all_to {w : World} {g : Nat} {m0 : Mv} (h : MBox w g m0) (m : Mv) : ∃ U, ((((((((((((w.setCell ⟨g, 0, none⟩ (.bool m.S.s)).setCell ⟨g, 1, none⟩ (.slice m.S.A m.S.n m.S.c)).setCell ⟨g, 2, none⟩ (.int .i64 m.S.e)).setCell ⟨g, 3, none⟩ (.bool m.W.s)).setCell ⟨g, 4, none⟩ (.slice m.W.A m.W.n m.W.c)).setCell ⟨g, 5, none⟩ (.int .i64 m.W.e)).setCell ⟨g, 6, none⟩ (.bool m.C.s)).setCell ⟨g, 7, none⟩ (.slice m.C.A m.C.n m.C.c)).setCell ⟨g, 8, none⟩ (.int .i64 m.C.e)).setCell ⟨g, 9, none⟩ (.bool m.A.s)).setCell ⟨g, 10, none⟩ (.slice m.A.A m.A.n m.A.c)).setCell ⟨g, 11, none⟩ (.int .i64 m.A.e)) = U ∧ MBox U g m ∧ (∀ w0 B, Below B w0 w → B ≤ g → Below B w0 U) ∧ (∀ j, j ≠ g → U.heap[j]? = w.heap[j]?) ∧ U.heap.size ≤ w.heap.size ∧ w.heap.size ≤ U.heap.size :=
  ⟨_, rfl, h.all m, fun _ _ hb hg => below_all hb hg m, fun _ hj => far_all hj m, Nat.le_of_eq (size_all m), Nat.le_of_eq (size_all m).symm⟩
theorem zero_to {w : World} {g : Nat} {m0 : Mv} (h : MBox w g m0) : ∃ U M, ((((((((((((w.setCell ⟨g, 0, none⟩ (.bool false)).setCell ⟨g, 1, none⟩ (.slice none 0 0)).setCell ⟨g, 2, none⟩ (.int .i64 0)).setCell ⟨g, 3, none⟩ (.bool false)).setCell ⟨g, 4, none⟩ (.slice none 0 0)).setCell ⟨g, 5, none⟩ (.int .i64 0)).setCell ⟨g, 6, none⟩ (.bool false)).setCell ⟨g, 7, none⟩ (.slice none 0 0)).setCell ⟨g, 8, none⟩ (.int .i64 0)).setCell ⟨g, 9, none⟩ (.bool false)).setCell ⟨g, 10, none⟩ (.slice none 0 0)).setCell ⟨g, 11, none⟩ (.int .i64 0)) = U ∧ M = ZM ∧ MBox U g M ∧ (∀ w0 B, Below B w0 w → B ≤ g → Below B w0 U) ∧ (∀ j, j ≠ g → U.heap[j]? = w.heap[j]?) ∧ U.heap.size ≤ w.heap.size ∧ w.heap.size ≤ U.heap.size :=
  ⟨_, ZM, rfl, rfl, h.all ZM, fun _ _ hb hg => below_all hb hg ZM, fun _ hj => far_all hj ZM, Nat.le_of_eq (size_all ZM), Nat.le_of_eq (size_all ZM).symm⟩
end Ma
end Go.Proofs.YtlbkepiflhchdaaDoor
