/- DescTells: the walk. -/
import Derived.Test.YtpjomdkcckamkaaDeRef4
namespace Go.Proofs.Ytpjomdkcckamkaa
open Go.RowKit Go.Sort Go.Shelf
namespace De
theorem Sm_self (xs : List (Int × Int)) : Sm xs xs = true := beq_self_eq_true _
/-- Behind a store into a block of the call's own. -/
theorem below_set {B : Nat} {w w' : World} (h : Below B w w') {p : Addr} (hp : B ≤ p.block) (v : Value) : Below B w (w'.setCell p v) := h.setCell hp v
theorem some_cell {w : World} {rb n : Nat} {A : Option Addr} {xs : List (Int × Int)} (h : Descs w rb (rb + 1) A n xs) {k : Nat} (hk : k < n) : ∃ off v, A = some ⟨rb, off, none⟩ ∧ w.cell? ⟨rb, off + k * 2, none⟩ = some v ∧ w.frozen? ⟨rb, off + k * 2, none⟩ = false := by
  obtain ⟨b, off, e, h1, h2, hc⟩ := h.row (by omega)
  obtain rfl : rb = b := by omega
  obtain ⟨⟨a1, a2⟩, _⟩ := hc k hk
  exact ⟨off, _, e, a1, a2⟩
/-- Block g has cells, none of them frozen, one at least at each of the places off + 2 k, k < n. -/
def Wr (w : World) (g off n : Nat) : Prop := ∀ k, k < n → (∃ v, w.cell? ⟨g, off + k * 2, none⟩ = some v) ∧ w.frozen? ⟨g, off + k * 2, none⟩ = false
theorem Wr.set_ {w : World} {g off n : Nat} (h : Wr w g off n) (p : Addr) (v : Value) : Wr (w.setCell p v) g off n := fun k hk => by
  obtain ⟨⟨u, hu⟩, h2⟩ := h k hk
  refine ⟨?_, by rw [World.frozen?_setCell]; exact h2⟩
  obtain ⟨x, hx⟩ := cell?_setCell_some (w := w) (p := p) (x := v) (q := ⟨g, off + k * 2, none⟩) (v := u) hu
  exact ⟨x, hx⟩
theorem Descs.wr {w : World} {rb n off : Nat} {xs : List (Int × Int)} (h : Descs w rb (rb + 1) (some ⟨rb, off, none⟩) n xs) : Wr w rb off n := fun k hk => by
  obtain ⟨off', v, e, h1, h2⟩ := some_cell h hk
  injection e with e
  injection e with _ e
  subst e
  exact ⟨⟨v, h1⟩, h2⟩

def WrA (w : World) (rb : Nat) (A : Option Addr) (n : Nat) : Prop := ∀ k, k < n → ∃ off v, A = some ⟨rb, off, none⟩ ∧ w.cell? ⟨rb, off + k * 2, none⟩ = some v ∧ w.frozen? ⟨rb, off + k * 2, none⟩ = false
theorem WrA.set_ {w : World} {rb n : Nat} {A : Option Addr} (h : WrA w rb A n) (p : Addr) (v : Value) : WrA (w.setCell p v) rb A n := fun k hk => by
  obtain ⟨off, u, e, hu, h2⟩ := h k hk
  obtain ⟨x, hx⟩ := cell?_setCell_some (w := w) (p := p) (x := v) (q := ⟨rb, off + k * 2, none⟩) (v := u) hu
  exact ⟨off, x, e, hx, by rw [World.frozen?_setCell]; exact h2⟩
theorem Descs.wrA {w : World} {rb n : Nat} {A : Option Addr} {xs : List (Int × Int)} (h : Descs w rb (rb + 1) A n xs) : WrA w rb A n := fun _ hk => some_cell h hk
theorem WrA.grown {w w' : World} {rb n g : Nat} {A : Option Addr} (h : WrA w rb A n) (hg : w.grownBy w' (some g)) (hne : rb ≠ g) (hlt : rb < w.heap.size) : WrA w' rb A n := fun k hk => by
  obtain ⟨off, u, e, hu, h2⟩ := h k hk
  have hb := hg.block rb hlt (fun e => by injection e with e; exact hne e)
  exact ⟨off, u, e, by simp only [World.cell?, hb] at hu ⊢; exact hu, by simp only [World.frozen?, hb] at h2 ⊢; exact h2⟩
theorem Descs.grownOff {w w' : World} {lo hi n g : Nat} {A : Option Addr} {xs : List (Int × Int)} (h : Descs w lo hi A n xs) (hg : w.grownBy w' (some g)) (hne : g < lo ∨ hi ≤ g) (hlt : hi ≤ w.heap.size) : Descs w' lo hi A n xs :=
  h.keep fun p hp hl => by
    have hb := hg.block p.block (by omega) (fun e => by injection e with e; omega)
    exact ⟨by simp only [World.cell?, hb], by simp only [World.frozen?, hb]⟩

theorem SameRb (w : World) (lo hi lo' hi' : Nat) (A A' : Option Addr) (n c n' c' : Nat) (xs ys : List (Int × Int)) (hX : Descs w lo hi A n xs) (hY : Descs w lo' hi' A' n' ys) (r : Bool) (hr : Sm xs ys = r) :
    Calls Try.prog 29 #[.slice A n c, .slice A' n' c'] w fun e w' => e = .returned (.bool r) ∧ Below w.heap.size w w' :=
  (SameR_g w lo hi lo' hi' A A' n c n' c' xs ys hX hY r hr).mono fun e w' ⟨he, m, hm⟩ => ⟨he, by rw [hm]; exact below_of_drewN _ _ _⟩

set_option maxHeartbeats 6400000 in
set_option maxRecDepth 100000 in
theorem descTells_any (w : World) (A0 : Option Addr) (n0 c0 : Nat) (xs : List (Int × Int)) (hX : Descs w 0 w.heap.size A0 n0 xs) (A1 : Option Addr) (n1 c1 : Nat) (ys : List (Int × Int)) (hY : Descs w 0 w.heap.size A1 n1 ys) (a1 a2 b1 b2 : Int) :
    Calls Try.prog 5 #[.slice A0 n0 c0, .slice A1 n1 c1, .agg #[.int .i64 a1, .int .i64 a2], .agg #[.int .i64 b1, .int .i64 b2]] w fun e w' => e = .returned (.bool true) ∧ Below w.heap.size w w' := by
  have fin := ((Below.refl w.heap.size w).alloc (Nat.le_refl _) (.cells #[.int .i64 a1, .int .i64 a2] 29)).alloc (by simp) (.cells #[.int .i64 b1, .int .i64 b2] 29)
  by_cases h70 : n0 > 70
  · go_enter Try.func5, Try.ntmps5
    go_wp2
    go_ret
    exact ⟨rfl, fin⟩
  · by_cases h71 : n1 > 70
    · go_enter Try.func5, Try.ntmps5
      go_wp2
      go_ret
      exact ⟨rfl, fin⟩
    · obtain ⟨i0, hi0, hz0, hz1, hz2⟩ := info_parts Try.info29
      obtain ⟨r, hr⟩ : ∃ r, check xs = r := ⟨_, rfl⟩
      obtain ⟨⟨fb, fc⟩, hf⟩ : ∃ r, fr (a1, a2) (b1, b2) = r := ⟨_, rfl⟩
      obtain ⟨sm, hsm⟩ : ∃ r, Sm xs ys = r := ⟨_, rfl⟩
      have HR := Lib.hid hr
      have HF := Lib.hid hf
      have HS := Lib.hid hsm
      have hrr : (r == r) = true := by simp
      have hd0 : decide ((70 : Int) < n0) = false := by simp; omega
      have hd1 : decide ((70 : Int) < n1) = false := by simp; omega
      have hfc : (fc == fc) = true := by simp
      have hfb : (fb == fb) = true := by simp
      have hss : (sm == sm) = true := by simp
      have hXb := ((hX.alloc (Nat.le_refl _) (.cells #[.int .i64 a1, .int .i64 a2] 29)).alloc (by simp) (.cells #[.int .i64 b1, .int .i64 b2] 29))
      have hYb := ((hY.alloc (Nat.le_refl _) (.cells #[.int .i64 a1, .int .i64 a2] 29)).alloc (by simp) (.cells #[.int .i64 b1, .int .i64 b2] 29))
      clear hr hf hsm
      go_enter Try.func5, Try.ntmps5
      go_wp2_with (first
        | (at_builtin; refine wpList_append_raw _ rfl (.tmp 34) (.tmp 35) 22 rfl (w.heap.size + 2) 29 i0 _ 2 16 Try.underlying22 hi0 hz0 hz1 hz2 rfl (by decide) _ _ _ rfl (own_new (heap_newg _ _ _ (by simp)) (by first | omega | (simp; done) | (simp; omega))) _ _ _ n0 _ _ rfl (hXb.alloc (by simp; omega) _).raw (flatD_one _) ?c2 ?c3 ?c4 ?_))
      case c2 => unfold maxLen; omega
      case c3 => omega
      case c4 => simp
      intro AO cO wA hownO hgO _
      (try simp only [Nat.zero_add, List.nil_append] at hownO)
      have hcA : Below w.heap.size w wA := (fin.alloc (by simp; omega) (.cells #[] 29)).grown hgO (by simp; omega) (fun q hq => by simp [Value.ownBlock] at hq; omega)
      have hk := two_boxes (w := w) (w1 := wA) (x := .int .i64 a1) (y := .int .i64 a2) (z := .int .i64 b1) (u := .int .i64 b2) (t := 29) (t' := 29) (((Below.refl _ _).alloc (Nat.le_refl _) (.cells #[] 29)).grown hgO (by simp) (fun q hq => by simp [Value.ownBlock] at hq; simp; omega))
      obtain ⟨⟨k1, k2, k3, k4⟩, hsA, _⟩ := hk
      have hO0 := Descs.of_own hownO hX.wf (by have := hX.big; omega)
      have O := hO0
      have X := hX.below hcA (Nat.le_refl _)
      have Y := hY.below hcA (Nat.le_refl _)
      have hc := hcA
      have hcO := own_cap hownO
      clear hgO hownO hXb hYb fin hcA hO0 hX hY
      go_wp2_with fail
      refine (Order_any _ _ _ AO n0 cO xs O (Nat.le_refl _) (by omega) r HR.out).mono ?_
      rintro e v1 ⟨Ax, nx, cx, rx, rfl, hcx, hb, hrx, hrx2, Dx⟩
      have hs_v1 := hb.size
      have O := O.below hb (by omega)
      have X := X.below hb (by omega)
      have Y := Y.below hb (by omega)
      have k1 := Below.keepCell hb (by omega) k1
      have k2 := Below.keepCell hb (by omega) k2
      have k3 := Below.keepCell hb (by omega) k3
      have k4 := Below.keepCell hb (by omega) k4
      have hc := hc.trans (hb.mono (by omega))
      clear hb
      have hOx : Hid (0 < nx → wA.heap.size ≤ rx) := hrx
      clear hrx
      go_wp2_with fail
      refine (OrderR_any _ _ _ A0 n0 c0 xs X (by omega) (by omega) r HR.out).mono ?_
      rintro e v2 ⟨Ay, ny, cy, ry, rfl, hcy, hb, hry, hry2, Dy⟩
      have hs_v2 := hb.size
      have O := O.below hb (by omega)
      have X := X.below hb (by omega)
      have Y := Y.below hb (by omega)
      have Dx := Dx.below hb (by omega)
      have k1 := Below.keepCell hb (by omega) k1
      have k2 := Below.keepCell hb (by omega) k2
      have k3 := Below.keepCell hb (by omega) k3
      have k4 := Below.keepCell hb (by omega) k4
      have hc := hc.trans (hb.mono (by omega))
      clear hb
      go_wp2_with fail
      refine (Best_any _ _ _ AO n0 cO xs O (by omega) (by omega) r HR.out).mono ?_
      rintro e v3 ⟨Ap, np, cp, rp, rfl, hcp, hb, hrp, hrp2, Dp⟩
      have hs_v3 := hb.size
      have O := O.below hb (by omega)
      have X := X.below hb (by omega)
      have Y := Y.below hb (by omega)
      have Dx := Dx.below hb (by omega)
      have Dy := Dy.below hb (by omega)
      have k1 := Below.keepCell hb (by omega) k1
      have k2 := Below.keepCell hb (by omega) k2
      have k3 := Below.keepCell hb (by omega) k3
      have k4 := Below.keepCell hb (by omega) k4
      have hc := hc.trans (hb.mono (by omega))
      clear hb
      have hOp : Hid (0 < np → v2.heap.size ≤ rp) := hrp
      clear hrp
      go_wp2_with fail
      refine (BestR_any _ _ _ A0 n0 c0 xs X (by omega) (by omega) r HR.out).mono ?_
      rintro e v4 ⟨Aq, nq', cq, rq, rfl, hcq, hb, hrq, hrq2, Dq⟩
      have hs_v4 := hb.size
      have O := O.below hb (by omega)
      have X := X.below hb (by omega)
      have Y := Y.below hb (by omega)
      have Dx := Dx.below hb (by omega)
      have Dy := Dy.below hb (by omega)
      have Dp := Dp.below hb (by omega)
      have k1 := Below.keepCell hb (by omega) k1
      have k2 := Below.keepCell hb (by omega) k2
      have k3 := Below.keepCell hb (by omega) k3
      have k4 := Below.keepCell hb (by omega) k4
      have hc := hc.trans (hb.mono (by omega))
      clear hb
      go_wp2_with fail
      refine (Fresher_any _ a1 a2 b1 b2 fb fc HF.out).mono ?_
      rintro e v5 ⟨rfl, hb⟩
      have hs_v5 := hb.size
      have O := O.below hb (by omega)
      have X := X.below hb (by omega)
      have Y := Y.below hb (by omega)
      have Dx := Dx.below hb (by omega)
      have Dy := Dy.below hb (by omega)
      have Dp := Dp.below hb (by omega)
      have Dq := Dq.below hb (by omega)
      have k1 := Below.keepCell hb (by omega) k1
      have k2 := Below.keepCell hb (by omega) k2
      have k3 := Below.keepCell hb (by omega) k3
      have k4 := Below.keepCell hb (by omega) k4
      have hc := hc.trans (hb.mono (by omega))
      clear hb
      go_wp2_with fail
      refine (FresherR_g _ a1 a2 b1 b2 fb fc HF.out).mono ?_
      rintro e v6 ⟨rfl, hg⟩
      have hb := hg.below
      clear hg
      have hs_v6 := hb.size
      have O := O.below hb (by omega)
      have X := X.below hb (by omega)
      have Y := Y.below hb (by omega)
      have Dx := Dx.below hb (by omega)
      have Dy := Dy.below hb (by omega)
      have Dp := Dp.below hb (by omega)
      have Dq := Dq.below hb (by omega)
      have hc := hc.trans (hb.mono (by omega))
      clear hb
      clear k1 k2 k3 k4
      go_wp2_with fail
      refine (Check_any _ _ _ AO n0 cO xs O (by omega) (by omega) r HR.out).mono ?_
      rintro e v7 ⟨rfl, hb⟩
      have hs_v7 := hb.size
      have O := O.below hb (by omega)
      have X := X.below hb (by omega)
      have Y := Y.below hb (by omega)
      have Dx := Dx.below hb (by omega)
      have Dy := Dy.below hb (by omega)
      have Dp := Dp.below hb (by omega)
      have Dq := Dq.below hb (by omega)
      have hc := hc.trans (hb.mono (by omega))
      clear hb
      go_wp2_with fail
      refine (CheckR_g _ _ _ A0 n0 c0 xs X (by omega) r HR.out).mono ?_
      rintro e v8 ⟨rfl, hg⟩
      have hb := hg.below
      clear hg
      have hs_v8 := hb.size
      have O := O.below hb (by omega)
      have X := X.below hb (by omega)
      have Y := Y.below hb (by omega)
      have Dx := Dx.below hb (by omega)
      have Dy := Dy.below hb (by omega)
      have Dp := Dp.below hb (by omega)
      have Dq := Dq.below hb (by omega)
      have hc := hc.trans (hb.mono (by omega))
      clear hb
      go_wp2_with fail
      refine (SameRb _ _ _ _ _ Ax Ay nx cx ny cy _ _ Dx Dy true (Sm_self _)).mono ?_
      rintro e v9 ⟨rfl, hb⟩
      have hs_v9 := hb.size
      have O := O.below hb (by omega)
      have X := X.below hb (by omega)
      have Y := Y.below hb (by omega)
      have Dx := Dx.below hb (by omega)
      have Dy := Dy.below hb (by omega)
      have Dp := Dp.below hb (by omega)
      have Dq := Dq.below hb (by omega)
      have hc := hc.trans (hb.mono (by omega))
      clear hb
      go_wp2_with fail
      refine (SameRb _ _ _ _ _ Ap Aq np cp nq' cq _ _ Dp Dq true (Sm_self _)).mono ?_
      rintro e v10 ⟨rfl, hb⟩
      have hs_v10 := hb.size
      have O := O.below hb (by omega)
      have X := X.below hb (by omega)
      have Y := Y.below hb (by omega)
      have Dx := Dx.below hb (by omega)
      have Dy := Dy.below hb (by omega)
      have Dp := Dp.below hb (by omega)
      have Dq := Dq.below hb (by omega)
      have hc := hc.trans (hb.mono (by omega))
      clear hb
      clear Dy Dq
      go_wp2_with fail
      refine (Same_b _ _ _ _ _ AO A1 n0 cO n1 c1 xs ys O Y sm HS.out).mono ?_
      rintro e v11 ⟨rfl, hb⟩
      have hs_v11 := hb.size
      have O := O.below hb (by omega)
      have X := X.below hb (by omega)
      have Y := Y.below hb (by omega)
      have Dx := Dx.below hb (by omega)
      have Dp := Dp.below hb (by omega)
      have hc := hc.trans (hb.mono (by omega))
      clear hb
      go_wp2_with fail
      refine (SameRb _ _ _ _ _ A0 A1 n0 c0 n1 c1 xs ys X Y sm HS.out).mono ?_
      rintro e v12 ⟨rfl, hb⟩
      have hs_v12 := hb.size
      have O := O.below hb (by omega)
      have X := X.below hb (by omega)
      have Y := Y.below hb (by omega)
      have Dx := Dx.below hb (by omega)
      have Dp := Dp.below hb (by omega)
      have hc := hc.trans (hb.mono (by omega))
      clear hb
      go_wp2_with fail
      refine (Same_b _ _ _ _ _ AO A0 n0 cO n0 c0 xs xs O X true (Sm_self _)).mono ?_
      rintro e v13 ⟨rfl, hb⟩
      have hs_v13 := hb.size
      have O := O.below hb (by omega)
      have X := X.below hb (by omega)
      have Y := Y.below hb (by omega)
      have Dx := Dx.below hb (by omega)
      have Dp := Dp.below hb (by omega)
      have hc := hc.trans (hb.mono (by omega))
      clear hb
      clear Y
      have hbx := Dx.big
      have hbp := Dp.big
      obtain ⟨gx, q1, q2, hwx⟩ : ∃ gx, wA.heap.size ≤ gx ∧ (gx < v2.heap.size ∨ v13.heap.size ≤ gx) ∧ WrA v13 gx Ax nx := by
        by_cases h : 0 < nx
        · exact ⟨rx, hOx.out h, .inl (by omega), Dx.wrA⟩
        · exact ⟨v13.heap.size, by omega, .inr (Nat.le_refl _), fun k hk => absurd hk (by omega)⟩
      have hwp := Dp.wrA
      clear Dx HF HS HR
      go_wp2
      go_loopw [24] (fun iv wr => ∃ k : Nat, iv = .int .i64 k ∧ k ≤ nx ∧ WrA wr gx Ax nx ∧ v13.grownBy wr (some gx)) (fun iv _ => nx - (intOf iv).toNat)
      case atStart => exact ⟨0, rfl, Nat.zero_le _, hwx, World.grownBy.refl _ _⟩
      case round =>
        obtain ⟨k, rfl, hk, hw1, hg1⟩ := hrel
        by_cases hlt : k < nx
        · obtain ⟨off, u, rfl, e1, e2⟩ := hw1 k hlt
          have hw2 := hw1.set_ ⟨gx, off + k * 2, none⟩ (.int .i64 (-7))
          have hg2 := only_setCell (p := ⟨gx, off + k * 2, none⟩) hg1 rfl (.int .i64 (-7))
          clear hw1 hg1 hwx
          go_wp2
          go_roundw
          case rel => exact ⟨k + 1, by go_num, by omega, hw2, hg2⟩
          case measure => simp [intOf]; omega
        · obtain rfl : k = nx := by omega
          obtain ⟨v14, rfl⟩ : ∃ wo : World, wo = wr := ⟨_, rfl⟩
          have hs14 := hg1.size
          obtain ⟨gp, q3, hwp2⟩ : ∃ gp, wA.heap.size ≤ gp ∧ WrA v14 gp Ap np := by
            by_cases h : 0 < np
            · have h3 := hOp.out h
              exact ⟨rp, by omega, hwp.grown hg1 (by omega) (by omega)⟩
            · exact ⟨v13.heap.size, by omega, fun k hk => absurd hk (by omega)⟩
          have O := O.grownOff hg1 (.inr q1) (by omega)
          have X := X.grownOff hg1 (.inr (by omega)) (by omega)
          have hc := hc.grown hg1 (by omega) (fun q hq => by injection hq with hq; omega)
          clear hg1 hw1 hwx hwp Dp
          go_wp2
          go_loopw [25] (fun iv wr => ∃ k : Nat, iv = .int .i64 k ∧ k ≤ np ∧ WrA wr gp Ap np ∧ v14.grownBy wr (some gp)) (fun iv _ => np - (intOf iv).toNat)
          case atStart => exact ⟨0, rfl, Nat.zero_le _, hwp2, World.grownBy.refl _ _⟩
          case round =>
            clear hlt hk
            obtain ⟨k2, rfl, hk, hw1, hg1⟩ := hrel
            by_cases hlt : k2 < np
            · obtain ⟨off, u, rfl, e1, e2⟩ := hw1 k2 hlt
              have hw2 := hw1.set_ ⟨gp, off + k2 * 2, none⟩ (.int .i64 (-7))
              have hg2 := only_setCell (p := ⟨gp, off + k2 * 2, none⟩) hg1 rfl (.int .i64 (-7))
              clear hw1 hg1 hwp2
              go_wp2
              go_roundw
              case rel => exact ⟨k2 + 1, by go_num, by omega, hw2, hg2⟩
              case measure => simp [intOf]; omega
            · obtain rfl : k2 = np := by omega
              have hs15 := hg1.size
              have O := O.grownOff hg1 (.inr q3) (by omega)
              have X := X.grownOff hg1 (.inr (by omega)) (by omega)
              have hc := hc.grown hg1 (by omega) (fun q hq => by injection hq with hq; omega)
              clear hg1 hw1 hwp2
              go_wp2_with fail
              refine (SameRb _ _ _ _ _ AO A0 n0 cO n0 c0 xs xs O X true (Sm_self _)).mono ?_
              rintro e v16 ⟨rfl, hb⟩
              have hc := hc.trans (hb.mono (by omega))
              clear hb O X
              go_wp2
              go_ret
              exact ⟨rfl, hc⟩
theorem descTells_row (w : World) (A0 : Option Addr) (n0 c0 : Nat) (xs : List (Int × Int)) (hX : Descs w 0 w.heap.size A0 n0 xs) (_ : n0 ≤ c0) (A1 : Option Addr) (n1 c1 : Nat) (ys : List (Int × Int)) (hY : Descs w 0 w.heap.size A1 n1 ys) (_ : n1 ≤ c1)
    (a1 a2 : Int) (_ : Rng (a1, a2)) (b1 b2 : Int) (_ : Rng (b1, b2)) :
    Calls Try.prog 5 #[.slice A0 n0 c0, .slice A1 n1 c1, .agg #[.int .i64 a1, .int .i64 a2], .agg #[.int .i64 b1, .int .i64 b2]] w fun e w' => e = .returned (.bool true) ∧ Below w.heap.size w w' := descTells_any w A0 n0 c0 xs hX A1 n1 c1 ys hY a1 a2 b1 b2
end De
end Go.Proofs.Ytpjomdkcckamkaa
