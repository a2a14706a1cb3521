/- What the chapter's part tells: numbers. No program in sight. -/
import Derived.Test.YtmbppgjhdcmckaaDoorQuP2
namespace Go.Proofs.YtmbppgjhdcmckaaDoor
open Go.RowKit
namespace Ma
open Dp Dy
def fourR (a b c d : Dn) (x : Nat) : Dn := if x = 0 then a else if x = 1 then b else if x = 2 then c else d
theorem fourR_may {a b c d : Dn} (ha : a.May) (hb : b.May) (hc : c.May) (hd : d.May) : MayR (fourR a b c d) := four ha hb hc hd
theorem fourR_is {a b c d : Dn} {m : Mv} (ha : Is a m.S) (hb : Is b m.W) (hc : Is c m.C) (hd : Is d m.A) : IsM (fourR a b c d) m := four ha hb hc hd
theorem is_over {x : Dv} {m e : Nat} (h1 : x.s = false) (h2 : x.e = (e : Int)) (h3 : x.xs = [(m : Int)]) (h0 : m ≠ 0) (hm : m < 4294967296) : Is ⟨false, m, e⟩ x := ⟨h1, h2, h3.trans (canon_one m h0 hm).symm⟩
/-- A part of these numbers that may be. -/
theorem part_may {w : World} {lo hi : Nat} {p : Pv} {R : Nat → Dn} (hR : PRows w lo hi p) (h : IsM R p.M) (hr : MayR R) (hn : (R 1).neg = false) (h0 : (R 1).m = 0 → (R 0).m = 0) (hE : mayE p.h p.mn p.mx = true) (hC : Least.checkCode p.xs = 0) : mayP p = true := by
  have hs : p.M.share := (share_is hR.1 h hr).2 ⟨hn, h0⟩
  unfold mayP
  rw [badS_one.2 hs, hE, hC]
  rfl
theorem above_of {w : World} {lo hi : Nat} {b : Dn} {y : Dv} (hI : Ints w lo hi .u32 y.A y.n y.xs) (hy : Is b y) (hn : b.neg = false) (h0 : b.m ≠ 0) : aboveV y = true := by
  have h : y.n ≠ 0 := fun h => h0 ((hy.len hI).1 h)
  unfold aboveV
  rw [hy.1, hn]
  simp
  omega
theorem parts_at {w : World} {lo' hi' : Nat} {a b lo hi : Dn} {x y : Dv} {k : Nat} (hI : Ints w lo' hi' .u32 y.A y.n y.xs) (hx : Is a x) (hy : Is b y) (ha : a.May) (hb : b.May) (hn : b.neg = false) (h0 : b.m ≠ 0) (hk : k ≤ 64)
    (h1 : toD a b k a.neg = (lo, 0)) (h2 : toD a b k (!a.neg) = (hi, 0)) : partsX x y k = (lo, hi, 0) := by
  unfold partsX
  rw [if_neg (by rw [above_of hI hy hn h0]; simp), hx.1, hx.2.1, hx.2.2, hy.1, hy.2.1, hy.2.2, toX_dn ha hb hn h0 hk, toX_dn ha hb hn h0 hk, h1, h2]
  rfl
theorem count_at {w : World} {lo' hi' : Nat} {b n : Dn} {y : Dv} (hI : Ints w lo' hi' .u32 y.A y.n y.xs) (hy : Is b y) (hb : b.May) (hn : b.neg = false) (h0 : b.m ≠ 0) (h : nearD ⟨false, 1, 0⟩ b = (n, 0)) : countX y = (n, n, 0) := by
  have e : nearX false (canon 4294967296 1) 0 y.s y.xs y.e = (n, 0) := by
    rw [hy.1, hy.2.1, hy.2.2]
    exact (nearX_dn (a := ⟨false, 1, 0⟩) (sm 1 0 (by decide) (by decide) (by decide) (by decide)) hb hn h0).trans h
  unfold countX
  rw [if_neg (by rw [above_of hI hy hn h0]; simp), e]
  rfl
theorem ask_at {p : Pv} {kind k : Int} (hm : mayP p = true) (h0 : 0 ≤ k) (h1 : k ≤ 64) : askQ p kind k = kindX p kind k := by
  unfold askQ
  rw [if_neg (by rw [hm]; simp), if_neg (by omega)]
theorem isD_yes {r : Dn} {d : Dv} (h : Is r d) : isD r d = true := by
  unfold isD
  rw [h.1, h.2.1, h.2.2]
  exact Pa.Dy.same_refl _
theorem told_yes {T : Dn × Dn × Int} {lo hi : Dn} {a b : Dv} (h : T = (lo, hi, 0)) (ha : Is lo a) (hb : Is hi b) : toldB T a b = true := by
  rw [h]
  unfold toldB
  rw [isD_yes ha, isD_yes hb]
  rfl
theorem qn1  : toD (⟨false, 5, 0⟩ : Dn) (⟨false, 2, 0⟩ : Dn) 0 false = ((⟨false, 2, 0⟩ : Dn), 0) := by
  exact formed_of (K := 0) (sm _ _ (by decide) (by decide) (by decide) (by decide)) (by decide) (by decide) (by decide)
theorem qn2  : toD (⟨false, 5, 0⟩ : Dn) (⟨false, 2, 0⟩ : Dn) 0 true = ((⟨false, 3, 0⟩ : Dn), 0) := by
  exact formed_of (K := 0) (sm _ _ (by decide) (by decide) (by decide) (by decide)) (by decide) (by decide) (by decide)
theorem qn3 (b : Bool) : toD (⟨false, 5, 0⟩ : Dn) (⟨false, 2, 0⟩ : Dn) 1 b = ((⟨false, 5, 1⟩ : Dn), 0) := by
  cases b <;> exact formed_of (K := 1) (sm _ _ (by decide) (by decide) (by decide) (by decide)) (by decide) (by decide) (by decide)
theorem qn4 (b : Bool) : toD (⟨false, 3, 0⟩ : Dn) (⟨false, 1, 2⟩ : Dn) 9 b = ((⟨false, 12, 0⟩ : Dn), 0) := by
  cases b <;> exact formed_of (K := 9) (sm _ _ (by decide) (by decide) (by decide) (by decide)) (by decide) (by decide) (by decide)
theorem qn5 : nearD ⟨false, 1, 0⟩ (⟨false, 1, 2⟩ : Dn) = ((⟨false, 4, 0⟩ : Dn), 0) := formed_of (K := 0) (sm _ _ (by decide) (by decide) (by decide) (by decide)) (by decide) (by decide) (by decide)
theorem qn6 : nearD ⟨false, 1, 0⟩ (⟨false, 3, 3⟩ : Dn) = ((⟨false, 3, 0⟩ : Dn), 0) := formed_of (K := 0) (sm _ _ (by decide) (by decide) (by decide) (by decide)) (by decide) (by decide) (by decide)
/-- The chapter's part. -/
def heldR : Nat → Dn := fourR ⟨false, 5, 0⟩ ⟨false, 2, 0⟩ ⟨false, 1, 2⟩ ⟨false, 3, 0⟩
def HeldP (p : Pv) : Prop := IsM heldR p.M ∧ p.h = false ∧ p.mn = 0 ∧ p.mx = 0 ∧ p.n = 0 ∧ p.xs = []
theorem heldR_may : MayR heldR := fourR_may (sm _ _ (by decide) (by decide) (by decide) (by decide)) (sm _ _ (by decide) (by decide) (by decide) (by decide)) (sm _ _ (by decide) (by decide) (by decide) (by decide)) (sm _ _ (by decide) (by decide) (by decide) (by decide))
section
variable {w : World} {lo hi : Nat} {p : Pv} (hR : PRows w lo hi p) (h : HeldP p)
include hR h
theorem held_may : mayP p = true := by
  obtain ⟨a, b, c, d, _, e⟩ := h
  exact part_may hR a heldR_may rfl (fun h => absurd h (by decide)) (by rw [b, c, d]; rfl) (by rw [e]; rfl)
theorem qa1 : askQ p 1 0 = (⟨false, 4, 0⟩, ⟨false, 4, 0⟩, 0) := (ask_at (held_may hR h) (by decide) (by decide)).trans (count_at hR.1.C (h.1 2 (by decide)) (heldR_may 2 (by decide)) rfl (by decide) qn5)
theorem qa2 : askQ p 2 9 = (⟨false, 12, 0⟩, ⟨false, 12, 0⟩, 0) := (ask_at (held_may hR h) (by decide) (by decide)).trans (parts_at (k := 9) hR.1.C (h.1 3 (by decide)) (h.1 2 (by decide)) (heldR_may 3 (by decide)) (heldR_may 2 (by decide)) rfl (by decide) (by decide) (qn4 _) (qn4 _))
theorem qa3 : askQ p 3 0 = (⟨false, 2, 0⟩, ⟨false, 3, 0⟩, 0) := (ask_at (held_may hR h) (by decide) (by decide)).trans (parts_at (k := 0) hR.1.W (h.1 0 (by decide)) (h.1 1 (by decide)) (heldR_may 0 (by decide)) (heldR_may 1 (by decide)) rfl (by decide) (by decide) qn1 qn2)
theorem qa4 : askQ p 3 1 = (⟨false, 5, 1⟩, ⟨false, 5, 1⟩, 0) := (ask_at (held_may hR h) (by decide) (by decide)).trans (parts_at (k := 1) hR.1.W (h.1 0 (by decide)) (h.1 1 (by decide)) (heldR_may 0 (by decide)) (heldR_may 1 (by decide)) rfl (by decide) (by decide) (qn3 _) (qn3 _))
end
theorem qa5 {w : World} {lo hi : Nat} {x : Dv} (hI : Ints w lo hi .u32 x.A x.n x.xs) (h : Is ⟨false, 3, 3⟩ x) : askQ ⟨⟨ZDv, ZDv, x, ZDv⟩, false, 0, 0, none, 0, 0, []⟩ 1 0 = (⟨false, 3, 0⟩, ⟨false, 3, 0⟩, 0) := by
  have hm : mayP ⟨⟨ZDv, ZDv, x, ZDv⟩, false, 0, 0, none, 0, 0, []⟩ = true :=
    part_may (R := fourR Dn.zero Dn.zero ⟨false, 3, 3⟩ Dn.zero) (w := w) (lo := lo) (hi := hi) ⟨⟨rowZ _ _ _, rowZ _ _ _, hI, rowZ _ _ _⟩, Ints.nil_ ..⟩ (fourR_is isZ isZ h isZ) (fourR_may zero_may zero_may (sm _ _ (by decide) (by decide) (by decide) (by decide)) zero_may) rfl (fun _ => rfl) rfl rfl
  exact (ask_at hm (by decide) (by decide)).trans (count_at hI h (sm _ _ (by decide) (by decide) (by decide) (by decide)) rfl (by decide) qn6)
theorem qa6 : askQ ZPv 1 0 = (Dn.zero, Dn.zero, 6) := by
  have hm : mayP ZPv = true :=
    part_may (R := fourR Dn.zero Dn.zero Dn.zero Dn.zero) (w := default) (lo := 0) (hi := 0) ⟨⟨rowZ _ _ _, rowZ _ _ _, rowZ _ _ _, rowZ _ _ _⟩, Ints.nil_ ..⟩ (fourR_is isZ isZ isZ isZ) (fourR_may zero_may zero_may zero_may zero_may) rfl (fun _ => rfl) rfl rfl
  refine (ask_at hm (by decide) (by decide)).trans ?_
  show countX ZDv = _
  unfold countX
  exact if_pos rfl
end Ma
end Go.Proofs.YtmbppgjhdcmckaaDoor
