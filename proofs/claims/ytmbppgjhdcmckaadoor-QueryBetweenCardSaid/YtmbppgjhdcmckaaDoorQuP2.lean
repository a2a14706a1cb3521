/- The plain laws of headcountlaw25: sums, and what lies between. No program in sight. -/
import Derived.Test.YtmbppgjhdcmckaaDoorQuP
namespace Go.Proofs.YtmbppgjhdcmckaaDoor
open Go.RowKit
namespace Ma
open Dp Dy
theorem cmp_two {x y : Dn} {X Y : Dv} (h : Is x X) (k : Is y Y) (hx : x.May) (hy : y.May) : cmpX X.s X.xs X.e Y.s Y.xs Y.e = (cmpD x y, 0) := by
  rw [h.1, h.2.1, h.2.2, k.1, k.2.1, k.2.2]
  exact cmpX_dn hx hy
/-- A mean lies between what its share lies between, and down is not above up. -/
theorem band_share {w : World} {lo hi : Nat} {m : Mv} (hR : MRows w lo hi m) {k low high : Int} {x y : Dn} {r : Bool} (hm : meanM m k = ((x, y), 0)) (hb : betweenM m low high = (r, 0)) :
    cmpD x y ≤ 0 ∧ (r = true → cmpD (whole low) x ≤ 0 ∧ cmpD y (whole high) ≤ 0) := by
  unfold meanM at hm
  split at hm
  · injection hm with _ h
    omega
  · rename_i hbad
    have hs := badS_one.1 (by simpa using hbad)
    split at hm
    · injection hm with _ h
      omega
    · rename_i hk
      split at hm
      · injection hm with _ h
        omega
      · rename_i hn
        have hlim : -2147483647 ≤ low ∧ high ≤ 2147483647 ∧ low ≤ high := by
          unfold betweenM at hb
          rw [if_neg (by rw [badS_one.2 hs]; simp)] at hb
          split at hb
          · injection hb with _ h
            omega
          · rename_i h
            omega
        obtain ⟨r', e1, e2⟩ := between_share hR hs hlim.1 hlim.2.1 hlim.2.2
        rw [hb] at e1
        injection e1 with e1 _
        subst e1
        obtain ⟨d1, d2, d3, d4⟩ := share_down hR hs hn k (by omega) (by omega)
        rw [d1, d2] at hm
        obtain ⟨K, hK⟩ : ∃ K, (dnM m 0).e + (dnM m 1).e ≤ K := ⟨_, Nat.le_refl _⟩
        obtain ⟨N, hN, sN⟩ := toD_floor d3 d4 k.toNat hK
        obtain ⟨M, hM, sM⟩ := toD_ceil d3 d4 k.toNat hK
        rw [hN, hM] at hm
        unfold bothD at hm
        split at hm
        · rename_i k1
          split at hm
          · rename_i k2
            injection hm with h1 _
            injection h1 with h1 h2
            obtain ⟨x1, x2⟩ := formed_vl k1
            obtain ⟨y1, y2⟩ := formed_vl k2
            have x3 := x2 k.toNat (Nat.le_refl _)
            have y3 := y2 k.toNat (Nat.le_refl _)
            rw [h1] at x1 x3
            rw [h2] at y1 y3
            simp only [Nat.sub_self, Nat.pow_zero, Nat.mul_one] at x3 y3
            rw [sN] at x3
            rw [sM] at y3
            obtain ⟨bp, bq⟩ := vl_pos d3 d4 K
            have hB : 0 < vl (dnM m 1) K := by rw [bp]; exact_mod_cast bq
            have hlies : r = true → low * vl (dnM m 1) K ≤ vl (dnM m 0) K ∧ vl (dnM m 0) K ≤ high * vl (dnM m 1) K := fun h => lies_at (e2.1 h) (by omega) (by omega)
            have hp : (0 : Int) < 2 ^ k.toNat := Int.pow_pos (by omega)
            have l2 := vl_more (whole low) (k := 0) (l := k.toNat) (Nat.le_refl _) (Nat.zero_le _)
            have h2' := vl_more (whole high) (k := 0) (l := k.toNat) (Nat.le_refl _) (Nat.zero_le _)
            rw [vl_whole, Nat.sub_zero] at l2 h2'
            generalize vl (dnM m 0) K = Z at *
            generalize vl (dnM m 1) K = B at *
            generalize (2 : Int) ^ k.toNat = P at *
            have f1 := Int.mul_ediv_add_emod (Z * P) B
            have f2 := Int.emod_nonneg (Z * P) (show B ≠ 0 by omega)
            have f3 := Int.emod_lt_of_pos (Z * P) hB
            have g1 := Int.mul_ediv_add_emod (-(Z * P)) B
            have g2 := Int.emod_nonneg (-(Z * P)) (show B ≠ 0 by omega)
            have g3 := Int.emod_lt_of_pos (-(Z * P)) hB
            generalize Z * P / B = q at *
            generalize -(Z * P) / B = p at *
            generalize Z * P % B = r1 at *
            generalize -(Z * P) % B = r2 at *
            have le : ∀ x y : Int, x * B < y * B + B → x ≤ y := fun x y h => by
              have : x * B < (y + 1) * B := by rw [Int.add_mul, Int.one_mul]; exact h
              have := Int.lt_of_mul_lt_mul_right this (Int.le_of_lt hB)
              omega
            have e3 : B * q = q * B := Int.mul_comm ..
            have e4 : B * p = p * B := Int.mul_comm ..
            have e5 : -p * B = -(p * B) := Int.neg_mul ..
            have qp : q ≤ -p := le _ _ (by omega)
            have cm : ∀ a b : Dn, a.e ≤ k.toNat → b.e ≤ k.toNat → vl a k.toNat ≤ vl b k.toNat → cmpD a b ≤ 0 := fun a b ha hb hab => by
              rcases cmp_spec a b ha hb with ⟨k1, k2⟩ | ⟨k1, k2⟩ | ⟨k1, k2⟩ <;> omega
            refine ⟨cm _ _ x1 y1 (by rw [x3, y3]; exact qp), fun h => ?_⟩
            obtain ⟨t1, t2⟩ := hlies h
            have u1 : low * B * P ≤ Z * P := Int.mul_le_mul_of_nonneg_right t1 (Int.le_of_lt hp)
            have u2 : Z * P ≤ high * B * P := Int.mul_le_mul_of_nonneg_right t2 (Int.le_of_lt hp)
            have v1 : low * P * B = low * B * P := Int.mul_right_comm ..
            have v2 : high * P * B = high * B * P := Int.mul_right_comm ..
            have v3 : -(high * P) * B = -(high * P * B) := Int.neg_mul ..
            refine ⟨cm _ _ (Nat.zero_le _) x1 ?_, cm _ _ y1 (Nat.zero_le _) ?_⟩
            · rw [l2, x3]
              exact le _ _ (by omega)
            · rw [h2', y3]
              have : -(high * P) ≤ p := le _ _ (by omega)
              omega
          · rename_i k2
            injection hm with _ h
            exact absurd h k2
        · rename_i k1
          injection hm with _ h
          exact absurd h k1
theorem toD_cmp {a b : Dn} (hn : b.neg = false) (h0 : b.m ≠ 0) {k : Nat} {x y : Dn} (h1 : toD a b k a.neg = (x, 0)) (h2 : toD a b k (!a.neg) = (y, 0)) : cmpD x y ≤ 0 := by
  obtain ⟨K, hK⟩ : ∃ K, a.e + b.e ≤ K := ⟨_, Nat.le_refl _⟩
  obtain ⟨N, hN, sN⟩ := toD_floor hn h0 k hK (a := a)
  obtain ⟨M, hM, sM⟩ := toD_ceil hn h0 k hK (a := a)
  rw [hN] at h1
  rw [hM] at h2
  obtain ⟨x1, x2⟩ := formed_vl (s := a.neg) (m := N) (k := k) (by rw [h1])
  obtain ⟨y1, y2⟩ := formed_vl (s := a.neg) (m := M) (k := k) (by rw [h2])
  rw [h1] at x1 x2
  rw [h2] at y1 y2
  have x3 := x2 k (Nat.le_refl _)
  have y3 := y2 k (Nat.le_refl _)
  simp only [Nat.sub_self, Nat.pow_zero, Nat.mul_one] at x3 y3
  rw [sN] at x3
  rw [sM] at y3
  obtain ⟨bp, bq⟩ := vl_pos hn h0 K
  have hB : 0 < vl b K := by rw [bp]; exact_mod_cast bq
  generalize vl b K = B at *
  generalize vl a K * 2 ^ k = Z at *
  have f1 := Int.mul_ediv_add_emod Z B
  have f2 := Int.emod_nonneg Z (show B ≠ 0 by omega)
  have g1 := Int.mul_ediv_add_emod (-Z) B
  have g2 := Int.emod_nonneg (-Z) (show B ≠ 0 by omega)
  have f3 := Int.emod_lt_of_pos Z hB
  have g3 := Int.emod_lt_of_pos (-Z) hB
  generalize Z / B = q at *
  generalize -Z / B = p at *
  have e3 : B * q = q * B := Int.mul_comm ..
  have e4 : B * p = p * B := Int.mul_comm ..
  have e5 : -p * B = -(p * B) := Int.neg_mul ..
  have qp : q ≤ -p := by
    have h : q * B < -p * B + B := by omega
    have : q * B < (-p + 1) * B := by rw [Int.add_mul, Int.one_mul]; exact h
    have := Int.lt_of_mul_lt_mul_right this (Int.le_of_lt hB)
    omega
  rcases cmp_spec x y x1 y1 with ⟨k1, k2⟩ | ⟨k1, k2⟩ | ⟨k1, k2⟩ <;> omega
/-- Down, taken n times, is not above; up, not below. -/
theorem sums_low {a lo r : Dn} {n k : Nat} (n1 : 1 ≤ n) (hlo : toD a (whole n) k a.neg = (lo, 0)) (hr : timesD n Dn.zero lo true = (r, true)) : cmpD r a ≤ 0 := by
  obtain ⟨hn, h0⟩ := whole_pos (n := (n : Int)) (by omega)
  obtain ⟨N, hN, sN⟩ := toD_floor hn h0 k (a := a) (K := a.e) (Nat.le_refl _)
  rw [hN] at hlo
  obtain ⟨x1, x2⟩ := formed_vl (s := a.neg) (m := N) (k := k) (by rw [hlo])
  rw [hlo] at x1 x2
  obtain ⟨_, _, hs⟩ := times_spec _ _ _ _ _ hr
  obtain ⟨r1, r2⟩ := hs (k + a.e) (Nat.zero_le _) (by simp only at x1; omega)
  have x3 := x2 (k + a.e) (by omega)
  have ha := vl_more a (k := a.e) (l := k + a.e) (Nat.le_refl _) (by omega)
  rw [show k + a.e - k = a.e by omega, sg_mul, sN, vl_wh] at x3
  rw [vl_zero, Int.zero_add] at r2
  simp only at x3
  rw [x3] at r2
  rw [show k + a.e - a.e = k by omega] at ha
  have hc : ((2 ^ a.e : Nat) : Int) = (2 : Int) ^ a.e := by norm_cast
  rw [hc] at r2
  have hD : (0 : Int) < 2 ^ a.e := Int.pow_pos (by omega)
  have hB : (0 : Int) < (n : Int) * 2 ^ a.e := Int.mul_pos (by omega) hD
  have f1 := Int.mul_ediv_add_emod (vl a a.e * 2 ^ k) ((n : Int) * 2 ^ a.e)
  have f2 := Int.emod_nonneg (vl a a.e * 2 ^ k) (show (n : Int) * 2 ^ a.e ≠ 0 by omega)
  generalize vl a a.e * 2 ^ k / ((n : Int) * 2 ^ a.e) = q at *
  have e1 : (n : Int) * (q * 2 ^ a.e) = (n : Int) * 2 ^ a.e * q := by grind
  have hle : vl r (k + a.e) ≤ vl a (k + a.e) := by rw [r2, ha, e1]; omega
  rcases cmp_spec r a r1 (show a.e ≤ k + a.e by omega) with ⟨k1, k2⟩ | ⟨k1, k2⟩ | ⟨k1, k2⟩ <;> omega
theorem sums_high {a hi r : Dn} {n k : Nat} (n1 : 1 ≤ n) (hhi : toD a (whole n) k (!a.neg) = (hi, 0)) (hr : timesD n Dn.zero hi true = (r, true)) : cmpD a r ≤ 0 := by
  obtain ⟨hn, h0⟩ := whole_pos (n := (n : Int)) (by omega)
  obtain ⟨N, hN, sN⟩ := toD_ceil hn h0 k (a := a) (K := a.e) (Nat.le_refl _)
  rw [hN] at hhi
  obtain ⟨x1, x2⟩ := formed_vl (s := a.neg) (m := N) (k := k) (by rw [hhi])
  rw [hhi] at x1 x2
  obtain ⟨_, _, hs⟩ := times_spec _ _ _ _ _ hr
  obtain ⟨r1, r2⟩ := hs (k + a.e) (Nat.zero_le _) (by simp only at x1; omega)
  have x3 := x2 (k + a.e) (by omega)
  have ha := vl_more a (k := a.e) (l := k + a.e) (Nat.le_refl _) (by omega)
  rw [show k + a.e - k = a.e by omega, sg_mul, sN, vl_wh] at x3
  rw [vl_zero, Int.zero_add] at r2
  simp only at x3
  rw [x3] at r2
  rw [show k + a.e - a.e = k by omega] at ha
  have hc : ((2 ^ a.e : Nat) : Int) = (2 : Int) ^ a.e := by norm_cast
  rw [hc] at r2
  have hD : (0 : Int) < 2 ^ a.e := Int.pow_pos (by omega)
  have hB : (0 : Int) < (n : Int) * 2 ^ a.e := Int.mul_pos (by omega) hD
  have f1 := Int.mul_ediv_add_emod (-(vl a a.e * 2 ^ k)) ((n : Int) * 2 ^ a.e)
  have f2 := Int.emod_nonneg (-(vl a a.e * 2 ^ k)) (show (n : Int) * 2 ^ a.e ≠ 0 by omega)
  generalize -(vl a a.e * 2 ^ k) / ((n : Int) * 2 ^ a.e) = q at *
  have e1 : (n : Int) * (-q * 2 ^ a.e) = -((n : Int) * 2 ^ a.e * q) := by grind
  have hle : vl a (k + a.e) ≤ vl r (k + a.e) := by rw [r2, ha, e1]; omega
  rcases cmp_spec a r (show a.e ≤ k + a.e by omega) r1 with ⟨k1, k2⟩ | ⟨k1, k2⟩ | ⟨k1, k2⟩ <;> omega
/-- They may be. -/
theorem sums_may {a : Dn} (ha : a.m < 2 ^ 256) {n k : Nat} (n1 : 1 ≤ n) (n2 : n ≤ 1000) (hk : k ≤ 64) (away : Bool) :
    ∃ x r, toD a (whole n) k away = (x, 0) ∧ timesD n Dn.zero x true = (r, true) := by
  obtain ⟨N, hN, sN⟩ : ∃ N, toD a (whole n) k away = formed a.neg N k ∧ N ≤ a.m * 2 ^ k + 1 := by
    refine ⟨_, rfl, ?_⟩
    have : (quoN a (whole n) k).1 ≤ a.m * 2 ^ k := by
      unfold quoN
      show a.m * 2 ^ (0 + k) / _ ≤ _
      rw [Nat.zero_add]
      exact Nat.div_le_self _ _
    split <;> omega
  have hb : N < 2 ^ (256 + k + 1) := by
    have e : a.m * 2 ^ k < 2 ^ 256 * 2 ^ k := Nat.mul_lt_mul_of_pos_right ha (Nat.pow_pos (by decide))
    rw [← Nat.pow_add] at e
    have e3 : 0 < 2 ^ (256 + k) := Nat.pow_pos (by decide)
    rw [Nat.pow_succ]
    generalize 2 ^ (256 + k) = P at *
    omega
  have hc : (formed a.neg N k).2 = 0 := formed_small _ (capD_gt hb (by omega)) (by omega)
  obtain ⟨x1, x2⟩ := formed_vl hc
  have x3 := x2 k (Nat.le_refl _)
  simp only [Nat.sub_self, Nat.pow_zero, Nat.mul_one] at x3
  have hs : 2 * n * N < 2 ^ 11 * 2 ^ (256 + k + 1) := Nat.lt_of_le_of_lt (Nat.mul_le_mul_right _ (show 2 * n ≤ 2 ^ 11 by omega)) (Nat.mul_lt_mul_of_pos_left hb (Nat.pow_pos (by decide)))
  rw [← Nat.pow_add] at hs
  obtain ⟨r, hr⟩ := times_small (K := k) (by omega) n Dn.zero (formed a.neg N k).1 (Nat.zero_le _) x1 (by
    rw [vl_zero, x3, sg_abs']
    have := capD_gt hs (by omega)
    simpa using this)
  exact ⟨_, r, by rw [hN, ← hc], hr⟩
theorem timesD_may (n : Nat) : ∀ (s p : Dn) (o : Bool), s.May → (timesD n s p o).1.May := by
  induction n using Nat.strongRecOn with
  | ind n ih =>
    intro s p o hs
    rw [timesD]
    split
    · exact hs
    · have h : (if n % 2 = 1 then (addD s p).1 else s).May := by
        split
        · exact add_may ..
        · exact hs
      simp only
      generalize (if n % 2 = 1 then (addD s p).1 else s) = s' at *
      split
      · exact h
      · exact ih _ (by omega) _ _ _ h
theorem whole_nat (n : Nat) : whole (n : Int) = ⟨false, n, 0⟩ := by
  unfold whole
  rw [decide_eq_false (by omega), Int.natAbs_natCast]
theorem whole_cmp {a b : Int} (h : a ≤ b) : cmpD (whole a) (whole b) ≤ 0 := by
  rcases cmp_spec (whole a) (whole b) (K := 0) (Nat.zero_le _) (Nat.zero_le _) with ⟨k1, k2⟩ | ⟨k1, k2⟩ | ⟨k1, k2⟩ <;> (rw [vl_wh, vl_wh] at k2; simp at k2; omega)
theorem cmp_self (a : Dn) : cmpD a a ≤ 0 := by
  rcases cmp_spec a a (K := a.e) (Nat.le_refl _) (Nat.le_refl _) with ⟨k1, k2⟩ | ⟨k1, k2⟩ | ⟨k1, k2⟩ <;> omega
theorem toX_may0 {s1 : Bool} {xs1 : List Int} {e1 : Int} {s2 : Bool} {xs2 : List Int} {e2 k : Int} {away : Bool} : (toX s1 xs1 e1 s2 xs2 e2 k away).1.May := toX_may (x := (toX s1 xs1 e1 s2 xs2 e2 k away).1) (c := (toX s1 xs1 e1 s2 xs2 e2 k away).2) rfl
theorem toX_zeroQ {s1 : Bool} {xs1 : List Int} {e1 : Int} {s2 : Bool} {xs2 : List Int} {e2 k : Int} {away : Bool} {x : Dn} (h : toX s1 xs1 e1 s2 xs2 e2 k away = (x, 0)) :
    (MayD s1 xs1 e1 ∧ MayD s2 xs2 e2 ∧ s2 = false ∧ xs2 ≠ [] ∧ 0 ≤ k ∧ k ≤ 64) ∧ toD (dn s1 xs1 e1) (dn s2 xs2 e2) k.toNat away = (x, 0) := by
  unfold toX at h
  split at h
  · rename_i hm
    exact ⟨ask_zero hm, h⟩
  · rename_i hm
    exact absurd (congrArg Prod.snd h) hm
/-- What a quotient tells. -/
theorem parts_told {a b : Dv} {k : Int} {x y : Dn} {c : Int} (hd : Dig 4294967296 b.xs) (h : partsX a b k = (x, y, c)) : (x.May ∧ y.May) ∧ (c ≠ 0 → x = Dn.zero ∧ y = Dn.zero) ∧ (c = 0 → aboveV b = true ∧ toX a.s a.xs a.e b.s b.xs b.e k a.s = (x, 0) ∧ toX a.s a.xs a.e b.s b.xs b.e k (!a.s) = (y, 0) ∧ cmpD x y ≤ 0) := by
  unfold partsX at h
  split at h
  · injection h with h1 h2
    injection h2 with h2 h3
    subst h1 h2 h3
    exact ⟨⟨zero_may, zero_may⟩, fun _ => ⟨rfl, rfl⟩, fun h => absurd h (by decide)⟩
  · rename_i hab
    split at h
    · rename_i hc
      injection h with h1 h2
      injection h2 with h2 h3
      subst h1 h2 h3
      exact ⟨⟨zero_may, zero_may⟩, fun _ => ⟨rfl, rfl⟩, fun h => absurd h hc⟩
    · rename_i c1
      split at h
      · rename_i hc
        injection h with h1 h2
        injection h2 with h2 h3
        subst h1 h2 h3
        exact ⟨⟨zero_may, zero_may⟩, fun _ => ⟨rfl, rfl⟩, fun h => absurd h hc⟩
      · rename_i c2
        injection h with h1 h2
        injection h2 with h2 h3
        have t1 : toX a.s a.xs a.e b.s b.xs b.e k a.s = (x, 0) := by rw [← h1]; exact Prod.ext rfl (by simpa using c1)
        have t2 : toX a.s a.xs a.e b.s b.xs b.e k (!a.s) = (y, 0) := by rw [← h2]; exact Prod.ext rfl (by simpa using c2)
        refine ⟨⟨by rw [← h1]; exact toX_may0, by rw [← h2]; exact toX_may0⟩, fun h => absurd h3.symm h, fun _ => ⟨by simpa using hab, t1, t2, ?_⟩⟩
        obtain ⟨⟨m1, m2, m3, m4, m5, m6⟩, u1⟩ := toX_zeroQ t1
        obtain ⟨_, u2⟩ := toX_zeroQ t2
        exact toD_cmp (b := dn b.s b.xs b.e) m3 (dn_ne hd m2 m4) u1 u2
/-- What is told by a part, as numbers. -/
theorem ask_told {w : World} {p : Pv} (hR : PRows w 0 w.heap.size p) {kind k : Int} {x y : Dn} {c : Int} (h : askQ p kind k = (x, y, c)) : (x.May ∧ y.May) ∧ (c ≠ 0 → x = Dn.zero ∧ y = Dn.zero) ∧ (c = 0 → cmpD x y ≤ 0) := by
  have z : ∀ {c' : Int}, c' ≠ 0 → ((Dn.zero, Dn.zero, c') : Dn × Dn × Int) = (x, y, c) → (x.May ∧ y.May) ∧ (c ≠ 0 → x = Dn.zero ∧ y = Dn.zero) ∧ (c = 0 → cmpD x y ≤ 0) := fun h0 h => by
    injection h with h1 h2
    injection h2 with h2 h3
    subst h1 h2 h3
    exact ⟨⟨zero_may, zero_may⟩, fun _ => ⟨rfl, rfl⟩, fun h => absurd h h0⟩
  unfold askQ at h
  split at h
  · exact z (by decide) h
  · rename_i hm
    obtain ⟨e1, e2, e3⟩ := mayP_ends (p := p) (by simpa using hm)
    split at h
    · exact z (by decide) h
    · rename_i hk
      have hp : ∀ {a b : Dv}, Dig 4294967296 b.xs → partsX a b k = (x, y, c) → (x.May ∧ y.May) ∧ (c ≠ 0 → x = Dn.zero ∧ y = Dn.zero) ∧ (c = 0 → cmpD x y ≤ 0) := fun hd h => by
        obtain ⟨h1, h2, h3⟩ := parts_told hd h
        exact ⟨h1, h2, fun h0 => (h3 h0).2.2.2⟩
      have R := hR.1
      unfold kindX at h
      split at h
      · unfold countX at h
        split at h
        · exact z (by decide) h
        · split at h
          · injection h with h1 h2
            injection h2 with h2 h3
            subst h1 h2 h3
            have hm := nearX_may (x := (nearX false (canon 4294967296 1) 0 p.M.C.s p.M.C.xs p.M.C.e).1) (c := (nearX false (canon 4294967296 1) 0 p.M.C.s p.M.C.xs p.M.C.e).2) rfl
            exact ⟨⟨hm, hm⟩, fun h => absurd rfl h, fun _ => cmp_self _⟩
          · rename_i h0
            exact z h0 h
      · split at h
        · exact hp (dig_ints R.C) h
        · split at h
          · exact hp (dig_ints R.W) h
          · split at h
            · unfold evenX at h
              split at h
              · exact z (by decide) h
              · exact hp (canon_spec 4294967296 1 (by decide)).1 h
            · split at h
              · unfold endsX at h
                split at h
                · exact z (by decide) h
                · rename_i hh
                  injection h with h1 h2
                  injection h2 with h2 h3
                  subst h1 h2 h3
                  refine ⟨⟨whole_may e1.1 e1.2, whole_may e2.1 e2.2⟩, fun h => absurd rfl h, fun _ => whole_cmp ?_⟩
                  simp only [Bool.not_eq_false] at hm
                  unfold mayP at hm
                  simp only [Bool.and_eq_true] at hm
                  have h2 := hm.2.1
                  unfold mayE at h2
                  rw [if_pos (by simpa using hh)] at h2
                  simp only [decide_eq_true_eq] at h2
                  omega
              · split at h
                · unfold guessX at h
                  split at h
                  · exact z (by decide) h
                  · injection h with h1 h2
                    injection h2 with h2 h3
                    subst h1 h2 h3
                    exact ⟨⟨half_may _, half_may _⟩, fun h => absurd rfl h, fun _ => cmp_self _⟩
                · exact z (by decide) h
/-- A mean that is told lies between what its share lies between. -/
theorem mean_told {w : World} {p : Pv} (hR : PRows w 0 w.heap.size p) {k low high : Int} {x y : Dn} (h : askQ p 3 k = (x, y, 0)) (hb : betweenM p.M low high = (true, 0)) : cmpD (whole low) x ≤ 0 ∧ cmpD y (whole high) ≤ 0 := by
  unfold askQ at h
  split at h
  · injection h with _ h
    injection h with _ h
    omega
  · rename_i hm
    split at h
    · injection h with _ h
      injection h with _ h
      omega
    · rename_i hk
      replace h : partsX p.M.S p.M.W k = (x, y, 0) := h
      obtain ⟨h1, h2, h3⟩ := parts_told (dig_ints hR.1.W) h
      obtain ⟨k1, k2, k3, k4⟩ := h3 rfl
      have hbad : badS [p.M] = false := by
        unfold betweenM at hb
        split at hb
        · injection hb with _ h
          omega
        · rename_i h
          simpa using h
      have hn : p.M.W.n ≠ 0 := by
        unfold aboveV at k1
        simp only [Bool.and_eq_true, decide_eq_true_eq] at k1
        omega
      have hmean : meanM p.M k = ((x, y), 0) := by
        unfold meanM
        rw [if_neg (by rw [hbad]; simp), if_neg hk, if_neg hn]
        unfold downM upM
        rw [k2, k3]
        rfl
      exact (band_share hR.1 hmean hb).2 rfl
end Ma
end Go.Proofs.YtmbppgjhdcmckaaDoor
