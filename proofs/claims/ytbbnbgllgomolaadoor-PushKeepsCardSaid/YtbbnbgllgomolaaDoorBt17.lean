/- The laws of PushBand. No program in sight. -/
/- The law of PushKeeps: sums stay. No program in sight. -/
/- What PushKeeps begins with. No program in sight. -/
/- A whole list of masses is appended onto an own list. No program in sight. -/
/- What the walk of PushKeeps keeps in its first loop. No program in sight. -/
/- push.Give: walks (printed by a program of mine). -/
import Derived.Test.YtbbnbgllgomolaaDoorBt15
import Derived.Test.YtbbnbgllgomolaaDoorBt16
import Derived.Test.YtbbnbgllgomolaaDoorBt14
namespace Go.Proofs.YtbbnbgllgomolaaDoor
open Go.RowKit
namespace Ma
open Dp Dy
/-- Both halved, up. -/
theorem scale_ceil {a b : Dn} (hn : b.neg = false) (h0 : b.m ≠ 0) (h1 : (halfD a).2 = 0) (h2 : (halfD b).2 = 0) (k : Nat) : toD (halfD a).1 (halfD b).1 k (!(halfD a).1.neg) = toD a b k (!a.neg) := by
 obtain ⟨a1, a2⟩ := half_vl h1
 obtain ⟨b1, b2⟩ := half_vl h2
 obtain ⟨K, hK⟩ : ∃ K, a.e + b.e + 2 ≤ K := ⟨_, Nat.le_refl _⟩
 have a3 := a2 K (by omega)
 have b3 := b2 K (by omega)
 obtain ⟨p1, p2⟩ := vl_pos hn h0 K
 generalize hc : (halfD a).1 = c at *
 generalize hd : (halfD b).1 = d at *
 have dp : 0 < vl d K := by omega
 obtain ⟨d1, d2⟩ := pos_vl dp
 obtain ⟨N, hN, sN⟩ := toD_ceil hn h0 k (a := a) (K := K) (by omega)
 obtain ⟨N2, hN2, sN2⟩ := toD_ceil d1 d2 k (a := c) (K := K) (by omega)
 have e2 : sg c.neg N2 = sg a.neg N := by
  have e4 : -(2 * vl c K * 2 ^ k) = 2 * -(vl c K * 2 ^ k) := by rw [Int.mul_assoc, Int.mul_neg]
  rw [sN, sN2, ← a3, ← b3, e4, Int.mul_ediv_mul_of_pos _ _ (by decide)]
 rw [hN, hN2]
 exact formed_sg e2 k
/-- Both halved, down. -/
theorem scale_floor {a b : Dn} (hn : b.neg = false) (h0 : b.m ≠ 0) (h1 : (halfD a).2 = 0) (h2 : (halfD b).2 = 0) (k : Nat) : ((halfD b).1.neg = false ∧ (halfD b).1.m ≠ 0) ∧ toD (halfD a).1 (halfD b).1 k (halfD a).1.neg = toD a b k a.neg := by
 obtain ⟨a1, a2⟩ := half_vl h1
 obtain ⟨b1, b2⟩ := half_vl h2
 obtain ⟨K, hK⟩ : ∃ K, a.e + b.e + 2 ≤ K := ⟨_, Nat.le_refl _⟩
 have a3 := a2 K (by omega)
 have b3 := b2 K (by omega)
 obtain ⟨p1, p2⟩ := vl_pos hn h0 K
 generalize hc : (halfD a).1 = c at *
 generalize hd : (halfD b).1 = d at *
 have dp : 0 < vl d K := by omega
 obtain ⟨d1, d2⟩ := pos_vl dp
 obtain ⟨N, hN, sN⟩ := toD_floor hn h0 k (a := a) (K := K) (by omega)
 obtain ⟨N2, hN2, sN2⟩ := toD_floor d1 d2 k (a := c) (K := K) (by omega)
 have e2 : sg c.neg N2 = sg a.neg N := by
  rw [sN, sN2, ← a3, ← b3, Int.mul_assoc, Int.mul_ediv_mul_of_pos _ _ (by decide)]
 refine ⟨⟨d1, d2⟩, ?_⟩
 rw [hN, hN2]
 exact formed_sg e2 k
theorem give_inv {w : World} {lo hi : Nat} {m : Mv} {kR sR : Nat → Dn} (hR : MRows w lo hi m) (hg : giveM m = ((kR, sR), 0)) :
  m.share ∧ m.W.n ≠ 0 ∧ (halfD (dnM m 0)).2 = 0 ∧ (halfD (dnM m 1)).2 = 0 ∧ (∀ x, x < 4 → kR x = if x = 0 then (halfD (dnM m 0)).1 else if x = 1 then (halfD (dnM m 1)).1 else dnM m x) ∧ (∀ x, x < 4 → sR x = if x = 0 then (halfD (dnM m 0)).1 else if x = 1 then (halfD (dnM m 1)).1 else Dn.zero) := by
 unfold giveM at hg
 split at hg
 · injection hg with _ h
   omega
 · rename_i hb
   have hs := badS_one.1 (by simpa using hb)
   split at hg
   · injection hg with _ h
     omega
   · rename_i hn
     have hI := IsM.of hR hs.1
     have hM := dnM_may hR hs.1
     have e0 : halfX m.S.s m.S.xs m.S.e = halfD (dnM m 0) := (hI 0 (by decide)).half (hM 0 (by decide))
     have e1 : halfX m.W.s m.W.xs m.W.e = halfD (dnM m 1) := (hI 1 (by decide)).half (hM 1 (by decide))
     unfold splitM at hg
     rw [if_pos hs.1, e0, e1] at hg
     split at hg
     · rename_i hc
       injection hg with h1 _
       injection h1 with h1 h2
       subst h1 h2
       exact ⟨hs, hn, hc.1, hc.2, fun _ _ => rfl, fun _ _ => rfl⟩
     · injection hg with _ h
       omega
/-- A share and its halves have one mean. -/
theorem half_mean {w w' : World} {lo hi lo' hi' : Nat} {m k : Mv} {R : Nat → Dn} (hR : MRows w lo hi m) (hs : m.share) (hn : m.W.n ≠ 0) (h1 : (halfD (dnM m 0)).2 = 0) (h2 : (halfD (dnM m 1)).2 = 0) (hK : MRows w' lo' hi' k) (hI : IsM R k) (hr : MayR R)
  (k0 : R 0 = (halfD (dnM m 0)).1) (k1 : R 1 = (halfD (dnM m 1)).1) : k.share ∧ k.W.n ≠ 0 ∧ ∀ n, meanM k n = meanM m n := by
 obtain ⟨_, _, b1, b2⟩ := share_down hR hs hn 0 (by decide) (by decide)
 obtain ⟨⟨c1, c2⟩, _⟩ := scale_floor b1 b2 h1 h2 0
 have sk : k.share := (share_is hK hI hr).2 ⟨by rw [k1]; exact c1, fun h => absurd h (by rw [k1]; exact c2)⟩
 have nk : k.W.n ≠ 0 := fun h => c2 (by rw [← k1]; exact (Is.len (hI 1 (by decide)) hK.W).1 h)
 refine ⟨sk, nk, fun n => ?_⟩
 have ek : ¬ badS [k] = true := by rw [badS_one.2 sk]; simp
 have em : ¬ badS [m] = true := by rw [badS_one.2 hs]; simp
 unfold meanM
 by_cases hk : n < 0 ∨ 64 < n
 · rw [if_neg ek, if_pos hk, if_neg em, if_pos hk]
 · rw [if_neg ek, if_neg hk, if_neg nk, if_neg em, if_neg hk, if_neg hn]
   obtain ⟨d1, d2, _, _⟩ := share_down hR hs hn n (by omega) (by omega)
   obtain ⟨f1, f2, _, _⟩ := share_down hK sk nk n (by omega) (by omega)
   rw [d1, d2, f1, f2, hI.dn (by decide), hI.dn (by decide), k0, k1, (scale_floor b1 b2 h1 h2 n.toNat).2, scale_ceil b1 b2 h1 h2 n.toNat]
end Ma
end Go.Proofs.YtbbnbgllgomolaaDoor
namespace Go.Proofs.YtbbnbgllgomolaaDoor
open Go.RowKit
namespace Ma
open Dp Dy
theorem sg_abs (s : Bool) (n : Nat) : (sg s n).natAbs = n := by
 unfold sg
 cases s <;> simp
/-- A sum that is small enough may be. -/
theorem small_sum {a b : Dn} {K : Nat} (hK : K ≤ 1024) (h1 : a.e ≤ K) (h2 : b.e ≤ K) (hv : (vl a K + vl b K).natAbs < capD) : (addD a b).2 = 0 := by
 have hs := sum_vl a b h1 h2
 unfold addD
 generalize (plusS a.neg (a.m * 2 ^ (max a.e b.e - a.e)) b.neg (b.m * 2 ^ (max a.e b.e - b.e))).1 = s at *
 generalize (plusS a.neg (a.m * 2 ^ (max a.e b.e - a.e)) b.neg (b.m * 2 ^ (max a.e b.e - b.e))).2 = N at *
 rw [← hs, sg_abs] at hv
 have hp : 0 < 2 ^ (K - max a.e b.e) := Nat.pow_pos (by decide)
 have hN : N < capD := Nat.lt_of_le_of_lt (Nat.le_mul_of_pos_right N hp) hv
 unfold formed
 by_cases h0 : N = 0
 · rw [if_pos h0]
 · obtain ⟨j, j1, j2, j3, _⟩ := strip_spec (max a.e b.e) N
   have hp2 : 0 < 2 ^ j := Nat.pow_pos (by decide)
   have h3 : (strip (max a.e b.e) N).1 ≤ N := by
    have := Nat.le_mul_of_pos_right (strip (max a.e b.e) N).1 hp2
    omega
   rw [if_neg h0, if_pos ⟨by omega, by omega⟩]
/-- The sum of all, and of their sizes, in parts of 2^-K. -/
def sumX (ms : List Mv) (x K : Nat) : Int := (ms.map fun m => vl (dnM m x) K).sum
def absX (ms : List Mv) (x K : Nat) : Nat := (ms.map fun m => (vl (dnM m x) K).natAbs).sum
theorem sumX_cons (m : Mv) (ms : List Mv) (x K : Nat) : sumX (m :: ms) x K = vl (dnM m x) K + sumX ms x K := rfl
theorem absX_cons (m : Mv) (ms : List Mv) (x K : Nat) : absX (m :: ms) x K = (vl (dnM m x) K).natAbs + absX ms x K := rfl
theorem fold_small {K : Nat} (hK : K ≤ 1024) : ∀ (ms : List Mv) (R : Nat → Dn), (∀ x, x < 4 → (R x).e ≤ K ∧ (R x).May) → (∀ m ∈ ms, ∀ x, x < 4 → (dnM m x).e ≤ K) → (∀ x, x < 4 → (vl (R x) K).natAbs + absX ms x K < capD) →
  ∃ R', foldM R ms = some R' ∧ ∀ x, x < 4 → (R' x).e ≤ K ∧ (R' x).May ∧ vl (R' x) K = vl (R x) K + sumX ms x K := by
 intro ms
 induction ms with
 | nil => exact fun R hR _ _ => ⟨R, rfl, fun x hx => ⟨(hR x hx).1, (hR x hx).2, by simp [sumX]⟩⟩
 | cons m l ih =>
  intro R hR he hb
  have hc : ∀ x, x < 4 → (addD (R x) (dnM m x)).2 = 0 := fun x hx => by
   have := hb x hx
   rw [absX_cons] at this
   exact small_sum hK (hR x hx).1 (he m (List.mem_cons_self) x hx) (by omega)
  rw [foldM_cons, if_pos hc]
  have hv : ∀ x, x < 4 → (addD (R x) (dnM m x)).1.e ≤ K ∧ vl (addD (R x) (dnM m x)).1 K = vl (R x) K + vl (dnM m x) K := fun x hx => by
   obtain ⟨k1, k2⟩ := add_vl (hc x hx)
   have h1 := (hR x hx).1
   have h2 := he m (List.mem_cons_self) x hx
   exact ⟨by omega, k2 K h1 h2⟩
  obtain ⟨R', e1, e2⟩ := ih (fun x => (addD (R x) (dnM m x)).1) (fun x hx => ⟨(hv x hx).1, add_may ..⟩) (fun m' hm => he m' (List.mem_cons_of_mem _ hm)) (fun x hx => by
   have := hb x hx
   rw [absX_cons] at this
   have h2 := (hv x hx).2
   show (vl (addD (R x) (dnM m x)).1 K).natAbs + absX l x K < capD
   rw [h2]
   omega)
  refine ⟨R', e1, fun x hx => ?_⟩
  obtain ⟨k1, k2, k3⟩ := e2 x hx
  refine ⟨k1, k2, ?_⟩
  have h2 := (hv x hx).2
  rw [sumX_cons, k3]
  show vl (addD (R x) (dnM m x)).1 K + sumX l x K = _
  rw [h2]
  omega
theorem sum_small {K : Nat} (hK : K ≤ 1024) {ms : List Mv} (hn : ms.length ≤ 4096) (hm : ∀ m ∈ ms, m.may) (he : ∀ m ∈ ms, ∀ x, x < 4 → (dnM m x).e ≤ K) (hb : ∀ x, x < 4 → absX ms x K < capD) :
  ∃ R, sumM ms = (R, 0) ∧ ∀ x, x < 4 → (R x).e ≤ K ∧ (R x).May ∧ vl (R x) K = sumX ms x K := by
 obtain ⟨R, e1, e2⟩ := fold_small hK ms zR (fun x _ => ⟨Nat.zero_le _, zero_may⟩) he (fun x hx => by
  have := hb x hx
  show (vl Dn.zero K).natAbs + _ < _
  rw [vl_zero]
  simpa using this)
 refine ⟨R, ?_, fun x hx => ?_⟩
 · unfold sumM
   rw [if_neg (by omega), if_neg (by rintro ⟨m, h1, h2⟩; exact h2 (hm m h1)), e1]
 · obtain ⟨k1, k2, k3⟩ := e2 x hx
   refine ⟨k1, k2, ?_⟩
   rw [k3]
   show vl Dn.zero K + _ = _
   rw [vl_zero]
   omega
/-- Two lists of one sum. -/
theorem sums_same {K : Nat} {R S : Nat → Dn} {p q : Mv} (hp : IsM R p) (hq : IsM S q) (hR : ∀ x, x < 4 → (R x).e ≤ K ∧ (R x).May) (hS : ∀ x, x < 4 → (S x).e ≤ K ∧ (S x).May) (h : ∀ x, x < 4 → vl (R x) K = vl (S x) K) : sameM p q = true :=
 (hp.of_eq (S := S) fun x hx => (vl_inj (hR x hx).2 (hS x hx).2 (hR x hx).1 (hS x hx).1 (h x hx)).symm).same hq
theorem sumX_set : ∀ (ms : List Mv) (i : Nat) (h : i < ms.length) (m : Mv) (x K : Nat), sumX (ms.set i m) x K + vl (dnM ms[i] x) K = sumX ms x K + vl (dnM m x) K := by
 intro ms
 induction ms with
 | nil => intro i h; exact absurd h (Nat.not_lt_zero _)
 | cons a l ih =>
  intro i h m x K
  cases i with
  | zero =>
   simp only [List.set_cons_zero, sumX_cons, List.getElem_cons_zero]
   omega
  | succ i =>
   have := ih i (by simpa using h) m x K
   simp only [List.set_cons_succ, sumX_cons, List.getElem_cons_succ]
   omega
theorem absX_set : ∀ (ms : List Mv) (i : Nat) (h : i < ms.length) (m : Mv) (x K : Nat), absX (ms.set i m) x K + (vl (dnM ms[i] x) K).natAbs = absX ms x K + (vl (dnM m x) K).natAbs := by
 intro ms
 induction ms with
 | nil => intro i h; exact absurd h (Nat.not_lt_zero _)
 | cons a l ih =>
  intro i h m x K
  cases i with
  | zero =>
   simp only [List.set_cons_zero, absX_cons, List.getElem_cons_zero]
   omega
  | succ i =>
   have := ih i (by simpa using h) m x K
   simp only [List.set_cons_succ, absX_cons, List.getElem_cons_succ]
   omega
/-- Shares of S and W alone, of exponents up to e. -/
structure Keep (K e : Nat) (ms : List Mv) (s : Nat → Int) (C : Nat) (all : Prop) (low high : Int) (p : Nat → Dn) : Prop where
 each : ∀ m ∈ ms, m.share ∧ (∀ x, x < 4 → (dnM m x).May ∧ (dnM m x).e ≤ e) ∧ dnM m 2 = Dn.zero ∧ dnM m 3 = Dn.zero
 lies : all → ∀ m ∈ ms, liesM m low high
 sum : ∀ x, x < 4 → sumX ms x K + vl (p x) K = s x
 size : ∀ x, x < 4 → absX ms x K + (vl (p x) K).natAbs ≤ C
theorem Keep.more {K e e' : Nat} {ms : List Mv} {s : Nat → Int} {C : Nat} {all : Prop} {low high : Int} {p : Nat → Dn} (h : Keep K e ms s C all low high p) (he : e ≤ e') : Keep K e' ms s C all low high p :=
 ⟨fun m hm => ⟨(h.each m hm).1, fun x hx => ⟨((h.each m hm).2.1 x hx).1, Nat.le_trans ((h.each m hm).2.1 x hx).2 he⟩, (h.each m hm).2.2⟩, h.lies, h.sum, h.size⟩
theorem mem_set' {ms : List Mv} {i : Nat} {k m : Mv} (h : m ∈ ms.set i k) : m = k ∨ m ∈ ms := by
 rcases List.mem_or_eq_of_mem_set h with h | h
 · exact .inr h
 · exact .inl h
/-- Half of one is given. -/
theorem Keep.give {K e : Nat} {ms : List Mv} {s : Nat → Int} {C : Nat} {all : Prop} {low high : Int} (h : Keep K e ms s C all low high zR) (he : e + 1 ≤ K) {i : Nat} (hi : i < ms.length) {w : World} {lo hi' lo2 hi2 : Nat} (hR : MRows w lo hi' ms[i]) {kR sR : Nat → Dn} (hg : giveM ms[i] = ((kR, sR), 0))
  {k : Mv} {w2 : World} (hk : MRows w2 lo2 hi2 k) (ik : IsM kR k) : Keep K (e + 1) (ms.set i k) s C all low high sR ∧ (all → liesD (sR 0) (sR 1) low high) ∧ (sR 1).neg = false ∧ (sR 1).m ≠ 0 ∧ (∀ x, x < 4 → (sR x).e ≤ e + 1) := by
 obtain ⟨gs, gn, g1, g2, g3, g4⟩ := give_inv hR hg
 obtain ⟨mk, _⟩ := give_may hR hg
 obtain ⟨m0, m1, m2, m3⟩ := h.each _ (List.getElem_mem hi)
 obtain ⟨sk, nk, _⟩ := half_mean hR gs gn g1 g2 hk ik mk (g3 0 (by decide)) (g3 1 (by decide))
 obtain ⟨_, _, b1, b2⟩ := share_down hR gs gn 0 (by decide) (by decide)
 obtain ⟨⟨c1, c2⟩, _⟩ := scale_floor b1 b2 g1 g2 0
 have ek : ∀ x, x < 4 → dnM k x = kR x := fun x hx => ik.dn hx
 obtain ⟨p1, p2⟩ := half_vl g1
 obtain ⟨q1, q2⟩ := half_vl g2
 have e0 := (m1 0 (by decide)).2
 have e1 := (m1 1 (by decide)).2
 have v0 := p2 K (by omega)
 have v1 := q2 K (by omega)
 have k0 : kR 0 = (halfD (dnM ms[i] 0)).1 := g3 0 (by decide)
 have k1 : kR 1 = (halfD (dnM ms[i] 1)).1 := g3 1 (by decide)
 have k2 : kR 2 = Dn.zero := (g3 2 (by decide)).trans m2
 have k3 : kR 3 = Dn.zero := (g3 3 (by decide)).trans m3
 have s0 : sR 0 = (halfD (dnM ms[i] 0)).1 := g4 0 (by decide)
 have s1 : sR 1 = (halfD (dnM ms[i] 1)).1 := g4 1 (by decide)
 have s2 : sR 2 = Dn.zero := g4 2 (by decide)
 have s3 : sR 3 = Dn.zero := g4 3 (by decide)
 have vz : vl Dn.zero K = 0 := vl_zero K
 have key : ∀ x, x < 4 → vl (dnM k x) K + vl (sR x) K = vl (dnM ms[i] x) K ∧ (vl (dnM k x) K).natAbs + (vl (sR x) K).natAbs = (vl (dnM ms[i] x) K).natAbs := four
  (by rw [ek 0 (by decide), k0, s0]; omega) (by rw [ek 1 (by decide), k1, s1]; omega) (by rw [ek 2 (by decide), k2, s2, m2, vz]; simp) (by rw [ek 3 (by decide), k3, s3, m3, vz]; simp)
 have ll : all → liesD (halfD (dnM ms[i] 0)).1 (halfD (dnM ms[i] 1)).1 low high := fun ha => (lies_half g1 g2).2 (h.lies ha _ (List.getElem_mem hi))
 refine ⟨⟨fun m hm => ?_, fun ha m hm => ?_, fun x hx => ?_, fun x hx => ?_⟩, fun ha => by rw [s0, s1]; exact ll ha, by rw [s1]; exact c1, by rw [s1]; exact c2, four (by rw [s0]; omega) (by rw [s1]; omega) (by rw [s2]; exact Nat.zero_le _) (by rw [s3]; exact Nat.zero_le _)⟩
 · rcases mem_set' hm with rfl | hm
   · exact ⟨sk, four ⟨by rw [ek 0 (by decide)]; exact mk 0 (by decide), by rw [ek 0 (by decide), k0]; omega⟩ ⟨by rw [ek 1 (by decide)]; exact mk 1 (by decide), by rw [ek 1 (by decide), k1]; omega⟩ ⟨by rw [ek 2 (by decide)]; exact mk 2 (by decide), by rw [ek 2 (by decide), k2]; exact Nat.zero_le _⟩ ⟨by rw [ek 3 (by decide)]; exact mk 3 (by decide), by rw [ek 3 (by decide), k3]; exact Nat.zero_le _⟩, (ek 2 (by decide)).trans k2, (ek 3 (by decide)).trans k3⟩
   · exact ⟨(h.each m hm).1, fun x hx => ⟨((h.each m hm).2.1 x hx).1, Nat.le_succ_of_le ((h.each m hm).2.1 x hx).2⟩, (h.each m hm).2.2⟩
 · rcases mem_set' hm with rfl | hm
   · unfold liesM
     rw [ek 0 (by decide), ek 1 (by decide), k0, k1]
     exact ll ha
   · exact h.lies ha m hm
 · have h1 := sumX_set ms i hi k x K
   have h2 := h.sum x hx
   have h3 := (key x hx).1
   have h4 : vl (zR x) K = 0 := vl_zero K
   omega
 · have h1 := absX_set ms i hi k x K
   have h2 := h.size x hx
   have h3 := (key x hx).2
   have h4 : vl (zR x) K = 0 := vl_zero K
   rw [h4] at h2
   simp only [Int.natAbs_zero, Nat.add_zero] at h2
   omega
theorem abs_le {ms : List Mv} {i : Nat} (h : i < ms.length) (x K : Nat) : (vl (dnM ms[i] x) K).natAbs ≤ absX ms x K := by
 induction ms generalizing i with
 | nil => exact absurd h (Nat.not_lt_zero _)
 | cons a l ih =>
  cases i with
  | zero =>
   rw [absX_cons]
   exact Nat.le_add_right _ _
  | succ i =>
   rw [absX_cons]
   exact Nat.le_trans (ih (by simpa using h)) (Nat.le_add_left _ _)
/-- What was sent is taken. -/
theorem Keep.take {K e : Nat} (hK : K ≤ 1024) {ms : List Mv} {s : Nat → Int} {C : Nat} (hC : C < capD) {all : Prop} {low high : Int} {sR : Nat → Dn} (h : Keep K e ms s C all low high sR) (he : e ≤ K) (hl : all → liesD (sR 0) (sR 1) low high) (hn : (sR 1).neg = false) (h0 : (sR 1).m ≠ 0) (hse : ∀ x, x < 4 → (sR x).e ≤ e) (hs2 : sR 2 = Dn.zero) (hs3 : sR 3 = Dn.zero)
  {i : Nat} (hi : i < ms.length) {w : World} {lo hi' lo2 hi2 : Nat} (hR : MRows w lo hi' ms[i]) {n : Mv} (hS : MRows w lo2 hi2 n) (is : IsM sR n) (ms_ : MayR sR) {T : Nat → Dn} {code : Int} (ht : takeM ms[i] n = (T, code)) :
  code = 0 ∧ ∀ {k : Mv} {w2 : World} {lo3 hi3 : Nat}, MRows w2 lo3 hi3 k → IsM T k → Keep K e (ms.set i k) s C all low high zR := by
 obtain ⟨m0, m1, m2, m3⟩ := h.each _ (List.getElem_mem hi)
 have iM := IsM.of hR m0.1
 have mM := dnM_may hR m0.1
 have sn : n.share := (share_is hS is ms_).2 ⟨hn, fun h => absurd h h0⟩
 have bd : ∀ x, x < 4 → (vl (dnM ms[i] x) K + vl (sR x) K).natAbs < capD := fun x hx => by
  have h1 := h.size x hx
  have h2 := abs_le hi x K
  omega
 have a0 := small_sum hK (Nat.le_trans (m1 0 (by decide)).2 he) (Nat.le_trans (hse 0 (by decide)) he) (bd 0 (by decide))
 have a1 := small_sum hK (Nat.le_trans (m1 1 (by decide)).2 he) (Nat.le_trans (hse 1 (by decide)) he) (bd 1 (by decide))
 obtain ⟨T2, t1, t2⟩ := take_of iM is mM ms_ m0 sn (a := (addD (dnM ms[i] 0) (sR 0)).1) (b := (addD (dnM ms[i] 1) (sR 1)).1) (Prod.ext rfl a0) (Prod.ext rfl a1)
 rw [ht] at t1
 injection t1 with t1 t3
 subst t1
 refine ⟨t3, fun {k w2 lo3 hi3} hk ik => ?_⟩
 have ek : ∀ x, x < 4 → dnM k x = T x := fun x hx => ik.dn hx
 have q0 : T 0 = (addD (dnM ms[i] 0) (sR 0)).1 := t2 0 (by decide)
 have q1 : T 1 = (addD (dnM ms[i] 1) (sR 1)).1 := t2 1 (by decide)
 have q2 : T 2 = Dn.zero := (t2 2 (by decide)).trans m2
 have q3 : T 3 = Dn.zero := (t2 3 (by decide)).trans m3
 obtain ⟨p1, p2⟩ := add_vl a0
 obtain ⟨r1, r2⟩ := add_vl a1
 have e0 := (m1 0 (by decide)).2
 have e1 := (m1 1 (by decide)).2
 have f0 := hse 0 (by decide)
 have f1 := hse 1 (by decide)
 have v0 := p2 K (by omega) (by omega)
 have v1 := r2 K (by omega) (by omega)
 have vz : vl Dn.zero K = 0 := vl_zero K
 have mT : MayR T := four (by rw [q0]; exact add_may ..) (by rw [q1]; exact add_may ..) (by rw [q2]; exact zero_may) (by rw [q3]; exact zero_may)
 have key : ∀ x, x < 4 → vl (dnM k x) K = vl (dnM ms[i] x) K + vl (sR x) K := four
  (by rw [ek 0 (by decide), q0]; exact v0) (by rw [ek 1 (by decide), q1]; exact v1) (by rw [ek 2 (by decide), q2, m2, hs2, vz]; rfl) (by rw [ek 3 (by decide), q3, m3, hs3, vz]; rfl)
 -- the weight is above 0
 have wpos : 0 < vl (T 1) K := by
  obtain ⟨u1, u2⟩ := vl_pos hn h0 K
  have u3 : 0 ≤ vl (dnM ms[i] 1) K := by
   unfold vl sg
   have : (dnM ms[i] 1).neg = false := m0.2.1
   rw [this]
   exact Int.natCast_nonneg _
  rw [q1, v1, u1]
  omega
 obtain ⟨w1, w2'⟩ := pos_vl wpos
 have sk : k.share := (share_is hk ik mT).2 ⟨w1, fun h => absurd h w2'⟩
 refine ⟨fun m hm => ?_, fun ha m hm => ?_, fun x hx => ?_, fun x hx => ?_⟩
 · rcases mem_set' hm with rfl | hm
   · exact ⟨sk, four ⟨by rw [ek 0 (by decide)]; exact mT 0 (by decide), by rw [ek 0 (by decide), q0]; omega⟩ ⟨by rw [ek 1 (by decide)]; exact mT 1 (by decide), by rw [ek 1 (by decide), q1]; omega⟩ ⟨by rw [ek 2 (by decide)]; exact mT 2 (by decide), by rw [ek 2 (by decide), q2]; exact Nat.zero_le _⟩ ⟨by rw [ek 3 (by decide)]; exact mT 3 (by decide), by rw [ek 3 (by decide), q3]; exact Nat.zero_le _⟩, (ek 2 (by decide)).trans q2, (ek 3 (by decide)).trans q3⟩
   · exact h.each m hm
 · rcases mem_set' hm with rfl | hm
   · unfold liesM
     rw [ek 0 (by decide), ek 1 (by decide), q0, q1]
     exact lies_add a0 a1 (h.lies ha _ (List.getElem_mem hi)) (hl ha)
   · exact h.lies ha m hm
 · have h1 := sumX_set ms i hi k x K
   have h2 := h.sum x hx
   have h3 := key x hx
   have h4 : vl (zR x) K = 0 := vl_zero K
   omega
 · have h1 := absX_set ms i hi k x K
   have h2 := h.size x hx
   have h3 := key x hx
   have h4 : vl (zR x) K = 0 := vl_zero K
   rw [h4]
   simp only [Int.natAbs_zero, Nat.add_zero]
   omega
end Ma
end Go.Proofs.YtbbnbgllgomolaaDoor
namespace Go.Proofs.YtbbnbgllgomolaaDoor
open Go.RowKit
namespace Ma
open Dp Dy
def kE : Nat := 496
/-- A share of S and W alone, small. -/
def Begun (m : Mv) : Prop := m.share ∧ (∀ x, x < 4 → (dnM m x).May ∧ (dnM m x).e ≤ 200) ∧ dnM m 2 = Dn.zero ∧ dnM m 3 = Dn.zero ∧ ∀ x, x < 4 → (vl (dnM m x) 240).natAbs ≤ 2 ^ kE
theorem vl_small {s : Bool} {xs : List Int} {e : Int} (hd : Dig 4294967296 xs) (hn : xs.length ≤ 8) : (vl (dn s xs e) 240).natAbs ≤ 2 ^ kE := by
 have h1 := num_lt 4294967296 (by decide) xs hd
 have h2 : (4294967296 : Nat) ^ xs.length ≤ 4294967296 ^ 8 := Nat.pow_le_pow_right (by decide) hn
 have h3 : (2 : Nat) ^ (240 - (dn s xs e).e) ≤ 2 ^ 240 := Nat.pow_le_pow_right (by decide) (Nat.sub_le _ _)
 have h4 : (4294967296 : Nat) ^ 8 = 2 ^ 256 := by rw [b32]
 have h5 : (2 : Nat) ^ 256 * 2 ^ 240 = 2 ^ kE := by
  have hk : 256 + 240 = kE := rfl
  rw [← Nat.pow_add, hk]
 unfold vl
 rw [sg_abs, ← h5]
 refine Nat.mul_le_mul ?_ h3
 show num 4294967296 xs ≤ _
 omega
theorem cut_begun {w : World} {lo hi : Nat} {m : Mv} (hR : MRows w lo hi m) (hs : m.share) (h1 : m.S.n ≤ 8) (h2 : m.W.n ≤ 8) (e1 : m.S.e ≤ 200) (e2 : m.W.e ≤ 200) : Begun (cutM m) := by
 have l1 := Ints.len hR.S
 have l2 := Ints.len hR.W
 have d1 := dig_ints hR.S
 have d2 := dig_ints hR.W
 have z2 : dnM (cutM m) 2 = Dn.zero := rfl
 have z3 : dnM (cutM m) 3 = Dn.zero := rfl
 have vz : (vl Dn.zero 240).natAbs ≤ 2 ^ kE := by rw [vl_zero]; exact Nat.zero_le _
 refine ⟨⟨cutM_may hs.1, hs.2.1, hs.2.2⟩, four ⟨(dn_ok d1 (hs.1 0 (by decide))).1, ?_⟩ ⟨(dn_ok d2 (hs.1 1 (by decide))).1, ?_⟩ ⟨by rw [z2]; exact zero_may, by rw [z2]; exact Nat.zero_le _⟩ ⟨by rw [z3]; exact zero_may, by rw [z3]; exact Nat.zero_le _⟩, z2, z3, four (vl_small d1 (show m.S.xs.length ≤ 8 by omega)) (vl_small d2 (show m.W.xs.length ≤ 8 by omega)) (by rw [z2]; exact vz) (by rw [z3]; exact vz)⟩
 · show m.S.e.toNat ≤ 200
   omega
 · show m.W.e.toNat ≤ 200
   omega
theorem abs_all {ms : List Mv} (h : ∀ m ∈ ms, Begun m) {x : Nat} (hx : x < 4) : absX ms x 240 ≤ ms.length * 2 ^ kE := by
 induction ms with
 | nil => exact Nat.zero_le _
 | cons m l ih =>
  have h1 := (h m (List.mem_cons_self)).2.2.2.2 x hx
  have h2 := ih fun m' hm => h m' (List.mem_cons_of_mem _ hm)
  rw [absX_cons, List.length_cons, Nat.add_mul, Nat.one_mul]
  omega
/-- What stands ahead of the moves. -/
theorem keep_begin {ms : List Mv} (hn : ms.length ≤ 8) (h : ∀ m ∈ ms, Begun m) {all : Prop} {low high : Int} (hl : all → ∀ m ∈ ms, liesM m low high) : Keep 240 200 ms (fun x => sumX ms x 240) (8 * 2 ^ kE) all low high zR := by
 refine ⟨fun m hm => ⟨(h m hm).1, (h m hm).2.1, (h m hm).2.2.1, (h m hm).2.2.2.1⟩, hl, fun x _ => ?_, fun x hx => ?_⟩
 · show _ + vl Dn.zero 240 = _
   rw [vl_zero]
   omega
 · show _ + (vl Dn.zero 240).natAbs ≤ _
   rw [vl_zero]
   have h1 := abs_all h hx
   have h2 : ms.length * 2 ^ kE ≤ 8 * 2 ^ kE := Nat.mul_le_mul_right _ hn
   simp only [Int.natAbs_zero, Nat.add_zero]
   omega
theorem keep_cap : 8 * 2 ^ kE < capD := by
 have h : (8 : Nat) * 2 ^ kE = 2 ^ (3 + kE) := by rw [Nat.pow_add]
 rw [h]
 exact capD_gt (k := 4 + kE) (Nat.pow_lt_pow_right (by decide) (by unfold kE; decide)) (by decide)
/-- The sum of what stands. -/
theorem Keep.total {K e : Nat} (hK : K ≤ 1024) {ms : List Mv} {s : Nat → Int} {C : Nat} {all : Prop} {low high : Int} (h : Keep K e ms s C all low high zR) (he : e ≤ K) (hC : C < capD) (hn : ms.length ≤ 4096) : ∃ R, sumM ms = (R, 0) ∧ ∀ x, x < 4 → (R x).e ≤ K ∧ (R x).May ∧ vl (R x) K = s x := by
 have vz : ∀ x, vl (zR x) K = 0 := fun _ => vl_zero K
 obtain ⟨R, e1, e2⟩ := sum_small hK hn (fun m hm => (h.each m hm).1.1) (fun m hm x hx => Nat.le_trans ((h.each m hm).2.1 x hx).2 he) (fun x hx => by
  have := h.size x hx
  omega)
 refine ⟨R, e1, fun x hx => ?_⟩
 obtain ⟨k1, k2, k3⟩ := e2 x hx
 have := h.sum x hx
 rw [vz] at this
 exact ⟨k1, k2, by rw [k3]; omega⟩
end Ma
end Go.Proofs.YtbbnbgllgomolaaDoor
namespace Go.Proofs.YtbbnbgllgomolaaDoor
open Go.RowKit
namespace Ma
open Dp Dy
/-- What may be appended: its cells are read. -/
structure Cells (w : World) (A : Option Addr) (m : Nat) (cs : List Value) : Prop where
 len : cs.length = m
 nil_ : A = none → m = 0
 at_ : ∀ ad, A = some ad → ∀ j u, cs[j]? = some u → w.cell? (ad.add j) = some u
theorem cells12_oneK (m : Mv) : ∀ u ∈ cells12 m, u.oneCell' = true := by
 intro u hu
 simp only [cells12, List.mem_cons, List.not_mem_nil, or_false] at hu
 rcases hu with rfl | rfl | rfl | rfl | rfl | rfl | rfl | rfl | rfl | rfl | rfl | rfl <;> rfl
theorem flatM_lenK : ∀ l, (flatM l).length = l.length * 12
 | [] => rfl
 | m :: l => by simp [flatM, cells12, flatM_lenK l]; omega
theorem flatM_one' : ∀ (l : List Mv), ∀ u ∈ flatM l, u.oneCell' = true
 | [], u, h => absurd h (by simp [flatM])
 | m :: l, u, h => by
  rcases List.mem_append.1 h with h | h
  · exact cells12_oneK m u h
  · exact flatM_one' l u h
theorem mcells_at {w : World} {b o : Nat} {m : Mv} (h : MCells w b o m) : ∀ k, k < 12 → w.cell? ⟨b, o + k, none⟩ = (cells12 m)[k]? := by
 obtain ⟨h0, h1, h2, h3, h4, h5, h6, h7, h8, h9, h10, h11⟩ := h
 intro k hk
 have hk' : k = 0 ∨ k = 1 ∨ k = 2 ∨ k = 3 ∨ k = 4 ∨ k = 5 ∨ k = 6 ∨ k = 7 ∨ k = 8 ∨ k = 9 ∨ k = 10 ∨ k = 11 := by omega
 rcases hk' with rfl | rfl | rfl | rfl | rfl | rfl | rfl | rfl | rfl | rfl | rfl | rfl
 · exact h0
 · exact h1
 · exact h2
 · exact h3
 · exact h4
 · exact h5
 · exact h6
 · exact h7
 · exact h8
 · exact h9
 · exact h10
 · exact h11
theorem LMs.cells {w : World} {lo hi : Nat} {A : Option Addr} {n : Nat} {ms : List Mv} (h : LMs w lo hi A n ms) : Cells w A (n * 12) (flatM ms) := by
 refine ⟨by rw [flatM_lenK, h.len], fun e => ?_, fun ad e j u hu => ?_⟩
 · rcases Nat.eq_zero_or_pos n with h0 | h0
   · rw [h0]
   · obtain ⟨b, off, e', _⟩ := h.row h0
     rw [e] at e'
     cases e'
 · have hj : j < n * 12 := by
     have h1 := flatM_lenK ms
     rw [h.len] at h1
     rcases Nat.lt_or_ge j (flatM ms).length with h' | h'
     · omega
     · rw [List.getElem?_eq_none h'] at hu
       cases hu
   obtain ⟨b, off, e', _, _, hc⟩ := h.row (by omega)
   rw [e] at e'
   injection e' with e'
   subst e'
   have hadd : (⟨b, off, none⟩ : Addr).add j = ⟨b, off + j, none⟩ := by unfold Addr.add; split <;> simp_all
   have hq : j / 12 < ms.length := by have := h.len; omega
   have hr : j % 12 < 12 := Nat.mod_lt _ (by decide)
   have hjj : j = j / 12 * 12 + j % 12 := by omega
   have h1 := mcells_at (hc (j / 12) hq) (j % 12) hr
   have h2 := flatM_get ms (j / 12) (j % 12) hq hr
   rw [hadd]
   have e1 : off + j = off + j / 12 * 12 + j % 12 := by omega
   rw [e1, h1, ← h2, ← hjj]
   exact hu
section
variable {P : Program} (w : World)
theorem run_append_cells (base : Nat) (t ty e : TypeId) (i : TypeInfo) (z : Value) (size bytes : Nat) (ht : P.underlying t = some (.slice e)) (hi : P.info? e = some i) (hz : i.zero = some z)
  (hsize : i.size = size) (hby : i.bytes = bytes) (hzs : z.cells.size = size) (hsz : 0 < size)
  (v : Value) (n : Nat) (xs : List Value) (hown : w.ownsRow base e size v n xs)
  (A : Option Addr) (m c : Nat) (news : List Value) (hr : Cells w A (m * size) news) (h1 : ∀ u ∈ news, u.oneCell' = true)
  (h63 : n + m ≤ maxLen) (hbytes : (n + m) * bytes ≤ 140737488355328) (hbase : base ≤ w.heap.size) :
  ∃ A' c' w', (Builtin.append_ #[t, t] ty #[v, .slice A m c]).run P w = .ok (.slice A' (n + m) c') w' ∧ w'.ownsRow base e size (.slice A' (n + m) c') (n + m) (xs ++ news) ∧ w.grownBy w' v.ownBlock ∧
   ((Value.slice A' (n + m) c').ownBlock = v.ownBlock ∨ (Value.slice A' (n + m) c').ownBlock = some w.heap.size) := by
 rcases A with _ | ad
 · have hm : m = 0 := by
     rcases Nat.mul_eq_zero.1 (hr.nil_ rfl) with h0 | h0 <;> omega
   subst hm
   have hn : news = [] := List.eq_nil_of_length_eq_zero (by simpa using hr.len)
   subst hn
   have hrun := run_append_of_nil (P := P) w base t ty e i size ht hi v n xs hown c
   obtain ⟨A', c', rfl, _⟩ := own_shape hown
   exact ⟨A', c', w, hrun, by simpa using hown, World.grownBy.refl w _, .inl rfl⟩
 · obtain ⟨v', w', hrun, h2, h3, _, h5⟩ := run_append_own_at (P := P) w base t ty e i z size bytes ht hi hz hsize hby hzs hsz v n xs hown ad m c news hr.len (hr.at_ ad rfl) h1 h63 hbytes hbase
   obtain ⟨A', c', rfl, _⟩ := own_shape h2
   exact ⟨A', c', w', hrun, h2, h3, h5⟩
variable {w}
/-- The same, as an operation of a walk. -/
theorem wpList_append_cells {ops : Array Oper} {rest : List Oper} {o : Oper} {a : Act} {Q : Exit → Act → World → Prop} (hgd : o.guard = none) (s x : Operand) (t : TypeId)
  (ho : o.op = .call { callee := .builtin .append, args := #[s, x], argTypes := #[t, t] })
  (base : Nat) (e : TypeId) (i : TypeInfo) (z : Value) (size bytes : Nat) (ht : P.underlying t = some (.slice e)) (hi : P.info? e = some i) (hz : i.zero = some z)
  (hsize : i.size = size) (hby : i.bytes = bytes) (hzs : z.cells.size = size) (hsz : 0 < size)
  (v : Value) (n : Nat) (xs : List Value) (hs : a.eval s = v) (hown : w.ownsRow base e size v n xs)
  (A : Option Addr) (m c : Nat) (news : List Value) (hx : a.eval x = .slice A m c) (hr : Cells w A (m * size) news) (h1 : ∀ u ∈ news, u.oneCell' = true)
  (h63 : n + m ≤ maxLen) (hbytes : (n + m) * bytes ≤ 140737488355328) (hbase : base ≤ w.heap.size)
  (h : ∀ A' c' w', w'.ownsRow base e size (.slice A' (n + m) c') (n + m) (xs ++ news) → w.grownBy w' v.ownBlock → ((Value.slice A' (n + m) c').ownBlock = v.ownBlock ∨ (Value.slice A' (n + m) c').ownBlock = some w.heap.size) →
   wpList P ops Q rest (a.put o.dst (.slice A' (n + m) c')) w') :
  wpList P ops Q (o :: rest) a w := by
 refine wpList_plain hgd fun K hK => ?_
 obtain ⟨A', c', w', hr, h2, h3, h5⟩ := run_append_cells (P := P) w base t o.type e i z size bytes ht hi hz hsize hby hzs hsz v n xs hown A m c news hr h1 h63 hbytes hbase
 unfold Oper.wp execOp
 simp only [ho, resolve, invoke, builtin, Sem.run_bind, Sem.run_pure, Result.andThen_ok, List.map_toArray, List.map_cons, List.map_nil, hs, hx, hr]
 exact hK _ _ (h A' c' w' h2 h3 h5)
end
end Ma
end Go.Proofs.YtbbnbgllgomolaaDoor
namespace Go.Proofs.YtbbnbgllgomolaaDoor
open Go.RowKit
namespace Ma
open Dp Dy
/-- What stands amid the first loop. -/
structure Upto (i : Nat) (os : List Mv) (all : Bool) (low high : Int) : Prop where
 begun : ∀ j (h : j < os.length), j < i → Begun os[j]
 lies : all = true → ∀ j (h : j < os.length), j < i → liesM os[j] low high
 fit : all = true → 0 < i → -2147483647 ≤ low ∧ high ≤ 2147483647 ∧ low ≤ high
theorem Upto.start (os : List Mv) (low high : Int) : Upto 0 os true low high :=
 ⟨fun _ _ h => absurd h (Nat.not_lt_zero _), fun _ _ _ h => absurd h (Nat.not_lt_zero _), fun _ h => absurd h (Nat.not_lt_zero _)⟩
theorem between_true {w : World} {lo hi : Nat} {m : Mv} (hR : MRows w lo hi m) (hs : m.share) {low high : Int} {r : Bool} {c : Int} (h : betweenM m low high = (r, c)) (hr : r = true) (hc : c = 0) :
  liesM m low high ∧ -2147483647 ≤ low ∧ high ≤ 2147483647 ∧ low ≤ high := by
 subst hr hc
 have hb : -2147483647 ≤ low ∧ high ≤ 2147483647 ∧ low ≤ high := by
  unfold betweenM at h
  rw [if_neg (by rw [badS_one.2 hs]; simp)] at h
  by_cases k : low < -2147483647 ∨ 2147483647 < high ∨ high < low
  · exfalso
    rw [if_pos (by omega)] at h
    cases h
  · omega
 obtain ⟨r', e1, e2⟩ := between_share hR hs hb.1 hb.2.1 hb.2.2
 rw [h] at e1
 injection e1 with e1 _
 exact ⟨e2.1 e1.symm, hb⟩
theorem Upto.next {i : Nat} {os : List Mv} {all : Bool} {low high : Int} (h : Upto i os all low high) {M : Mv} (hM : Begun M) {w : World} {lo hi : Nat} (hR : MRows w lo hi M) {r : Bool} {c : Int} (hb : betweenM M low high = (r, c)) {a : Bool} (ha : a = true → all = true ∧ r = true ∧ c = 0) : Upto (i + 1) (os.set i M) a low high := by
 refine ⟨fun j hj k => ?_, fun a' j hj k => ?_, fun a' _ => (between_true hR hM.1 hb (ha a').2.1 (ha a').2.2).2⟩
 · rw [List.getElem_set]
   split
   · exact hM
   · exact h.begun j (by simpa using hj) (by omega)
 · rw [List.getElem_set]
   split
   · exact (between_true hR hM.1 hb (ha a').2.1 (ha a').2.2).1
   · exact h.lies (ha a').1 j (by simpa using hj) (by omega)
theorem Upto.keep {i : Nat} {os : List Mv} {all : Bool} {low high : Int} (h : Upto i os all low high) (hl : os.length = i) (hn : i ≤ 8) : Keep 240 200 os (fun x => sumX os x 240) (8 * 2 ^ kE) (all = true) low high zR := by
 refine keep_begin (by omega) (fun m hm => ?_) (fun a m hm => ?_)
 · obtain ⟨j, hj, rfl⟩ := List.mem_iff_getElem.1 hm
   exact h.begun j hj (by omega)
 · obtain ⟨j, hj, rfl⟩ := List.mem_iff_getElem.1 hm
   exact h.lies a j hj (by omega)
theorem Keep.tells {K e : Nat} {ms : List Mv} {s : Nat → Int} {C : Nat} {all : Prop} {low high : Int} {p : Nat → Dn} (h : Keep K e ms s C all low high p) {m : Mv} (hm : m ∈ ms) {w : World} {lo hi : Nat} (hR : MRows w lo hi m) (hf : all → -2147483647 ≤ low ∧ high ≤ 2147483647 ∧ low ≤ high) :
  badS [m] = false ∧ (all → betweenM m low high = (true, 0)) := by
 obtain ⟨hs, _⟩ := h.each m hm
 refine ⟨badS_one.2 hs, fun ha => ?_⟩
 obtain ⟨k1, k2, k3⟩ := hf ha
 obtain ⟨r, e1, e2⟩ := between_share hR hs k1 k2 k3
 rw [e1, e2.2 (h.lies ha m hm)]
end Ma
end Go.Proofs.YtbbnbgllgomolaaDoor
namespace Go.Proofs.YtbbnbgllgomolaaDoor
open Go.RowKit
namespace Ma
open Dp Dy
set_option maxHeartbeats 51200000 in
set_option maxRecDepth 100000 in
theorem Give_num (w : World) (m : Mv) (hR : MRows w 0 w.heap.size m) (hT : Tab w) (kR sR : Nat → Dn) (code : Int) (hg : giveM m = ((kR, sR), code)) :
  Calls Tryd.prog 11 #[.agg #[.bool m.S.s, .slice m.S.A m.S.n m.S.c, .int .i64 m.S.e, .bool m.W.s, .slice m.W.A m.W.n m.W.c, .int .i64 m.W.e, .bool m.C.s, .slice m.C.A m.C.n m.C.c, .int .i64 m.C.e, .bool m.A.s, .slice m.A.A m.A.n m.A.c, .int .i64 m.A.e]] w fun e w' => ∃ k s : Mv, e = .returned (.tuple #[.agg #[.bool k.S.s, .slice k.S.A k.S.n k.S.c, .int .i64 k.S.e, .bool k.W.s, .slice k.W.A k.W.n k.W.c, .int .i64 k.W.e, .bool k.C.s, .slice k.C.A k.C.n k.C.c, .int .i64 k.C.e, .bool k.A.s, .slice k.A.A k.A.n k.A.c, .int .i64 k.A.e], .agg #[.bool s.S.s, .slice s.S.A s.S.n s.S.c, .int .i64 s.S.e, .bool s.W.s, .slice s.W.A s.W.n s.W.c, .int .i64 s.W.e, .bool s.C.s, .slice s.C.A s.C.n s.C.c, .int .i64 s.C.e, .bool s.A.s, .slice s.A.A s.A.n s.A.c, .int .i64 s.A.e], .int .i64 code]) ∧ Below w.heap.size w w' ∧ IsM kR k ∧ IsM sR s ∧ ∃ B, w.heap.size ≤ B ∧ B ≤ w'.heap.size ∧ MRows w' w.heap.size B k ∧ MRows w' B w'.heap.size s := by
 generalize hw1 : (((w.alloc (.cells #[.bool m.S.s, .slice m.S.A m.S.n m.S.c, .int .i64 m.S.e, .bool m.W.s, .slice m.W.A m.W.n m.W.c, .int .i64 m.W.e, .bool m.C.s, .slice m.C.A m.C.n m.C.c, .int .i64 m.C.e, .bool m.A.s, .slice m.A.A m.A.n m.A.c, .int .i64 m.A.e] 26)).alloc (.cells #[.bool false, .slice none 0 0, .int .i64 0, .bool false, .slice none 0 0, .int .i64 0, .bool false, .slice none 0 0, .int .i64 0, .bool false, .slice none 0 0, .int .i64 0] 26)).alloc (.cells #[.bool false, .slice none 0 0, .int .i64 0, .bool false, .slice none 0 0, .int .i64 0, .bool false, .slice none 0 0, .int .i64 0, .bool false, .slice none 0 0, .int .i64 0] 26)).alloc (.cells #[.bool m.S.s, .slice m.S.A m.S.n m.S.c, .int .i64 m.S.e, .bool m.W.s, .slice m.W.A m.W.n m.W.c, .int .i64 m.W.e, .bool m.C.s, .slice m.C.A m.C.n m.C.c, .int .i64 m.C.e, .bool m.A.s, .slice m.A.A m.A.n m.A.c, .int .i64 m.A.e] 26) = w1
 obtain ⟨⟨hM, hZ, hY, hA⟩, hBL, lo1, hi1⟩ := boxes4 w _ _ _ _ hw1
 replace hM : MBox w1 w.heap.size m := hM
 replace hZ : MBox w1 (w.heap.size + 1) ZM := hZ
 replace hY : MBox w1 (w.heap.size + 1 + 1) ZM := hY
 replace hA : MBox w1 (w.heap.size + 1 + 1 + 1) m := hA
 replace hBL : Below w.heap.size w w1 := hBL
 have Ra : MRows w1 0 w1.heap.size m := hR.on hBL
 have tT := hT.below hBL hT.lt
 have g0 := hT.lt
 have HR := Lib.hid hg
 have mK := Lib.hid (give_may hR hg)
 clear hg
 obtain ⟨b, hb⟩ : ∃ b, badS [m] = b := ⟨_, rfl⟩
 have HB := Lib.hid hb
 clear hb
 have M0 : MBox (w.alloc (.cells #[.bool m.S.s, .slice m.S.A m.S.n m.S.c, .int .i64 m.S.e, .bool m.W.s, .slice m.W.A m.W.n m.W.c, .int .i64 m.W.e, .bool m.C.s, .slice m.C.A m.C.n m.C.c, .int .i64 m.C.e, .bool m.A.s, .slice m.A.A m.A.n m.A.c, .int .i64 m.A.e] 26)) w.heap.size m := heap_alloc_last _ _
 obtain ⟨⟨y0, y1, y2, y3, y4, y5, y6, y7, y8, y9, y10, y11⟩, yf⟩ := MBox.cells M0
 have M0' : MBox (((w.alloc (.cells #[.bool m.S.s, .slice m.S.A m.S.n m.S.c, .int .i64 m.S.e, .bool m.W.s, .slice m.W.A m.W.n m.W.c, .int .i64 m.W.e, .bool m.C.s, .slice m.C.A m.C.n m.C.c, .int .i64 m.C.e, .bool m.A.s, .slice m.A.A m.A.n m.A.c, .int .i64 m.A.e] 26)).alloc (.cells #[.bool false, .slice none 0 0, .int .i64 0, .bool false, .slice none 0 0, .int .i64 0, .bool false, .slice none 0 0, .int .i64 0, .bool false, .slice none 0 0, .int .i64 0] 26)).alloc (.cells #[.bool false, .slice none 0 0, .int .i64 0, .bool false, .slice none 0 0, .int .i64 0, .bool false, .slice none 0 0, .int .i64 0, .bool false, .slice none 0 0, .int .i64 0] 26)) w.heap.size m := (Below.heap_alloc _ _ _ (by simp <;> omega)).trans ((Below.heap_alloc _ _ _ (by simp)).trans M0)
 clear y0 y1 y2 y3 y4 y5 y6 y7 y8 y9 y10 y11 yf M0
 obtain ⟨⟨y0, y1, y2, y3, y4, y5, y6, y7, y8, y9, y10, y11⟩, yf⟩ := MBox.cells M0'
 go_enter Tryd.func11, Tryd.ntmps11
 go_wp2_with fail
 clear y0 y1 y2 y3 y4 y5 y6 y7 y8 y9 y10 y11 yf M0'
 try clear hw1
 refine (faulty_any w1 (some ⟨w.heap.size + 1 + 1 + 1, 0, none⟩) 1 1 [m] (lm_one hA Ra) (by decide) b HB.out).mono ?_
 rintro e' w_1 ⟨rfl, hB⟩
 have lw_1 : w1.heap.size ≤ w_1.heap.size := hB.size
 replace hM := box_on hM hB (by omega)
 replace hZ := box_on hZ hB (by omega)
 replace hY := box_on hY hB (by omega)
 replace Ra := MRows.on Ra hB
 replace hBL := hBL.trans (hB.mono (by omega))
 replace tT := tT.below hB tT.lt
 clear hB
 clear hA
 cases b
 rotate_left
 · have hcode : ((zR, zR), (8 : Int)) = ((kR, sR), code) := by
    rw [← HR.out]
    unfold giveM
    rw [if_pos HB.out]
   injection hcode with h1 h2
   injection h1 with h1 h3
   subst h1 h2 h3
   obtain ⟨⟨q_2_0, q_2_1, q_2_2, q_2_3, q_2_4, q_2_5, q_2_6, q_2_7, q_2_8, q_2_9, q_2_10, q_2_11⟩, q_2f⟩ := MBox.cells hZ
   obtain ⟨⟨q_3_0, q_3_1, q_3_2, q_3_3, q_3_4, q_3_5, q_3_6, q_3_7, q_3_8, q_3_9, q_3_10, q_3_11⟩, q_3f⟩ := MBox.cells hY
   go_wp2
   obtain ⟨U1, M1, hc1, hM1, hX1, hb1, hf1, _, _⟩ := zero_to hZ
   rw [hc1]
   obtain ⟨U, M, hc2, hMe, hX2, hb2, hf2, _, _⟩ := zero_to (show MBox U1 (w.heap.size + 1 + 1) _ from (hf1 _ (by omega)).trans hY)
   rw [hc2]
   replace hX1 : MBox U (w.heap.size + 1) M := by rw [hMe, ← hM1]; exact (hf2 _ (by omega)).trans hX1
   have hQ := hb2 _ _ (hb1 _ _ hBL (by omega)) (by omega)
   clear q_2_0 q_2_1 q_2_2 q_2_3 q_2_4 q_2_5 q_2_6 q_2_7 q_2_8 q_2_9 q_2_10 q_2_11 q_2f q_3_0 q_3_1 q_3_2 q_3_3 q_3_4 q_3_5 q_3_6 q_3_7 q_3_8 q_3_9 q_3_10 q_3_11 q_3f
   clear hc1 hc2
   obtain ⟨⟨k0, k1, k2, k3, k4, k5, k6, k7, k8, k9, k10, k11⟩, kf⟩ := MBox.cells hX1
   obtain ⟨⟨y0, y1, y2, y3, y4, y5, y6, y7, y8, y9, y10, y11⟩, yf⟩ := MBox.cells hX2
   refine bodyPost_ret (v := .tuple #[.agg #[.bool M.S.s, .slice M.S.A M.S.n M.S.c, .int .i64 M.S.e, .bool M.W.s, .slice M.W.A M.W.n M.W.c, .int .i64 M.W.e, .bool M.C.s, .slice M.C.A M.C.n M.C.c, .int .i64 M.C.e, .bool M.A.s, .slice M.A.A M.A.n M.A.c, .int .i64 M.A.e], .agg #[.bool M.S.s, .slice M.S.A M.S.n M.S.c, .int .i64 M.S.e, .bool M.W.s, .slice M.W.A M.W.n M.W.c, .int .i64 M.W.e, .bool M.C.s, .slice M.C.A M.C.n M.C.c, .int .i64 M.C.e, .bool M.A.s, .slice M.A.A M.A.n M.A.c, .int .i64 M.A.e], .int .i64 8]) (by simp [results, Tryd.results11, go_sem, k0, k1, k2, k3, k4, k5, k6, k7, k8, k9, k10, k11, y0, y1, y2, y3, y4, y5, y6, y7, y8, y9, y10, y11]) rfl ⟨M, M, rfl, hQ, ?_⟩
   rw [hMe]
   exact ⟨IsM.zero, IsM.zero, w.heap.size, Nat.le_refl _, hQ.size, ZM_rows .., ZM_rows ..⟩
 · have hSH := badS_one.1 HB.out
   by_cases hn : m.W.n = 0
   · have hcode : ((zR, zR), (6 : Int)) = ((kR, sR), code) := by
      rw [← HR.out]
      unfold giveM
      rw [if_neg (by rw [HB.out]; simp), if_pos hn]
     injection hcode with h1 h2
     injection h1 with h1 h3
     subst h1 h2 h3
     have HN := Lib.hid hn
     clear hn hSH HR
     obtain ⟨⟨q_4_0, q_4_1, q_4_2, q_4_3, q_4_4, q_4_5, q_4_6, q_4_7, q_4_8, q_4_9, q_4_10, q_4_11⟩, q_4f⟩ := MBox.cells hM
     go_wp2_with fail
     refine (none_any w_1 m.W.s m.W.A m.W.n m.W.c m.W.e true (decide_eq_true HN.out)).mono ?_
     rintro e' w_5 ⟨rfl, hB⟩
     clear q_4_0 q_4_1 q_4_2 q_4_3 q_4_4 q_4_5 q_4_6 q_4_7 q_4_8 q_4_9 q_4_10 q_4_11 q_4f
     have lw_5 : w_1.heap.size ≤ w_5.heap.size := hB.size
     replace hM := box_on hM hB (by omega)
     replace hZ := box_on hZ hB (by omega)
     replace hY := box_on hY hB (by omega)
     replace Ra := MRows.on Ra hB
     replace hBL := hBL.trans (hB.mono (by omega))
     replace tT := tT.below hB tT.lt
     clear hB
     obtain ⟨⟨q_6_0, q_6_1, q_6_2, q_6_3, q_6_4, q_6_5, q_6_6, q_6_7, q_6_8, q_6_9, q_6_10, q_6_11⟩, q_6f⟩ := MBox.cells hZ
     obtain ⟨⟨q_7_0, q_7_1, q_7_2, q_7_3, q_7_4, q_7_5, q_7_6, q_7_7, q_7_8, q_7_9, q_7_10, q_7_11⟩, q_7f⟩ := MBox.cells hY
     go_wp2
     obtain ⟨U1, M1, hc1, hM1, hX1, hb1, hf1, _, _⟩ := zero_to hZ
     rw [hc1]
     obtain ⟨U, M, hc2, hMe, hX2, hb2, hf2, _, _⟩ := zero_to (show MBox U1 (w.heap.size + 1 + 1) _ from (hf1 _ (by omega)).trans hY)
     rw [hc2]
     replace hX1 : MBox U (w.heap.size + 1) M := by rw [hMe, ← hM1]; exact (hf2 _ (by omega)).trans hX1
     have hQ := hb2 _ _ (hb1 _ _ hBL (by omega)) (by omega)
     clear q_6_0 q_6_1 q_6_2 q_6_3 q_6_4 q_6_5 q_6_6 q_6_7 q_6_8 q_6_9 q_6_10 q_6_11 q_6f q_7_0 q_7_1 q_7_2 q_7_3 q_7_4 q_7_5 q_7_6 q_7_7 q_7_8 q_7_9 q_7_10 q_7_11 q_7f
     clear hc1 hc2
     obtain ⟨⟨k0, k1, k2, k3, k4, k5, k6, k7, k8, k9, k10, k11⟩, kf⟩ := MBox.cells hX1
     obtain ⟨⟨y0, y1, y2, y3, y4, y5, y6, y7, y8, y9, y10, y11⟩, yf⟩ := MBox.cells hX2
     refine bodyPost_ret (v := .tuple #[.agg #[.bool M.S.s, .slice M.S.A M.S.n M.S.c, .int .i64 M.S.e, .bool M.W.s, .slice M.W.A M.W.n M.W.c, .int .i64 M.W.e, .bool M.C.s, .slice M.C.A M.C.n M.C.c, .int .i64 M.C.e, .bool M.A.s, .slice M.A.A M.A.n M.A.c, .int .i64 M.A.e], .agg #[.bool M.S.s, .slice M.S.A M.S.n M.S.c, .int .i64 M.S.e, .bool M.W.s, .slice M.W.A M.W.n M.W.c, .int .i64 M.W.e, .bool M.C.s, .slice M.C.A M.C.n M.C.c, .int .i64 M.C.e, .bool M.A.s, .slice M.A.A M.A.n M.A.c, .int .i64 M.A.e], .int .i64 6]) (by simp [results, Tryd.results11, go_sem, k0, k1, k2, k3, k4, k5, k6, k7, k8, k9, k10, k11, y0, y1, y2, y3, y4, y5, y6, y7, y8, y9, y10, y11]) rfl ⟨M, M, rfl, hQ, ?_⟩
     rw [hMe]
     exact ⟨IsM.zero, IsM.zero, w.heap.size, Nat.le_refl _, hQ.size, ZM_rows .., ZM_rows ..⟩
   · have hS : splitM m = ((kR, sR), code) := by
      rw [← HR.out]
      unfold giveM
      rw [if_neg (by rw [HB.out]; simp), if_neg hn]
     have HN := Lib.hid hn
     have HS := Lib.hid hS
     clear hn hSH hS HR
     obtain ⟨⟨q_8_0, q_8_1, q_8_2, q_8_3, q_8_4, q_8_5, q_8_6, q_8_7, q_8_8, q_8_9, q_8_10, q_8_11⟩, q_8f⟩ := MBox.cells hM
     go_wp2_with fail
     refine (none_any w_1 m.W.s m.W.A m.W.n m.W.c m.W.e false (decide_eq_false HN.out)).mono ?_
     rintro e' w_9 ⟨rfl, hB⟩
     clear q_8_0 q_8_1 q_8_2 q_8_3 q_8_4 q_8_5 q_8_6 q_8_7 q_8_8 q_8_9 q_8_10 q_8_11 q_8f
     have lw_9 : w_1.heap.size ≤ w_9.heap.size := hB.size
     replace hM := box_on hM hB (by omega)
     replace hZ := box_on hZ hB (by omega)
     replace hY := box_on hY hB (by omega)
     replace Ra := MRows.on Ra hB
     replace hBL := hBL.trans (hB.mono (by omega))
     replace tT := tT.below hB tT.lt
     clear hB
     obtain ⟨⟨q_10_0, q_10_1, q_10_2, q_10_3, q_10_4, q_10_5, q_10_6, q_10_7, q_10_8, q_10_9, q_10_10, q_10_11⟩, q_10f⟩ := MBox.cells hM
     go_wp2_with fail
     refine (MSplit_num w_9 m Ra tT kR sR code HS.out).mono ?_
     rintro e' w_11 ⟨k0, s0, rfl, hB, hsC, is, ik, B, lb1, lb2, Rs, Rk⟩
     clear q_10_0 q_10_1 q_10_2 q_10_3 q_10_4 q_10_5 q_10_6 q_10_7 q_10_8 q_10_9 q_10_10 q_10_11 q_10f
     have lw_11 : w_9.heap.size ≤ w_11.heap.size := hB.size
     replace hM := box_on hM hB (by omega)
     replace hZ := box_on hZ hB (by omega)
     replace hY := box_on hY hB (by omega)
     replace Ra := MRows.on Ra hB
     replace hBL := hBL.trans (hB.mono (by omega))
     replace tT := tT.below hB tT.lt
     clear hsC
     have nk := isM_n Rk ik mK.out.1
     have ns := isM_n Rs is mK.out.2
     replace is := Lib.hid is
     replace ik := Lib.hid ik
     clear hB
     obtain ⟨⟨q_12_0, q_12_1, q_12_2, q_12_3, q_12_4, q_12_5, q_12_6, q_12_7, q_12_8, q_12_9, q_12_10, q_12_11⟩, q_12f⟩ := MBox.cells hZ
     obtain ⟨⟨q_13_0, q_13_1, q_13_2, q_13_3, q_13_4, q_13_5, q_13_6, q_13_7, q_13_8, q_13_9, q_13_10, q_13_11⟩, q_13f⟩ := MBox.cells hY
     go_wp2_with fail
     obtain ⟨U1, hc1, hX1, hb1, hf1, l1_, l1'⟩ := all_to hZ k0
     rw [hc1]
     obtain ⟨U2, hc2, hX2, hb2, hf2, l2_, l2'⟩ := all_to (show MBox U1 (w.heap.size + 1 + 1) ZM from (hf1 _ (by omega)).trans hY) s0
     rw [hc2]
     clear q_12_0 q_12_1 q_12_2 q_12_3 q_12_4 q_12_5 q_12_6 q_12_7 q_12_8 q_12_9 q_12_10 q_12_11 q_12f q_13_0 q_13_1 q_13_2 q_13_3 q_13_4 q_13_5 q_13_6 q_13_7 q_13_8 q_13_9 q_13_10 q_13_11 q_13f
     replace hX1 : MBox U2 (w.heap.size + 1) k0 := (hf2 _ (by omega)).trans hX1
     have hbL := hb2 _ _ (hb1 _ _ hBL (by omega)) (by omega)
     have RO : MRows U2 0 U2.heap.size k0 := (rows_rng Rk (w' := U2) (fun b h1 h2 => (hf2 b (by omega)).trans (hf1 b (by omega)))).more (Nat.zero_le _) (by omega)
     have RK : MRows U2 0 U2.heap.size s0 := (rows_rng Rs (w' := U2) (fun b h1 h2 => (hf2 b (by omega)).trans (hf1 b (by omega)))).more (Nat.zero_le _) (by omega)
     clear hc1 hc2 hb1 hb2 hf1 hf2 hZ hY hM Ra tT Rk Rs hBL
     refine region_E (fun v => MBox v (w.heap.size + 1 + 1) s0) [6] (m := 8) (L := #[zF,zF,zF,zF,zF,zF,zF,zF]) (by kernel_rfl) (by rfl) (by rfl) ?_
     have hB : Below U2.heap.size U2 U2.drew := (Below.refl _ _).drew
     replace RO : MRows U2.drew 0 U2.drew.heap.size k0 := RO.on hB
     replace RK : MRows U2.drew 0 U2.drew.heap.size s0 := RK.on hB
     have b_ := hbL.trans (hB.mono hbL.size)
     have lw0 : w.heap.size ≤ U2.heap.size := hbL.size
     have l2 : U2.heap.size ≤ U2.drew.heap.size := hB.size
     replace hX1 : MBox U2.drew (w.heap.size + 1) k0 := hX1
     replace hX2 : MBox U2.drew (w.heap.size + 1 + 1) s0 := hX2
     clear hB
     refine readE (i := 2) (L := #[zF,zF,zT,zF,zF,zF,zF,zF]) (v := .agg #[.bool s0.S.s, .slice s0.S.A s0.S.n s0.S.c, .int .i64 s0.S.e, .bool s0.W.s, .slice s0.W.A s0.W.n s0.W.c, .int .i64 s0.W.e, .bool s0.C.s, .slice s0.C.A s0.C.n s0.C.c, .int .i64 s0.C.e, .bool s0.A.s, .slice s0.A.A s0.A.n s0.A.c, .int .i64 s0.A.e]) rfl (by rfl) (by kernel_rfl) (by kernel_rfl) (by kernel_rfl) (fun _ _ _ h => h) (by assumption) (by rfl) ?yx2_ ?zx2_
     case yx2_ =>
      intro w' h1
      obtain ⟨⟨k0, k1, k2, k3, k4, k5, k6, k7, k8, k9, k10, k11⟩, kf⟩ := MBox.cells h1
      go_simp
     try simp only [Act.put, zp]
     refine zE 4 #[zF,zF,zT,zF,zT,zF,zF,zF] ?_ rfl ?hy2 ?rest2
     case hy2 => intro w; go_simp; (try with_reducible rfl)
     try simp only [Act.put, zp]
     generalize U2.drew = w2 at *
     obtain ⟨⟨k0, k1, k2, k3, k4, k5, k6, k7, k8, k9, k10, k11⟩, kf⟩ := MBox.cells hX1
     refine stepK (i := 0) (L := #[zT,zF,zT,zF,zT,zF,zF,zF]) rfl (by rfl) (by kernel_rfl) (by rfl) (fun K hK => ?_)
     go_simp
     refine hK _ _ ⟨fun _ h => h, ?_⟩
     clear hK K k0 k1 k2 k3 k4 k5 k6 k7 k8 k9 k10 k11 kf
     try simp only [Act.put, zp]
     refine stepK (i := 1) (L := #[zT,zT,zT,zF,zT,zF,zF,zF]) rfl (by rfl) (by kernel_rfl) (by rfl) (fun K hK => ?_)
     go_simp
     go_at_call 37
     refine (MTwin_any w2 k0 RO nk).mono ?_
     rintro e' w3 ⟨o, rfl, hto, hB, Ro⟩
     replace hto := Lib.hid hto
     have l3 := hB.size
     have lx := lt_of_heap hX2
     replace hX1 := box_on hX1 hB (by omega)
     replace hX2 := box_on hX2 hB lx
     replace RK := RK.on hB
     replace b_ := b_.trans (hB.mono (by omega))
     clear hB RO nk
     refine hK _ _ ⟨fun _ _ => hX2, ?_⟩
     clear hK K
     try simp only [Act.put, zp]
     refine stepK (i := 3) (L := #[zT,zT,zT,zT,zT,zF,zF,zF]) rfl (by rfl) (by kernel_rfl) (by rfl) (fun K hK => ?_)
     go_simp
     go_at_call 37
     refine (MTwin_any w3 s0 RK ns).mono ?_
     rintro e' w4 ⟨k, rfl, htk, hB, Rk⟩
     replace htk := Lib.hid htk
     have l4 := hB.size
     have hO3 : MBox w4 (w.heap.size + 1) k0 := box_on hX1 hB (by omega)
     have hY3 : MBox w4 (w.heap.size + 1 + 1) s0 := box_on hX2 hB (by omega)
     replace Ro := Ro.below hB (Nat.le_refl _)
     replace b_ := b_.trans (hB.mono (by omega))
     clear hB RK ns hX1 hX2
     refine hK _ _ ⟨fun _ _ => hY3, ?_⟩
     clear hK K
     try simp only [Act.put, zp]
     obtain ⟨⟨k0, k1, k2, k3, k4, k5, k6, k7, k8, k9, k10, k11⟩, kf⟩ := MBox.cells hO3
     refine stepK (i := 5) (L := #[zT,zT,zT,zT,zT,zT,zF,zF]) rfl (by rfl) (by kernel_rfl) (by rfl) (fun K hK => ?_)
     go_simp
     obtain ⟨w5, hc_, hX, hb_, hf_, l5, l5'⟩ := all_to hO3 o
     rw [hc_]
     clear hc_ k0 k1 k2 k3 k4 k5 k6 k7 k8 k9 k10 k11 kf
     replace hY3 : MBox w5 (w.heap.size + 1 + 1) s0 := (hf_ _ (by omega)).trans hY3
     refine hK _ _ ⟨fun _ _ => hY3, ?_⟩
     clear hK K
     try simp only [Act.put, zp]
     replace b_ := hb_ _ _ b_ (by omega)
     replace Ro := rows_rng Ro (w' := w5) (fun b h1 h2 => hf_ b (by omega))
     replace Rk := rows_rng Rk (w' := w5) (fun b h1 h2 => hf_ b (by omega))
     clear hb_ hf_ hO3
     obtain ⟨⟨k0, k1, k2, k3, k4, k5, k6, k7, k8, k9, k10, k11⟩, kf⟩ := MBox.cells hY3
     refine stepK (i := 6) (L := #[zT,zT,zT,zT,zT,zT,zT,zF]) rfl (by rfl) (by kernel_rfl) (by rfl) (fun K hK => ?_)
     go_simp
     obtain ⟨w6, hc_, hX2, hb_, hf_, l6, l6'⟩ := all_to hY3 k
     rw [hc_]
     clear hc_ k0 k1 k2 k3 k4 k5 k6 k7 k8 k9 k10 k11 kf
     refine hK _ _ ⟨fun h => absurd h (by decide), ?_⟩
     clear hK K
     try simp only [Act.put, zp]
     replace b_ := hb_ _ _ b_ (by omega)
     replace hX : MBox w6 (w.heap.size + 1) o := (hf_ _ (by omega)).trans hX
     replace Ro := rows_rng Ro (w' := w6) (fun b h1 h2 => hf_ b (by omega))
     replace Rk := rows_rng Rk (w' := w6) (fun b h1 h2 => hf_ b (by omega))
     clear hb_ hf_ hY3
     refine zE 7 #[zT,zT,zT,zT,zT,zT,zT,zT] ?_ rfl ?hy8 ?rest8
     case hy8 => intro w; go_simp; (try with_reducible rfl)
     try simp only [Act.put, zp]
     refine doneE (by kernel_rfl) ?_ _
     go_wp2
     obtain ⟨⟨k0, k1, k2, k3, k4, k5, k6, k7, k8, k9, k10, k11⟩, kf⟩ := MBox.cells hX
     obtain ⟨⟨y0, y1, y2, y3, y4, y5, y6, y7, y8, y9, y10, y11⟩, yf⟩ := MBox.cells hX2
     exact bodyPost_ret (v := .tuple #[.agg #[.bool o.S.s, .slice o.S.A o.S.n o.S.c, .int .i64 o.S.e, .bool o.W.s, .slice o.W.A o.W.n o.W.c, .int .i64 o.W.e, .bool o.C.s, .slice o.C.A o.C.n o.C.c, .int .i64 o.C.e, .bool o.A.s, .slice o.A.A o.A.n o.A.c, .int .i64 o.A.e], .agg #[.bool k.S.s, .slice k.S.A k.S.n k.S.c, .int .i64 k.S.e, .bool k.W.s, .slice k.W.A k.W.n k.W.c, .int .i64 k.W.e, .bool k.C.s, .slice k.C.A k.C.n k.C.c, .int .i64 k.C.e, .bool k.A.s, .slice k.A.A k.A.n k.A.c, .int .i64 k.A.e], .int .i64 code]) (by simp [results, Tryd.results11, go_sem, k0, k1, k2, k3, k4, k5, k6, k7, k8, k9, k10, k11, y0, y1, y2, y3, y4, y5, y6, y7, y8, y9, y10, y11]) rfl ⟨o, k, rfl, b_, ik.out.twin hto.out, is.out.twin htk.out, w3.heap.size, by omega, by omega, Ro.more (by omega) (Nat.le_refl _), Rk.more (Nat.le_refl _) (by omega)⟩
end Ma
end Go.Proofs.YtbbnbgllgomolaaDoor