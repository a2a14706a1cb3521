/- What comes of averages of two: no program in sight. -/
/- Meetings in a row: no program in sight. -/
/- Lists of masses that a call owns: appended to, stored in; no function in sight (printed by a program of mine). -/
/- A mass is stored into an own list (printed by a program of mine). -/
/- What meetings begin with; own lists kept. -/
/- mean.ends: a walk. -/
/- mean.ends$1, mean.ends$2: walks (printed by a program of mine). -/
import Derived.Test.YtlbkepiflhchdaaDoorBv09
import Derived.Test.YtlbkepiflhchdaaDoorBv11
import Derived.Test.YtlbkepiflhchdaaDoorBv10
import Derived.Test.YtlbkepiflhchdaaDoorBv06
import Derived.Test.YtlbkepiflhchdaaDoorBv07
namespace Go.Proofs.YtlbkepiflhchdaaDoor
namespace Ma
open Dp Dy
theorem IsM.dnm {R : Nat → Dn} {m : Mv} (h : IsM R m) : ∀ j, j < 4 → dnM m j = R j := fun j hj => by
  obtain ⟨h1, h2, h3⟩ := h j hj
  unfold dnM
  rw [h1, h2, h3, dn_of]
theorem back_add {m A d : Dn} (hm : m.May) (h : subD m A = (d, 0)) : addD A d = (m, 0) := by
  have e := sub_vl (a := m) (b := A) (by rw [h])
  rw [h] at e
  refine add_of hm (K := max m.e A.e) (Nat.le_max_right _ _) e.1 (Nat.le_max_left _ _) ?_
  have := e.2 (max m.e A.e) (Nat.le_max_left _ _) (Nat.le_max_right _ _)
  simp only at this
  omega
theorem mid_law {A B m d : Dn} (h : midD A B = ((m, d), 0)) : ∃ s, addD A B = (s, 0) ∧ addD m m = (s, 0) ∧ subD m A = (d, 0) ∧ addD A d = (m, 0) ∧ m.May ∧ d.May := by
  have hm := mid_may h
  unfold midD at h
  split at h
  · rename_i hc
    obtain ⟨c1, c2, c3⟩ := hc
    injection h with h _
    injection h with h1 h2
    have hs : subD m A = (d, 0) := by
      rw [← h1, ← h2, ← c3]
    refine ⟨(addD A B).1, by rw [← c1], ?_, hs, back_add hm.1 hs, hm⟩
    have := (half_twice (add_may A B) c2).1
    rw [h1] at this
    exact this
  · injection h with _ h
    omega
theorem meet_zero {a b : Mv} {mR lR : Nat → Dn} (h : meetM a b = ((mR, lR), 0)) :
    (a.may ∧ b.may) ∧ midD (dnM a 2) (dnM b 2) = ((mR 2, lR 2), 0) ∧ midD (dnM a 3) (dnM b 3) = ((mR 3, lR 3), 0) ∧ mR 0 = dnM b 0 ∧ mR 1 = dnM b 1 ∧ lR 0 = Dn.zero ∧ lR 1 = Dn.zero := by
  unfold meetM at h
  split at h
  · rename_i hm
    split at h
    · rename_i hc
      injection h with h _
      injection h with h1 h2
      subst h1 h2
      refine ⟨hm, ?_, ?_, rfl, rfl, rfl, rfl⟩
      · rw [← hc.1]
        rfl
      · rw [← hc.2]
        rfl
    · injection h with _ h
      omega
  · injection h with _ h
    omega
section
variable {w : World} {lo hi lo' hi' : Nat} {a b m d : Mv} {mR lR : Nat → Dn}
/-- Whoever asks comes to the middle, when it is done. -/
theorem done_law (hA : MRows w lo hi a) (h : meetM a b = ((mR, lR), 0)) (hd : IsM lR d) :
    ∃ T, doneM a d = (T, 0) ∧ T 0 = dnM a 0 ∧ T 1 = dnM a 1 ∧ T 2 = mR 2 ∧ T 3 = mR 3 := by
  obtain ⟨hm, h2, h3, _, _, l0, l1⟩ := meet_zero h
  obtain ⟨_, _, _, _, k2, _, n2⟩ := mid_law h2
  obtain ⟨_, _, _, _, k3, _, n3⟩ := mid_law h3
  have hl : MayR lR := four (l0 ▸ zero_may) (l1 ▸ zero_may) n2 n3
  have mA := dnM_may hA hm.1
  have hS : IsM lR ⟨ZM.S, ZM.W, d.C, d.A⟩ := four (by rw [l0]; exact Is.zero) (by rw [l1]; exact Is.zero) (hd 2 (by decide)) (hd 3 (by decide))
  obtain ⟨T, hT, hTx⟩ := addM_of (T := fun x => if x = 0 then dnM a 0 else if x = 1 then dnM a 1 else mR x) (IsM.of hA hm.1) hS mA hl
    (four (by rw [l0]; exact add_zero (mA 0 (by decide))) (by rw [l1]; exact add_zero (mA 1 (by decide))) k2 k3)
  refine ⟨T, ?_, hTx 0 (by decide), hTx 1 (by decide), hTx 2 (by decide), hTx 3 (by decide)⟩
  unfold doneM
  rw [if_pos ⟨hm.1, hd.may hl⟩]
  exact hT
end
end Ma
end Go.Proofs.YtlbkepiflhchdaaDoor
namespace Go.Proofs.YtlbkepiflhchdaaDoor
namespace Ma
open Dp Dy
/-- How great numbers are, in parts of 2^-240. -/
def capB : Nat := 496
theorem capB_eq : capB = 496 := rfl
def bnd : Nat := 2 ^ capB
theorem bnd_cap : 32 * bnd < capD := by
  have hb : bnd = 2 ^ capB := rfl
  have h1 : (32 : Nat) = 2 ^ 5 := by decide
  rw [capD_eq, hb, h1, ← Nat.pow_add]
  exact Nat.pow_lt_pow_right (by decide) (by rw [capE_eq, capB_eq]; decide)
/-- A number that is not great: exponent and size. -/
def Fit (t k : Nat) (a : Dn) : Prop := a.May ∧ a.e ≤ t ∧ -((k * bnd : Nat) : Int) ≤ vl a 240 ∧ vl a 240 ≤ ((k * bnd : Nat) : Int)
theorem Fit.zero (t k : Nat) : Fit t k Dn.zero := by
  refine ⟨zero_may, Nat.zero_le _, ?_, ?_⟩ <;> rw [vl_zero] <;> omega
theorem formed_fit (s : Bool) (m k : Nat) (hm : m < capD) (hk : k ≤ 1024) : (formed s m k).2 = 0 := by
  unfold formed
  split
  · rfl
  · obtain ⟨j, h1, h2, h3, _⟩ := strip_spec k m
    have h4 : (strip k m).1 ≤ m := by
      have : 0 < 2 ^ j := Nat.two_pow_pos _
      calc (strip k m).1 ≤ (strip k m).1 * 2 ^ j := Nat.le_mul_of_pos_right _ this
        _ = m := h3.symm
    rw [if_pos ⟨by omega, by omega⟩]
theorem sg_abs (s : Bool) (m n : Nat) (h1 : -(n : Int) ≤ sg s m) (h2 : sg s m ≤ n) : m ≤ n := by
  unfold sg at h1 h2
  split at h1 <;> simp_all <;> omega
theorem add_fit {t i j : Nat} {a b : Dn} (ht : t ≤ 240) (hij : i + j ≤ 32) (ha : Fit t i a) (hb : Fit t j b) :
    (addD a b).2 = 0 ∧ Fit t (i + j) (addD a b).1 ∧ vl (addD a b).1 240 = vl a 240 + vl b 240 := by
  obtain ⟨a1, a2, a3, a4⟩ := ha
  obtain ⟨b1, b2, b3, b4⟩ := hb
  have hk : (i + j) * bnd = i * bnd + j * bnd := Nat.add_mul _ _ _
  have hle : (i + j) * bnd ≤ 32 * bnd := Nat.mul_le_mul_right _ hij
  have hcap := bnd_cap
  have hs := sum_vl a b (K := 240) (by omega) (by omega)
  have hcode : (addD a b).2 = 0 := by
    unfold addD
    refine formed_fit _ _ _ ?_ ?_
    · have h5 := sg_abs _ _ ((i + j) * bnd) (by rw [hs]; omega) (by rw [hs]; omega)
      have hp : 0 < 2 ^ (240 - max a.e b.e) := Nat.two_pow_pos _
      have h6 := Nat.le_mul_of_pos_right (plusS a.neg (a.m * 2 ^ (max a.e b.e - a.e)) b.neg (b.m * 2 ^ (max a.e b.e - b.e))).2 hp
      omega
    · have := max_le' a2 b2
      omega
  have v := add_vl hcode
  have v2 := v.2 240 (by omega) (by omega)
  have hmx := max_le' a2 b2
  exact ⟨hcode, ⟨add_may _ _, by omega, by omega, by omega⟩, v2⟩
theorem neg_fit {t i : Nat} {a : Dn} (ha : Fit t i a) : Fit t i (negD a) := by
  obtain ⟨a1, a2, a3, a4⟩ := ha
  exact ⟨neg_may a1, a2, by rw [vl_neg]; omega, by rw [vl_neg]; omega⟩
theorem sub_fit {t i j : Nat} {a b : Dn} (ht : t ≤ 240) (hij : i + j ≤ 32) (ha : Fit t i a) (hb : Fit t j b) :
    (subD a b).2 = 0 ∧ Fit t (i + j) (subD a b).1 ∧ vl (subD a b).1 240 = vl a 240 - vl b 240 := by
  obtain ⟨h1, h2, h3⟩ := add_fit ht hij ha (neg_fit hb)
  exact ⟨h1, h2, by unfold subD; rw [h3, vl_neg]; omega⟩
theorem mid_fit {t : Nat} {A B : Dn} (ht : t < 240) (ha : Fit t 1 A) (hb : Fit t 1 B) :
    ∃ m d, midD A B = ((m, d), 0) ∧ Fit (t + 1) 1 m ∧ 2 * vl m 240 = vl A 240 + vl B 240 := by
  obtain ⟨h1, h2, h3⟩ := add_fit (by omega) (by decide) ha hb
  have hh : (halfD (addD A B).1).2 = 0 := by
    unfold halfD
    exact formed_fit _ _ _ h2.1.1 (by have := h2.2.1; omega)
  have v := half_vl hh
  have v2 := v.2 240 (by have := h2.2.1; omega)
  have hm : Fit (t + 1) 1 (halfD (addD A B).1).1 := by
    obtain ⟨_, _, a3, a4⟩ := ha
    obtain ⟨_, _, b3, b4⟩ := hb
    exact ⟨half_may _, by have := v.1; have := h2.2.1; omega, by omega, by omega⟩
  have ha' : Fit (t + 1) 1 A := ⟨ha.1, by have := ha.2.1; omega, ha.2.2⟩
  obtain ⟨s1, s2, s3⟩ := sub_fit (by omega) (by decide) hm ha'
  refine ⟨(halfD (addD A B).1).1, (subD (halfD (addD A B).1).1 A).1, ?_, hm, by omega⟩
  unfold midD
  rw [if_pos ⟨h1, hh, s1⟩]
theorem Fit.more {t t' k : Nat} {a : Dn} (h : Fit t k a) (ht : t ≤ t') : Fit t' k a := ⟨h.1, by have := h.2.1; omega, h.2.2⟩
theorem far_fit {t : Nat} {l : List Dn} (ht : t ≤ 240) (hl : l ≠ []) (h : ∀ a ∈ l, Fit t 1 a) :
    ∃ lo hi c, endsL l = some (lo, hi) ∧ farL l = (c, 0) ∧ Fit t 2 c ∧ vl c 240 = vl hi 240 - vl lo 240 ∧ lo ∈ l ∧ hi ∈ l ∧ ∀ x ∈ l, vl lo 240 ≤ vl x 240 ∧ vl x 240 ≤ vl hi 240 := by
  obtain ⟨⟨lo, hi⟩, hq⟩ := endsL_some hl
  obtain ⟨e1, e2, e3⟩ := ends_spec 240 l hq fun x hx => by have := (h x hx).2.1; omega
  obtain ⟨s1, s2, s3⟩ := sub_fit ht (by decide) (h hi e2) (h lo e1)
  refine ⟨lo, hi, (subD hi lo).1, hq, ?_, s2, s3, e1, e2, e3⟩
  unfold farL
  rw [hq]
  show subD hi lo = _
  rw [← s1]
/-- Numbers that came to the middle of two are not farther apart. -/
theorem far_less {t t' : Nat} {l l' : List Dn} {A B m : Dn} (ht : t ≤ 240) (ht' : t' ≤ 240) (h : ∀ a ∈ l, Fit t 1 a) (h' : ∀ a ∈ l', Fit t' 1 a) (hl' : l' ≠ []) (hA : A ∈ l) (hB : B ∈ l)
    (hs : ∀ x ∈ l', x = m ∨ x ∈ l) (hm : 2 * vl m 240 = vl A 240 + vl B 240) : ∃ c c', farL l = (c, 0) ∧ farL l' = (c', 0) ∧ Fit t 2 c ∧ Fit t' 2 c' ∧ cmpD c' c ≤ 0 := by
  obtain ⟨lo, hi, c, _, f1, f2, f3, _, _, f4⟩ := far_fit ht (List.ne_nil_of_mem hA) h
  obtain ⟨lo', hi', c', _, g1, g2, g3, g5, g6, _⟩ := far_fit ht' hl' h'
  refine ⟨c, c', f1, g1, f2, g2, ?_⟩
  have key : ∀ x ∈ l', vl lo 240 ≤ vl x 240 ∧ vl x 240 ≤ vl hi 240 := fun x hx => by
    rcases hs x hx with rfl | hx
    · have := f4 A hA
      have := f4 B hB
      omega
    · exact f4 x hx
  have k1 := key lo' g5
  have k2 := key hi' g6
  rcases cmp_spec c' c (K := 240) (by have := g2.2.1; omega) (by have := f2.2.1; omega) with r | r | r <;> omega
/-- What stands amid meetings. -/
def Inv (t : Nat) (ms : List Mv) : Prop := ∀ m ∈ ms, m.may ∧ dnM m 0 = Dn.zero ∧ dnM m 1 = Dn.zero ∧ Fit t 1 (dnM m 2) ∧ Fit t 1 (dnM m 3)
/-- The sum of a column, in parts of 2^-240. -/
noncomputable def sumV (x : Nat) (ms : List Mv) : Int := (ms.map fun m => vl (dnM m x) 240).sum
theorem inv_fit {t : Nat} {ms : List Mv} (h : Inv t ms) {m : Mv} (hm : m ∈ ms) : ∀ x, x < 4 → Fit t 1 (dnM m x) :=
  four (by rw [(h m hm).2.1]; exact Fit.zero ..) (by rw [(h m hm).2.2.1]; exact Fit.zero ..) (h m hm).2.2.2.1 (h m hm).2.2.2.2
theorem fold_fit {t : Nat} (ht : t ≤ 240) : ∀ (ms : List Mv) (k : Nat) (R : Nat → Dn), k + ms.length ≤ 32 → (∀ m ∈ ms, ∀ x, x < 4 → Fit t 1 (dnM m x)) → (∀ x, x < 4 → Fit t k (R x)) →
    ∃ R', foldM R ms = some R' ∧ ∀ x, x < 4 → Fit t (k + ms.length) (R' x) ∧ vl (R' x) 240 = vl (R x) 240 + sumV x ms
  | [], k, R, _, _, hR => ⟨R, rfl, fun x hx => ⟨hR x hx, by simp [sumV]⟩⟩
  | m :: ms, k, R, hk, hm, hR => by
    have hlen : (m :: ms).length = ms.length + 1 := rfl
    have one : ∀ x, x < 4 → (addD (R x) (dnM m x)).2 = 0 ∧ Fit t (k + 1) (addD (R x) (dnM m x)).1 ∧ vl (addD (R x) (dnM m x)).1 240 = vl (R x) 240 + vl (dnM m x) 240 :=
      fun x hx => add_fit ht (by omega) (hR x hx) (hm m (by simp) x hx)
    obtain ⟨R', h1, h2⟩ := fold_fit ht ms (k + 1) (fun x => (addD (R x) (dnM m x)).1) (by omega) (fun y hy => hm y (by simp [hy])) fun x hx => (one x hx).2.1
    refine ⟨R', ?_, fun x hx => ?_⟩
    · rw [foldM_cons, if_pos fun x hx => (one x hx).1]
      exact h1
    · have e := h2 x hx
      have e2 : k + 1 + ms.length = k + (m :: ms).length := by omega
      rw [e2] at e
      refine ⟨e.1, ?_⟩
      have e3 := (one x hx).2.2
      have e4 : sumV x (m :: ms) = vl (dnM m x) 240 + sumV x ms := by simp [sumV]
      have e5 := e.2
      omega
theorem inv_sum {t : Nat} {ms : List Mv} (ht : t ≤ 240) (hl : ms.length ≤ 8) (h : Inv t ms) : ∃ R, sumM ms = (R, 0) ∧ ∀ x, x < 4 → (R x).May ∧ (R x).e ≤ 240 ∧ vl (R x) 240 = sumV x ms := by
  obtain ⟨R, h1, h2⟩ := fold_fit ht ms 0 zR (by omega) (fun m hm => inv_fit h hm) (fun x _ => Fit.zero ..)
  refine ⟨R, ?_, fun x hx => ?_⟩
  · unfold sumM
    rw [if_neg (by omega), if_neg (fun ⟨m, hm, hn⟩ => hn (h m hm).1), h1]
  · obtain ⟨f, v⟩ := h2 x hx
    refine ⟨f.1, by have := f.2.1; omega, ?_⟩
    rw [v]
    show vl Dn.zero 240 + _ = _
    rw [vl_zero]
    omega
/-- Two sums of the same value are the same. -/
theorem sum_same {R S : Nat → Dn} {ms ns : List Mv} (hR : ∀ x, x < 4 → (R x).May ∧ (R x).e ≤ 240 ∧ vl (R x) 240 = sumV x ms) (hS : ∀ x, x < 4 → (S x).May ∧ (S x).e ≤ 240 ∧ vl (S x) 240 = sumV x ns)
    (h : ∀ x, x < 4 → sumV x ms = sumV x ns) : ∀ x, x < 4 → S x = R x := fun x hx => by
  obtain ⟨a, b, c⟩ := hR x hx
  obtain ⟨d, e, f⟩ := hS x hx
  exact vl_inj d a e b (by rw [f, c, h x hx])
theorem inv_far {t : Nat} {ms : List Mv} (ht : t ≤ 240) (hl : ms.length ≤ 8) (hne : ms ≠ []) (h : Inv t ms) : ∃ c a, farM ms = ((c, a), 0) ∧ farL (colM 2 ms) = (c, 0) ∧ farL (colM 3 ms) = (a, 0) ∧ c.May ∧ a.May := by
  have hcol : ∀ x, colM x ms ≠ [] := fun x e => hne (by simpa [colM] using e)
  have hf : ∀ x, x < 4 → ∀ a ∈ colM x ms, Fit t 1 a := fun x hx a ha => by
    obtain ⟨m, hm, rfl⟩ := List.mem_map.1 ha
    exact inv_fit h hm x hx
  obtain ⟨_, _, c, _, f1, f2, _⟩ := far_fit ht (hcol 2) (hf 2 (by decide))
  obtain ⟨_, _, a, _, g1, g2, _⟩ := far_fit ht (hcol 3) (hf 3 (by decide))
  refine ⟨c, a, ?_, f1, g1, f2.1, g2.1⟩
  unfold farM
  rw [if_neg (by omega), if_neg (fun ⟨m, hm, hn⟩ => hn (h m hm).1), f1, g1, if_pos ⟨rfl, rfl⟩]
theorem far_none : farM [] = ((Dn.zero, Dn.zero), 6) := by
  unfold farM
  rw [if_neg (by simp), if_neg (by simp), if_neg (by simp [colM, farL_nil]), if_pos rfl]
theorem sum_set (l : List Int) (i : Nat) (v : Int) (h : i < l.length) : (l.set i v).sum = l.sum - l[i] + v := by
  induction l generalizing i with
  | nil => cases h
  | cons x l ih =>
    cases i with
    | zero => simp; omega
    | succ i =>
      have := ih i (by simpa using h)
      simp [this]
      omega
theorem sumV_set (x : Nat) (ms : List Mv) (i : Nat) (m : Mv) (h : i < ms.length) : sumV x (ms.set i m) = sumV x ms - vl (dnM ms[i] x) 240 + vl (dnM m x) 240 := by
  unfold sumV
  rw [List.map_set, sum_set _ _ _ (by simpa using h)]
  simp
/-- One meeting. -/
theorem inv_meet {t p q : Nat} {ms : List Mv} (ht : t < 240) (h : Inv t ms) (hl : ms.length ≤ 8) (hp : p < ms.length) (hq : q < ms.length) (hpq : p ≠ q) {w : World} {lo hi : Nat} (hA : MRows w lo hi ms[p]) :
    ∃ mR lR, meetM ms[p] ms[q] = ((mR, lR), 0) ∧ MayR mR ∧ MayR lR ∧ ∀ d, IsM lR d → ∃ T, doneM ms[p] d = (T, 0) ∧ MayR T ∧ ∀ m x, IsM mR m → IsM T x → Inv (t + 1) ((ms.set q m).set p x) ∧
      (∀ j, j < 4 → sumV j ((ms.set q m).set p x) = sumV j ms) ∧
      ∃ c a c' a', farM ms = ((c, a), 0) ∧ farM ((ms.set q m).set p x) = ((c', a'), 0) ∧ cmpD c' c ≤ 0 ∧ cmpD a' a ≤ 0 := by
  have iA := h ms[p] (List.getElem_mem hp)
  have iB := h ms[q] (List.getElem_mem hq)
  obtain ⟨m2, d2, e2, f2, v2⟩ := mid_fit ht iA.2.2.2.1 iB.2.2.2.1
  obtain ⟨m3, d3, e3, f3, v3⟩ := mid_fit ht iA.2.2.2.2 iB.2.2.2.2
  obtain ⟨mR, lR, hmeet⟩ : ∃ mR lR, meetM ms[p] ms[q] = ((mR, lR), 0) := by
    unfold meetM
    rw [if_pos ⟨iA.1, iB.1⟩, e2, e3, if_pos ⟨rfl, rfl⟩]
    exact ⟨_, _, rfl⟩
  obtain ⟨_, z2, z3, r0, r1, l0, l1⟩ := meet_zero hmeet
  rw [e2] at z2
  rw [e3] at z3
  injection z2 with z2 _
  injection z3 with z3 _
  injection z2 with a2 b2
  injection z3 with a3 b3
  obtain ⟨_, _, _, _, _, _, n2⟩ := mid_law e2
  obtain ⟨_, _, _, _, _, _, n3⟩ := mid_law e3
  have hM : MayR mR := four (by rw [r0, iB.2.1]; exact zero_may) (by rw [r1, iB.2.2.1]; exact zero_may) (a2 ▸ f2.1) (a3 ▸ f3.1)
  have hL : MayR lR := four (l0 ▸ zero_may) (l1 ▸ zero_may) (b2 ▸ n2) (b3 ▸ n3)
  refine ⟨mR, lR, hmeet, hM, hL, fun d hd => ?_⟩
  obtain ⟨T, hT, t0, t1, t2, t3⟩ := done_law hA hmeet hd
  rw [iA.2.1] at t0
  rw [iA.2.2.1] at t1
  have hTM : MayR T := four (t0 ▸ zero_may) (t1 ▸ zero_may) (by rw [t2, ← a2]; exact f2.1) (by rw [t3, ← a3]; exact f3.1)
  refine ⟨T, hT, hTM, fun m x hm hx => ?_⟩
  have dm := hm.dnm
  have dx := hx.dnm
  have hmem : ∀ y ∈ (ms.set q m).set p x, y = x ∨ y = m ∨ y ∈ ms := fun y hy => by
    rcases List.mem_or_eq_of_mem_set hy with hy | rfl
    · rcases List.mem_or_eq_of_mem_set hy with hy | rfl
      · exact .inr (.inr hy)
      · exact .inr (.inl rfl)
    · exact .inl rfl
  have hone : ∀ y, y = x ∨ y = m → y.may ∧ dnM y 0 = Dn.zero ∧ dnM y 1 = Dn.zero ∧ dnM y 2 = m2 ∧ dnM y 3 = m3 := fun y hy => by
    rcases hy with rfl | rfl
    · exact ⟨hx.may hTM, by rw [dx 0 (by decide), t0], by rw [dx 1 (by decide), t1], by rw [dx 2 (by decide), t2, a2], by rw [dx 3 (by decide), t3, a3]⟩
    · exact ⟨hm.may hM, by rw [dm 0 (by decide), r0, iB.2.1], by rw [dm 1 (by decide), r1, iB.2.2.1], by rw [dm 2 (by decide), a2], by rw [dm 3 (by decide), a3]⟩
  have hinv : Inv (t + 1) ((ms.set q m).set p x) := fun y hy => by
    rcases hmem y hy with k | k | k
    · obtain ⟨k0, k1, k2, k3, k4⟩ := hone y (.inl k)
      exact ⟨k0, k1, k2, k3 ▸ f2, k4 ▸ f3⟩
    · obtain ⟨k0, k1, k2, k3, k4⟩ := hone y (.inr k)
      exact ⟨k0, k1, k2, k3 ▸ f2, k4 ▸ f3⟩
    · obtain ⟨k0, k1, k2, k3, k4⟩ := h y k
      exact ⟨k0, k1, k2, k3.more (by omega), k4.more (by omega)⟩
  have hne : ms ≠ [] := fun e => by rw [e] at hp; exact absurd hp (Nat.not_lt_zero _)
  have hlen : ((ms.set q m).set p x).length = ms.length := by simp
  have hne' : (ms.set q m).set p x ≠ [] := fun e => hne (List.eq_nil_of_length_eq_zero (by rw [← hlen, e]; rfl))
  obtain ⟨c, a, hf, hfc, hfa, _⟩ := inv_far (by omega) hl hne h
  obtain ⟨c', a', hf', hfc', hfa', _⟩ := inv_far (by omega) (by omega) hne' hinv
  have hless : ∀ j, j < 4 → ∀ {M : Dn}, dnM x j = M → dnM m j = M → 2 * vl M 240 = vl (dnM ms[p] j) 240 + vl (dnM ms[q] j) 240 → ∀ {c c' : Dn}, farL (colM j ms) = (c, 0) → farL (colM j ((ms.set q m).set p x)) = (c', 0) → cmpD c' c ≤ 0 := by
    intro j hj M k1 k2 k3 c c' g1 g2
    have inj : ∀ {ns : List Mv} {t : Nat}, Inv t ns → ∀ a ∈ colM j ns, Fit t 1 a := fun hn a ha => by
      obtain ⟨y, hy, rfl⟩ := List.mem_map.1 ha
      exact inv_fit hn hy j hj
    obtain ⟨e, e', g3, g4, _, _, g5⟩ := far_less (t := t) (t' := t + 1) (l := colM j ms) (l' := colM j ((ms.set q m).set p x)) (A := dnM ms[p] j) (B := dnM ms[q] j) (m := M) (by omega) (by omega) (inj h) (inj hinv)
      (fun e => hne' (by simpa [colM] using e)) (List.mem_map_of_mem (List.getElem_mem hp)) (List.mem_map_of_mem (List.getElem_mem hq))
      (fun y hy => by
        obtain ⟨z, hz, rfl⟩ := List.mem_map.1 hy
        rcases hmem z hz with rfl | rfl | hz
        · exact .inl k1
        · exact .inl k2
        · exact .inr (List.mem_map_of_mem hz)) k3
    rw [g1] at g3
    rw [g2] at g4
    injection g3 with g3 _
    injection g4 with g4 _
    subst g3 g4
    exact g5
  obtain ⟨_, _, _, x2, x3⟩ := hone x (.inl rfl)
  obtain ⟨_, y0, y1, y2, y3⟩ := hone m (.inr rfl)
  obtain ⟨_, x0, x1, _, _⟩ := hone x (.inl rfl)
  refine ⟨hinv, fun j hj => ?_, c, a, c', a', hf, hf', hless 2 (by decide) x2 y2 v2 hfc hfc', hless 3 (by decide) x3 y3 v3 hfa hfa'⟩
  rw [sumV_set _ _ _ _ (by simpa using hp), sumV_set _ _ _ _ hq]
  have hg : (ms.set q m)[p]'(by simpa using hp) = ms[p] := by
    rw [List.getElem_set_ne (by omega)]
  rw [hg]
  have hv : vl (dnM m j) 240 + vl (dnM x j) 240 = vl (dnM ms[p] j) 240 + vl (dnM ms[q] j) 240 := by
    revert j
    refine four ?_ ?_ ?_ ?_
    · rw [x0, y0, iA.2.1, iB.2.1]
    · rw [x1, y1, iA.2.2.1, iB.2.2.1]
    · rw [x2, y2]; omega
    · rw [x3, y3]; omega
  omega
end Ma
end Go.Proofs.YtlbkepiflhchdaaDoor
namespace Go.Proofs.YtlbkepiflhchdaaDoor
open Go.RowKit
namespace Ma
open Dp Dy
/-- A mass's cells. -/
def cells12 (m : Mv) : List Value := [.bool m.S.s, .slice m.S.A m.S.n m.S.c, .int .i64 m.S.e, .bool m.W.s, .slice m.W.A m.W.n m.W.c, .int .i64 m.W.e, .bool m.C.s, .slice m.C.A m.C.n m.C.c, .int .i64 m.C.e, .bool m.A.s, .slice m.A.A m.A.n m.A.c, .int .i64 m.A.e]
/-- Those of masses. -/
def flatM : List Mv → List Value
  | [] => []
  | m :: l => cells12 m ++ flatM l
theorem flatM_append : ∀ l k, flatM (l ++ k) = flatM l ++ flatM k
  | [], _ => rfl
  | m :: l, k => by simp [flatM, flatM_append l k]
theorem flatM_one (m : Mv) : flatM [m] = cells12 m := by simp [flatM]
theorem cells12_one (m : Mv) : ∀ u ∈ cells12 m, u.oneCell' = true := by
  intro u hu
  simp only [cells12, List.mem_cons, List.not_mem_nil, or_false] at hu
  rcases hu with rfl | rfl | rfl | rfl | rfl | rfl | rfl | rfl | rfl | rfl | rfl | rfl <;> rfl
theorem flatM_get : ∀ (l : List Mv) (j k : Nat) (h : j < l.length), k < 12 → (flatM l)[j * 12 + k]? = (cells12 l[j])[k]?
  | [], j, k, h, _ => absurd h (Nat.not_lt_zero _)
  | m :: l, 0, k, _, hk => by
    simp only [flatM, Nat.zero_mul, Nat.zero_add, List.getElem_cons_zero]
    rw [List.getElem?_append_left (by simp [cells12]; omega)]
  | m :: l, j + 1, k, h, hk => by
    have e : (j + 1) * 12 + k = (cells12 m).length + (j * 12 + k) := by simp [cells12]; omega
    simp only [flatM, List.getElem_cons_succ]
    rw [e, List.getElem?_append_right (by omega), Nat.add_sub_cancel_left]
    exact flatM_get l j k (by simpa using h) hk
theorem mcells_of {w : World} {b o : Nat} {m : Mv} (h : ∀ k, k < 12 → w.cell? ⟨b, o + k, none⟩ = (cells12 m)[k]?) : MCells w b o m :=
  ⟨h 0 (by decide), h 1 (by decide), h 2 (by decide), h 3 (by decide), h 4 (by decide), h 5 (by decide), h 6 (by decide), h 7 (by decide), h 8 (by decide), h 9 (by decide), h 10 (by decide), h 11 (by decide)⟩
/-- A dyad's limbs lie in another block. -/
def Dv.off (d : Dv) (g : Option Nat) : Prop := ∀ a, d.A = some a → 0 < d.n → g ≠ some a.block
def Mv.off (m : Mv) (g : Option Nat) : Prop := ∀ x, x < 4 → (m.get x).off g
theorem ints_grown {w w' : World} {row : Option Nat} {k : IntKind} {A : Option Addr} {n : Nat} {xs : List Int} (h : Ints w 0 w.heap.size k A n xs) (hg : w.grownBy w' row) (hr : ∀ a, A = some a → 0 < n → row ≠ some a.block) : Ints w' 0 w'.heap.size k A n xs := by
  refine ⟨h.len, h.wf, h.big, fun h0 => ?_⟩
  obtain ⟨b, off, e, h1, h2, hc⟩ := h.row h0
  have hb := hg.block b h2 (fun k => hr _ e h0 k.symm)
  exact ⟨b, off, e, h1, Nat.lt_of_lt_of_le h2 hg.size, fun j hj => ⟨(World.cell?_of_block hb).trans (hc j hj).1, (World.frozen?_of_block hb).trans (hc j hj).2⟩⟩
theorem rows_grown {w w' : World} {row : Option Nat} {m : Mv} (h : MRows w 0 w.heap.size m) (hg : w.grownBy w' row) (hr : m.off row) : MRows w' 0 w'.heap.size m :=
  ⟨ints_grown h.S hg (hr 0 (by decide)), ints_grown h.W hg (hr 1 (by decide)), ints_grown h.C hg (hr 2 (by decide)), ints_grown h.A hg (hr 3 (by decide))⟩
/-- Rows below a block, or behind it, are off it. -/
theorem rows_off {w : World} {lo hi : Nat} {m : Mv} (h : MRows w lo hi m) {g : Option Nat} (hg : ∀ k, g = some k → k < lo ∨ hi ≤ k) : m.off g := fun x _ a e h0 hk => by
  obtain ⟨b, off, e', h1, h2, _⟩ := (h.get x).row h0
  rw [e'] at e
  injection e with e
  subst e
  have := hg _ hk
  simp only at this
  omega
theorem grown_of_below {w w' : World} (hb : Below w.heap.size w w') (row : Option Nat) : w.grownBy w' row := ⟨hb.os, hb.tape, hb.output, hb.size, fun k hk _ => hb.block k hk⟩
/-- A list of masses that the call owns. -/
structure OwnM (w : World) (base : Nat) (v : Value) (n : Nat) (ms : List Mv) : Prop where
  own : w.ownsRow base 39 12 v n (flatM ms)
  len : ms.length = n
  rows : ∀ m ∈ ms, MRows w 0 w.heap.size m
  off : ∀ m ∈ ms, m.off v.ownBlock
theorem OwnM.nil_ (w : World) (base : Nat) : OwnM w base (.slice none 0 0) 0 [] := ⟨World.ownsRow_nil .., rfl, fun _ h => absurd h (by simp), fun _ h => absurd h (by simp)⟩
theorem OwnM.on {w w' : World} {base : Nat} {v : Value} {n : Nat} {ms : List Mv} (h : OwnM w base v n ms) (hb : Below w.heap.size w w') : OwnM w' base v n ms :=
  ⟨h.own.kept (grown_of_below hb none) (by cases v.ownBlock <;> simp), h.len, fun m hm => ((h.rows m hm).below hb (Nat.le_refl _)).more (Nat.le_refl _) hb.size, h.off⟩
theorem OwnM.push {w w' : World} {base : Nat} {v v' : Value} {n : Nat} {ms : List Mv} (h : OwnM w base v n ms) {d : Mv} (hd : MRows w 0 w.heap.size d) (ho : d.off v.ownBlock)
    (hown : w'.ownsRow base 39 12 v' (n + 1) (flatM ms ++ cells12 d)) (hg : w.grownBy w' v.ownBlock) (hob : v'.ownBlock = v.ownBlock ∨ v'.ownBlock = some w.heap.size) : OwnM w' base v' (n + 1) (ms ++ [d]) := by
  refine ⟨by rw [flatM_append, flatM_one]; exact hown, by simp [h.len], fun m hm => ?_, fun m hm => ?_⟩
  · rcases List.mem_append.1 hm with hm | hm
    · exact rows_grown (h.rows m hm) hg (h.off m hm)
    · obtain rfl : m = d := by simpa using hm
      exact rows_grown hd hg ho
  · have hrow : MRows w 0 w.heap.size m ∧ m.off v.ownBlock := by
      rcases List.mem_append.1 hm with hm | hm
      · exact ⟨h.rows m hm, h.off m hm⟩
      · obtain rfl : m = d := by simpa using hm
        exact ⟨hd, ho⟩
    rcases hob with e | e
    · rw [e]
      exact hrow.2
    · rw [e]
      exact rows_off hrow.1 fun k hk => by
        injection hk with hk
        omega
theorem OwnM.shape {w : World} {base : Nat} {v : Value} {n : Nat} {ms : List Mv} (h : OwnM w base v n ms) : ∃ A c, v = .slice A n c ∧ n ≤ c ∧ c ≤ maxLen := own_shape h.own
/-- It reads as a list. -/
theorem OwnM.lms {w : World} {base c : Nat} {A : Option Addr} {n : Nat} {ms : List Mv} (h : OwnM w base (.slice A n c) n ms) : LMs w 0 w.heap.size A n ms := by
  have hcap : n ≤ 9223372036854775807 := by
    obtain ⟨A', c', e, h1, h2⟩ := own_shape h.own
    unfold maxLen at h2
    omega
  refine ⟨h.len, hcap, fun h0 => ?_, fun j hj => h.rows _ (List.getElem_mem hj)⟩
  rcases h.own.2 with ⟨e, e0⟩ | ⟨g, cap, cur, e, hb, hg, _⟩
  · omega
  · have hown := h.own
    rw [e] at hown
    injection e with e1 e2 e3
    refine ⟨g, 0, e1, Nat.zero_le _, (Array.getElem?_eq_some_iff.1 hg).1, fun j hj => ?_⟩
    rw [Nat.zero_add]
    refine mcells_of fun k hk => ?_
    have hlt : j * 12 + k < n * 12 := by have := h.len; omega
    rw [hown.cellAt (j * 12 + k) hlt]
    exact flatM_get ms j k hj hk
theorem LMs.on {w w' : World} {A : Option Addr} {n : Nat} {ms : List Mv} (h : LMs w 0 w.heap.size A n ms) (hb : Below w.heap.size w w') : LMs w' 0 w'.heap.size A n ms := (h.below hb (Nat.le_refl _)).more (Nat.le_refl _) hb.size
/-- One mass in a block of its own, to be appended. -/
theorem raw_oneM (w : World) (m : Mv) {W : World} (hW : w.alloc (.cells #[.bool m.S.s, .slice m.S.A m.S.n m.S.c, .int .i64 m.S.e, .bool m.W.s, .slice m.W.A m.W.n m.W.c, .int .i64 m.W.e, .bool m.C.s, .slice m.C.A m.C.n m.C.c, .int .i64 m.C.e, .bool m.A.s, .slice m.A.A m.A.n m.A.c, .int .i64 m.A.e] 39) = W) : Raw W 0 (w.heap.size + 1) (some ⟨w.heap.size, 0, none⟩) (1 * 12) (cells12 m) := by
  subst hW
  have hX := heap_alloc_last w (.cells #[.bool m.S.s, .slice m.S.A m.S.n m.S.c, .int .i64 m.S.e, .bool m.W.s, .slice m.W.A m.W.n m.W.c, .int .i64 m.W.e, .bool m.C.s, .slice m.C.A m.C.n m.C.c, .int .i64 m.C.e, .bool m.A.s, .slice m.A.A m.A.n m.A.c, .int .i64 m.A.e] 39)
  refine ⟨rfl, fun _ => ⟨w.heap.size, 0, rfl, Nat.zero_le _, by omega, fun j hj => ⟨?_, frozen_of_row _ _ _ _ _ hX⟩⟩⟩
  rw [cell_of_row _ _ _ _ _ _ hX]
  simp [cells12]
end Ma
end Go.Proofs.YtlbkepiflhchdaaDoor
namespace Go.Proofs.YtlbkepiflhchdaaDoor
open Go.RowKit
namespace Ma
open Dp Dy
def sets12 (xs : List Value) (o : Nat) (m : Mv) : List Value := ((((((((((((xs.set (o) (.bool m.S.s)).set (o + 1) (.slice m.S.A m.S.n m.S.c)).set (o + 2) (.int .i64 m.S.e)).set (o + 3) (.bool m.W.s)).set (o + 4) (.slice m.W.A m.W.n m.W.c)).set (o + 5) (.int .i64 m.W.e)).set (o + 6) (.bool m.C.s)).set (o + 7) (.slice m.C.A m.C.n m.C.c)).set (o + 8) (.int .i64 m.C.e)).set (o + 9) (.bool m.A.s)).set (o + 10) (.slice m.A.A m.A.n m.A.c)).set (o + 11) (.int .i64 m.A.e))
theorem sets12_app (l xs : List Value) (o : Nat) (m : Mv) : sets12 (l ++ xs) (l.length + o) m = l ++ sets12 xs o m := by
  unfold sets12
  simp only [Nat.add_assoc, List.set_append_right _ _ (Nat.le_add_right _ _), Nat.add_sub_cancel_left]
theorem sets12_head (a m : Mv) (xs : List Value) : sets12 (cells12 a ++ xs) 0 m = cells12 m ++ xs := rfl
theorem flatM_set : ∀ (l : List Mv) (q : Nat) (m : Mv), q < l.length → flatM (l.set q m) = sets12 (flatM l) (q * 12) m
  | [], q, m, h => absurd h (Nat.not_lt_zero _)
  | a :: l, 0, m, _ => by
    show cells12 m ++ flatM l = _
    rw [Nat.zero_mul]
    exact (sets12_head a m (flatM l)).symm
  | a :: l, q + 1, m, h => by
    have ih := flatM_set l q m (by simpa using h)
    have e : (q + 1) * 12 = (cells12 a).length + q * 12 := by simp [cells12]; omega
    show cells12 a ++ flatM (l.set q m) = sets12 (cells12 a ++ flatM l) ((q + 1) * 12) m
    rw [e, sets12_app, ih]
/-- A mass is stored. -/
theorem OwnM.put {w : World} {base g o n c : Nat} {ms : List Mv} (h : OwnM w base (.slice (some ⟨g, o, none⟩) n c) n ms) (ho : o = 0) {q : Nat} (hq : q < ms.length) (m : Mv) (hm : MRows w 0 w.heap.size m) (hoff : m.off (some g)) :
    ∃ U, ((((((((((((w.setCell ⟨g, o + q * 12, none⟩ (.bool m.S.s)).setCell ⟨g, o + q * 12 + 1, none⟩ (.slice m.S.A m.S.n m.S.c)).setCell ⟨g, o + q * 12 + 2, none⟩ (.int .i64 m.S.e)).setCell ⟨g, o + q * 12 + 3, none⟩ (.bool m.W.s)).setCell ⟨g, o + q * 12 + 4, none⟩ (.slice m.W.A m.W.n m.W.c)).setCell ⟨g, o + q * 12 + 5, none⟩ (.int .i64 m.W.e)).setCell ⟨g, o + q * 12 + 6, none⟩ (.bool m.C.s)).setCell ⟨g, o + q * 12 + 7, none⟩ (.slice m.C.A m.C.n m.C.c)).setCell ⟨g, o + q * 12 + 8, none⟩ (.int .i64 m.C.e)).setCell ⟨g, o + q * 12 + 9, none⟩ (.bool m.A.s)).setCell ⟨g, o + q * 12 + 10, none⟩ (.slice m.A.A m.A.n m.A.c)).setCell ⟨g, o + q * 12 + 11, none⟩ (.int .i64 m.A.e)) = U ∧ OwnM U base (.slice (some ⟨g, o, none⟩) n c) n (ms.set q m) ∧ (∀ w0 B, Below B w0 w → B ≤ g → Below B w0 U) ∧ (∀ j, j ≠ g → U.heap[j]? = w.heap[j]?) ∧ U.heap.size ≤ w.heap.size ∧ w.heap.size ≤ U.heap.size := by
  subst ho
  refine ⟨_, rfl, ?_, ?_, ?_, ?_, ?_⟩
  · have e : ∀ (x : Nat), 0 + x = x := Nat.zero_add
    have hown := h.own
    have k1 := World.ownsRow.stored hown (q * 12) (.bool m.S.s)
    have k2 := World.ownsRow.stored k1.1 (q * 12 + 1) (.slice m.S.A m.S.n m.S.c)
    have k3 := World.ownsRow.stored k2.1 (q * 12 + 2) (.int .i64 m.S.e)
    have k4 := World.ownsRow.stored k3.1 (q * 12 + 3) (.bool m.W.s)
    have k5 := World.ownsRow.stored k4.1 (q * 12 + 4) (.slice m.W.A m.W.n m.W.c)
    have k6 := World.ownsRow.stored k5.1 (q * 12 + 5) (.int .i64 m.W.e)
    have k7 := World.ownsRow.stored k6.1 (q * 12 + 6) (.bool m.C.s)
    have k8 := World.ownsRow.stored k7.1 (q * 12 + 7) (.slice m.C.A m.C.n m.C.c)
    have k9 := World.ownsRow.stored k8.1 (q * 12 + 8) (.int .i64 m.C.e)
    have k10 := World.ownsRow.stored k9.1 (q * 12 + 9) (.bool m.A.s)
    have k11 := World.ownsRow.stored k10.1 (q * 12 + 10) (.slice m.A.A m.A.n m.A.c)
    have k12 := World.ownsRow.stored k11.1 (q * 12 + 11) (.int .i64 m.A.e)
    have hg : w.grownBy ((((((((((((w.setCell ⟨g, q * 12, none⟩ (.bool m.S.s)).setCell ⟨g, q * 12 + 1, none⟩ (.slice m.S.A m.S.n m.S.c)).setCell ⟨g, q * 12 + 2, none⟩ (.int .i64 m.S.e)).setCell ⟨g, q * 12 + 3, none⟩ (.bool m.W.s)).setCell ⟨g, q * 12 + 4, none⟩ (.slice m.W.A m.W.n m.W.c)).setCell ⟨g, q * 12 + 5, none⟩ (.int .i64 m.W.e)).setCell ⟨g, q * 12 + 6, none⟩ (.bool m.C.s)).setCell ⟨g, q * 12 + 7, none⟩ (.slice m.C.A m.C.n m.C.c)).setCell ⟨g, q * 12 + 8, none⟩ (.int .i64 m.C.e)).setCell ⟨g, q * 12 + 9, none⟩ (.bool m.A.s)).setCell ⟨g, q * 12 + 10, none⟩ (.slice m.A.A m.A.n m.A.c)).setCell ⟨g, q * 12 + 11, none⟩ (.int .i64 m.A.e)) (some g) := (((((((((((k1.2.trans k2.2).trans k3.2).trans k4.2).trans k5.2).trans k6.2).trans k7.2).trans k8.2).trans k9.2).trans k10.2).trans k11.2).trans k12.2)
    have hrows : ∀ y ∈ ms.set q m, MRows w 0 w.heap.size y ∧ y.off (some g) := fun y hy => by
      rcases List.mem_or_eq_of_mem_set hy with hy | rfl
      · exact ⟨h.rows y hy, h.off y hy⟩
      · exact ⟨hm, hoff⟩
    simp only [e]
    exact ⟨by rw [flatM_set ms q m hq]; exact k12.1, by simp [h.len], fun y hy => rows_grown (hrows y hy).1 hg (hrows y hy).2, fun y hy => (hrows y hy).2⟩
  · intro w0 B hb hg
    exact ((((((((((((hb.setCell hg _).setCell hg _).setCell hg _).setCell hg _).setCell hg _).setCell hg _).setCell hg _).setCell hg _).setCell hg _).setCell hg _).setCell hg _).setCell hg _)
  · intro j hj
    exact ((Below.heap_setCell _ _ _ _ hj).trans ((Below.heap_setCell _ _ _ _ hj).trans ((Below.heap_setCell _ _ _ _ hj).trans ((Below.heap_setCell _ _ _ _ hj).trans ((Below.heap_setCell _ _ _ _ hj).trans ((Below.heap_setCell _ _ _ _ hj).trans ((Below.heap_setCell _ _ _ _ hj).trans ((Below.heap_setCell _ _ _ _ hj).trans ((Below.heap_setCell _ _ _ _ hj).trans ((Below.heap_setCell _ _ _ _ hj).trans ((Below.heap_setCell _ _ _ _ hj).trans (Below.heap_setCell _ _ _ _ hj))))))))))))
  · simp [World.setCell]
  · simp [World.setCell]
/-- The cells of one of an own list. -/
theorem OwnM.mcells {w : World} {base g o n c : Nat} {ms : List Mv} (h : OwnM w base (.slice (some ⟨g, o, none⟩) n c) n ms) (ho : o = 0) {q : Nat} (hq : q < ms.length) : MCells w g (o + q * 12) ms[q] := by
  subst ho
  refine mcells_of fun k hk => ?_
  rw [Nat.zero_add, h.own.cellAt (q * 12 + k) (by have := h.len; omega)]
  exact flatM_get ms q k hq hk
theorem OwnM.frz {w : World} {base g o n c : Nat} {ms : List Mv} (h : OwnM w base (.slice (some ⟨g, o, none⟩) n c) n ms) (ho : o = 0) (j : Nat) : w.frozen? ⟨g, j, none⟩ = false := by
  subst ho
  exact h.own.frozenAt j
end Ma
end Go.Proofs.YtlbkepiflhchdaaDoor
namespace Go.Proofs.YtlbkepiflhchdaaDoor
open Go.RowKit
namespace Ma
open Dp Dy
theorem sg_le (s : Bool) (m n : Nat) (h : m ≤ n) : -(n : Int) ≤ sg s m ∧ sg s m ≤ (n : Int) := by
  unfold sg
  split <;> omega
theorem fit_start {w : World} {lo hi : Nat} {d : Dv} (hR : Ints w lo hi .u32 d.A d.n d.xs) (hm : d.may) (hn : d.n ≤ 8) (he : d.e ≤ 200) : Fit 200 1 (dn d.s d.xs d.e) := by
  have hd : Dig 4294967296 d.xs := dig_ints hR
  have hm1 := (may_dn hd hm).1
  have he0 : 0 ≤ d.e := hm.2.1
  have hlen : d.xs.length ≤ 8 := by rw [hR.len]; exact hn
  have hnum : num 4294967296 d.xs < 4294967296 ^ 8 := by
    have := take_lt (B := 4294967296) (by decide) hd 8
    rwa [List.take_of_length_le hlen] at this
  rw [pow32] at hnum
  have hb : bnd = 2 ^ (32 * 8) * 2 ^ 240 := by
    rw [← Nat.pow_add, show 32 * 8 + 240 = capB from rfl]
    rfl
  have hle : num 4294967296 d.xs * 2 ^ (240 - d.e.toNat) ≤ 1 * bnd := by
    rw [hb, Nat.one_mul]
    exact Nat.mul_le_mul (Nat.le_of_lt hnum) (Nat.pow_le_pow_right (by decide) (by omega))
  obtain ⟨v1, v2⟩ := sg_le d.s _ _ hle
  refine ⟨hm1, ?_, v1, v2⟩
  show d.e.toNat ≤ 200
  omega
theorem Inv.more {t t' : Nat} {ms : List Mv} (h : Inv t ms) (ht : t ≤ t') : Inv t' ms := fun m hm => by
  obtain ⟨h0, h1, h2, h3, h4⟩ := h m hm
  exact ⟨h0, h1, h2, h3.more ht, h4.more ht⟩
theorem inv_snoc {w : World} {lo hi : Nat} {os : List Mv} {d M : Mv} (h : Inv 200 os) (hM : M = ⟨ZM.S, ZM.W, d.C, d.A⟩) (hR : MRows w lo hi d) (hm : M.may) (c8 : d.C.n ≤ 8) (a8 : d.A.n ≤ 8) (c2 : d.C.e ≤ 200) (a2 : d.A.e ≤ 200) : Inv 200 (os ++ [M]) := fun m hm' => by
  rcases List.mem_append.1 hm' with k | k
  · exact h m k
  · obtain rfl : m = M := by simpa using k
    subst hM
    exact ⟨hm, rfl, rfl, fit_start hR.C (hm 2 (by decide)) c8 c2, fit_start hR.A (hm 3 (by decide)) a8 a2⟩
theorem OwnM.grown {w w' : World} {base : Nat} {v : Value} {n : Nat} {ms : List Mv} (h : OwnM w base v n ms) {row : Option Nat} (hg : w.grownBy w' row) (hv : v.ownBlock ≠ row) (ho : ∀ m ∈ ms, m.off row) : OwnM w' base v n ms :=
  ⟨h.own.kept hg (.inr hv), h.len, fun m hm => rows_grown (h.rows m hm) hg (ho m hm), h.off⟩
theorem grown_put {w U : World} {g : Nat} (hb : ∀ w0 B, Below B w0 w → B ≤ g → Below B w0 U) (hf : ∀ j, j ≠ g → U.heap[j]? = w.heap[j]?) : w.grownBy U (some g) := by
  have h0 := hb w 0 (Below.refl 0 w) (Nat.zero_le _)
  exact ⟨h0.os, h0.tape, h0.output, h0.size, fun k _ hk => hf k fun e => hk (by rw [e])⟩
theorem OwnM.addr {w : World} {base n c : Nat} {A : Option Addr} {ms : List Mv} (h : OwnM w base (.slice A n c) n ms) (hn : 0 < n) : ∃ g o, A = some ⟨g, o, none⟩ ∧ o = 0 ∧ base ≤ g ∧ g < w.heap.size := by
  rcases h.own.2 with ⟨_, e0⟩ | ⟨g, cap, cur, e, hb, hg, _⟩
  · omega
  · injection e with e1 e2 e3
    exact ⟨g, 0, e1, rfl, hb, (Array.getElem?_eq_some_iff.1 hg).1⟩
theorem dv_off {w : World} {lo hi : Nat} {d : Dv} (h : Ints w lo hi .u32 d.A d.n d.xs) {k : Nat} (hk : k < lo ∨ hi ≤ k) : d.off (some k) := fun a e h0 hk' => by
  obtain ⟨b, off, e', h1, h2, _⟩ := h.row h0
  rw [e'] at e
  injection e with e
  subst e
  injection hk' with hk'
  simp only at hk'
  omega
/-- What is told of masses. -/
theorem far_start {os : List Mv} (h : Inv 200 os) (hl : os.length ≤ 8) : ∃ c a fc, farM os = ((c, a), fc) ∧ ((os.length = 0 ∧ fc = 6) ∨ (0 < os.length ∧ fc = 0)) ∧ c.May ∧ a.May := by
  by_cases hne : os = []
  · subst hne
    exact ⟨_, _, _, far_none, .inl ⟨rfl, rfl⟩, zero_may, zero_may⟩
  · obtain ⟨c, a, hf, _, _, hc, ha⟩ := inv_far (by decide) hl hne h
    exact ⟨c, a, 0, hf, .inr ⟨by cases os with | nil => exact absurd rfl hne | cons => simp, rfl⟩, hc, ha⟩
end Ma
end Go.Proofs.YtlbkepiflhchdaaDoor
namespace Go.Proofs.YtlbkepiflhchdaaDoor
open Go.RowKit
namespace Ma
open Dp Dy
set_option maxHeartbeats 3200000 in
set_option maxRecDepth 100000 in
/-- Two empty cells, and the functions that hold them. -/
theorem ends_any (w : World) :
    Calls Tryd.prog 77 #[] w fun e w' => e = .returned (.tuple #[.func (.func 105) #[] #[.pointer (some ⟨w.heap.size, 0, none⟩), .pointer (some ⟨w.heap.size + 1, 0, none⟩)], .func (.func 106) #[] #[.pointer (some ⟨w.heap.size, 0, none⟩), .pointer (some ⟨w.heap.size + 1, 0, none⟩)]]) ∧
      Below w.heap.size w w' ∧ w'.heap[w.heap.size]? = some (.cells #[.pointer none] 101 (0, 0)) ∧ w'.heap[w.heap.size + 1]? = some (.cells #[.pointer none] 101 (0, 0)) := by
  go_enter Tryd.func77, Tryd.ntmps77
  go_wp2
  go_ret2
  obtain ⟨h1, h2, h3, _, _⟩ := boxes2 w (.cells #[.pointer none] 101) (.cells #[.pointer none] 101) rfl
  exact ⟨rfl, h3, h1, h2⟩
end Ma
end Go.Proofs.YtlbkepiflhchdaaDoor
namespace Go.Proofs.YtlbkepiflhchdaaDoor
open Go.RowKit
namespace Ma
open Dp Dy
/-- A dyad in a box of its own. -/
def DBox (w : World) (g : Nat) (d : Dv) : Prop := w.heap[g]? = some (.cells #[.bool d.s, .slice d.A d.n d.c, .int .i64 d.e] 24 (0, 0))
/-- A pointer in a cell of its own. -/
def PBox (w : World) (g : Nat) (p : Option Addr) : Prop := w.heap[g]? = some (.cells #[.pointer p] 101 (0, 0))
/-- What the two cells of 'ends' hold. -/
def Ends (w : World) (B gl gh : Nat) : Option (Dn × Dn) → Prop
  | none => PBox w gl none ∧ PBox w gh none
  | some (lo, hi) => ∃ pl ph : Nat, ∃ L H : Dv, PBox w gl (some ⟨pl, 0, none⟩) ∧ PBox w gh (some ⟨ph, 0, none⟩) ∧ (DBox w pl L ∧ Is lo L ∧ lo.May ∧ Ints w 0 B .u32 L.A L.n L.xs) ∧ (DBox w ph H ∧ Is hi H ∧ hi.May ∧ Ints w 0 B .u32 H.A H.n H.xs)
theorem pset {w : World} {g : Nat} {p : Option Addr} (h : PBox w g p) (q : Option Addr) : PBox (w.setCell ⟨g, 0, none⟩ (.pointer q)) g q := set1 h _
theorem pbox_ne {w : World} {g g' : Nat} {p : Option Addr} {d : Dv} (h : PBox w g p) (h' : DBox w g' d) : g' ≠ g := fun e => by
  subst e
  unfold PBox at h
  unfold DBox at h'
  rw [h] at h'
  injection h' with h'
  injection h' with h'
  simp at h'
theorem is_cmp {r r' : Dn} {d d' : Dv} (h : Is r d) (h' : Is r' d') (hr : r.May) (hr' : r'.May) : cmpX d.s d.xs d.e d'.s d'.xs d'.e = (cmpD r r', 0) := by
  unfold cmpX
  rw [if_pos ⟨h.may hr, h'.may hr'⟩, h.1, h.2.1, h.2.2, h'.1, h'.2.1, h'.2.2, dn_of, dn_of]
/-- All blocks but the two cells stay. -/
def Stays (gl gh : Nat) (w w' : World) : Prop := ∀ j, j < w.heap.size → j ≠ gl → j ≠ gh → w'.heap[j]? = w.heap[j]?
theorem Stays.trans {gl gh : Nat} {w w' w'' : World} (h : Stays gl gh w w') (h' : Stays gl gh w' w'') (hs : w.heap.size ≤ w'.heap.size) : Stays gl gh w w'' :=
  fun j hj h1 h2 => (h' j (by omega) h1 h2).trans (h j hj h1 h2)
theorem Stays.below {gl gh : Nat} {w w' w'' : World} (h : Stays gl gh w w') (hb : Below w'.heap.size w' w'') (hs : w.heap.size ≤ w'.heap.size) : Stays gl gh w w'' :=
  fun j hj h1 h2 => (hb.block j (by omega)).trans (h j hj h1 h2)
theorem Stays.set {gl gh : Nat} {w w' : World} (h : Stays gl gh w w') (g : Nat) (v : Value) (hg : g = gl ∨ g = gh) : Stays gl gh w (w'.setCell ⟨g, 0, none⟩ v) :=
  fun j hj h1 h2 => (Below.heap_setCell _ _ _ _ (by rcases hg with rfl | rfl <;> simpa using (by assumption))).trans (h j hj h1 h2)
set_option maxHeartbeats 12800000 in
set_option maxRecDepth 100000 in
/-- One more: mean.ends$1. -/
theorem put_any (w : World) (B gl gh : Nat) (hBl : B ≤ gl) (hlh : gl < gh) (hgs : gh < w.heap.size) (P : Option (Dn × Dn)) (hE : Ends w B gl gh P) (a : Dv) (A : Dn) (ia : Is A a) (ma : A.May) (hI : Ints w 0 B .u32 a.A a.n a.xs) (hT : Tab w) (h0 : 0 < gl) :
    Calls Tryd.prog 105 #[.agg #[.bool a.s, .slice a.A a.n a.c, .int .i64 a.e], .pointer (some ⟨gl, 0, none⟩), .pointer (some ⟨gh, 0, none⟩)] w fun e w' => e = .returned (.tuple #[]) ∧ Below gl w w' ∧ Stays gl gh w w' ∧ Ends w' B gl gh (stepE P A) := by
  have IA := Lib.hid ia
  generalize hw : w.alloc (.cells #[.bool a.s, .slice a.A a.n a.c, .int .i64 a.e] 24) = w1
  have XA : DBox w1 w.heap.size a := by rw [← hw]; exact heap_alloc_last _ _
  have b1 : Below w.heap.size w w1 := by rw [← hw]; exact (Below.refl _ w).alloc (Nat.le_refl _) _
  have l1 : w.heap.size < w1.heap.size := by rw [← hw]; simp
  have I1 : Ints w1 0 B .u32 a.A a.n a.xs := hI.below b1 (by omega)
  have t1 := hT.below b1 hT.lt
  obtain ⟨g, hg⟩ : ∃ g, w.heap.size = g := ⟨_, rfl⟩
  have lg1 : gh < g := by omega
  have lg2 : g < w1.heap.size := by omega
  have q1 : ∀ {k : Nat} {ob : Obj}, w.heap[k]? = some ob → w1.heap[k]? = some ob := fun h => (b1.block _ (lt_of_heap h)).trans h
  have s1 : Stays gl gh w w1 := fun j hj _ _ => b1.block j hj
  replace b1 : Below gl w w1 := b1.mono (by omega)
  rw [hg] at XA
  go_enter Tryd.func105, Tryd.ntmps105
  rcases P with _ | ⟨lo, hi⟩
  · skip
    obtain ⟨Xgl, Xgh⟩ := hE
    replace Xgl : PBox w1 gl none := q1 Xgl
    replace Xgh : PBox w1 gh none := q1 Xgh
    clear q1
    have MA := Lib.hid ma
    have e0 := cell_of_row w1 gl 0 _ _ _ Xgl
    have e1 := cell_of_row w1 gh 0 _ _ _ Xgh
    have f0 := frozen_of_row w1 gl 0 _ _ Xgl
    have f1 := frozen_of_row w1 gh 0 _ _ Xgh
    go_wp2_with fail
    try clear hw
    clear e0 e1 f0 f1
    have e_far : ∀ j, j ≠ gl → j ≠ gh → ((w1.setCell ⟨gl, 0, none⟩ (.pointer (some ⟨g, 0, none⟩))).setCell ⟨gh, 0, none⟩ (.pointer (some ⟨g, 0, none⟩))).heap[j]? = w1.heap[j]? := fun j h0 h1 => (Below.heap_setCell _ _ _ _ h1).trans (Below.heap_setCell _ _ _ _ h0)
    have e_sz : ((w1.setCell ⟨gl, 0, none⟩ (.pointer (some ⟨g, 0, none⟩))).setCell ⟨gh, 0, none⟩ (.pointer (some ⟨g, 0, none⟩))).heap.size = w1.heap.size := by simp [World.setCell]
    have e_st : Stays gl gh w ((w1.setCell ⟨gl, 0, none⟩ (.pointer (some ⟨g, 0, none⟩))).setCell ⟨gh, 0, none⟩ (.pointer (some ⟨g, 0, none⟩))) := (s1.set gl _ (by simp)).set gh _ (by simp)
    have e_b : Below gl w ((w1.setCell ⟨gl, 0, none⟩ (.pointer (some ⟨g, 0, none⟩))).setCell ⟨gh, 0, none⟩ (.pointer (some ⟨g, 0, none⟩))) := (b1.setCell (by simp) _).setCell (by simp; omega) _
    have e_gl : PBox ((w1.setCell ⟨gl, 0, none⟩ (.pointer (some ⟨g, 0, none⟩))).setCell ⟨gh, 0, none⟩ (.pointer (some ⟨g, 0, none⟩))) gl (some ⟨g, 0, none⟩) := (Below.heap_setCell _ _ _ _ (by simp; omega)).trans (pset Xgl _)
    have e_gh : PBox ((w1.setCell ⟨gl, 0, none⟩ (.pointer (some ⟨g, 0, none⟩))).setCell ⟨gh, 0, none⟩ (.pointer (some ⟨g, 0, none⟩))) gh (some ⟨g, 0, none⟩) := pset (show PBox (w1.setCell ⟨gl, 0, none⟩ (.pointer (some ⟨g, 0, none⟩))) gh _ from (Below.heap_setCell _ _ _ _ (by simp; omega)).trans Xgh) _
    have e_A : DBox ((w1.setCell ⟨gl, 0, none⟩ (.pointer (some ⟨g, 0, none⟩))).setCell ⟨gh, 0, none⟩ (.pointer (some ⟨g, 0, none⟩))) g a := (e_far _ (by omega) (by omega)).trans XA
    generalize ((w1.setCell ⟨gl, 0, none⟩ (.pointer (some ⟨g, 0, none⟩))).setCell ⟨gh, 0, none⟩ (.pointer (some ⟨g, 0, none⟩))) = w2 at *
    have b2 := e_b
    have s2 := e_st
    have lw2 : w1.heap.size ≤ w2.heap.size := Nat.le_of_eq e_sz.symm
    replace Xgl := e_gl
    replace Xgh := e_gh
    replace XA := e_A
    have t2 := t1.keep (e_far 0 (by omega) (by omega))
    have I2 : Ints w2 0 B .u32 a.A a.n a.xs := ints_rng I1 (fun b _ h2 => e_far b (by omega) (by omega))
    clear e_b e_st e_sz e_gl e_gh e_A e_far b1 s1 t1 I1
    go_wp2_with fail
    refine region_E (Keeps w2) [] (m := 10) (L := #[false, false, false, false, false, false, false, false, false, false]) (by kernel_rfl) (by rfl) (by rfl) ?_
    have kp_ : Keeps w2 w2.drew := fun _ _ => rfl
    have hB : Below w2.heap.size w2 w2.drew := (Below.refl _ _).drew
    have bd : Below gl w w2.drew := b2.drew
    have td : Tab w2.drew := t2.below hB t2.lt
    have iad : Ints w2.drew 0 B .u32 a.A a.n a.xs := I2.below hB (by omega)
    have ild : Ints w2.drew 0 B .u32 a.A a.n a.xs := I2.below hB (by omega)
    have ld : w2.heap.size ≤ w2.drew.heap.size := Nat.le_refl _
    clear hB
    generalize w2.drew = d2 at *
    refine readE (i := 0) (L := #[true, false, false, false, false, false, false, false, false, false]) (v := .agg #[.bool a.s, .slice a.A a.n a.c, .int .i64 a.e]) rfl (by rfl) (by kernel_rfl) (by kernel_rfl) (by kernel_rfl) (fun _ _ _ h => h) (by assumption) (by rfl) ?ya3 ?za3
    case ya3 =>
      intro w' h1
      obtain ⟨⟨e0, e1, e2⟩, _⟩ := boxD ((h1 _ (lt_of_heap XA)).trans XA)
      go_simp
    try simp only [Act.put, List.setIfInBounds_toArray, List.set_cons_zero, List.set_cons_succ]
    refine readE (i := 1) (L := #[true, true, false, false, false, false, false, false, false, false]) (v := .pointer (some ⟨g, 0, none⟩)) rfl (by rfl) (by kernel_rfl) (by kernel_rfl) (by kernel_rfl) (fun _ _ _ h => h) (by assumption) (by rfl) ?yb3 ?zb3
    case yb3 =>
      intro w' h1
      have e0 := cell_of_row w' gl 0 _ _ _ ((h1 _ (lt_of_heap Xgl)).trans Xgl)
      go_simp
    try simp only [Act.put, List.setIfInBounds_toArray, List.set_cons_zero, List.set_cons_succ]
    refine pureE (i := 2) (L := #[true, true, true, false, false, false, false, false, false, false]) (v := ?_) rfl (by rfl) (by kernel_rfl) (by kernel_rfl) (by kernel_rfl) (fun _ _ _ h => h) (by rfl) ?hy3 ?rest3
    case hy3 => intro w; go_simp; (try with_reducible rfl)
    try simp only [Act.put, List.setIfInBounds_toArray, List.set_cons_zero, List.set_cons_succ]
    refine readE (i := 3) (L := #[true, true, true, true, false, false, false, false, false, false]) (v := .agg #[.bool a.s, .slice a.A a.n a.c, .int .i64 a.e]) rfl (by rfl) (by kernel_rfl) (by kernel_rfl) (by kernel_rfl) (fun _ _ _ h => h) (by assumption) (by rfl) ?yc3 ?zc3
    case yc3 =>
      intro w' h1
      obtain ⟨⟨e0, e1, e2⟩, _⟩ := boxD ((h1 _ (lt_of_heap XA)).trans XA)
      go_simp
    try simp only [Act.put, List.setIfInBounds_toArray, List.set_cons_zero, List.set_cons_succ]
    refine stepK (i := 4) (L := #[true, true, true, true, true, false, false, false, false, false]) rfl (by rfl) (by kernel_rfl) (by rfl) (fun K hK => ?_)
    go_simp
    go_at_call 39
    obtain ⟨z3, hz⟩ : ∃ z, cmpD A A = z := ⟨_, rfl⟩
    refine (Cmp_all d2 a.s a.s a.A a.A a.n a.c a.n a.c a.xs a.xs a.e a.e (iad.more (Nat.le_refl _) (by omega)) (ild.more (Nat.le_refl _) (by omega)) td z3 0 (by rw [is_cmp IA.out IA.out ma MA.out, hz])).mono ?_
    rintro e' w3 ⟨rfl, hB⟩
    have HZ3 := Lib.hid hz
    clear hz
    have lw3 := hB.size
    replace kp_ := Keeps.on kp_ (by omega) hB
    have b3 : Below gl w w3 := bd.trans (hB.mono (by omega))
    have t3 := td.below hB td.lt
    have I3 := iad.below hB (by omega)
    clear hB td iad ild bd
    refine hK _ _ ⟨fun _ _ => kp_, ?_⟩
    clear hK K
    try simp only [Act.put, List.setIfInBounds_toArray, List.set_cons_zero, List.set_cons_succ]
    refine pureE (i := 5) (L := #[true, true, true, true, true, true, false, false, false, false]) (v := ?_) rfl (by rfl) (by kernel_rfl) (by kernel_rfl) (by kernel_rfl) (fun _ _ _ h => h) (by rfl) ?hy6 ?rest6
    case hy6 => intro w; go_simp; (try with_reducible rfl)
    try simp only [Act.put, List.setIfInBounds_toArray, List.set_cons_zero, List.set_cons_succ]
    refine pureE (i := 6) (L := #[true, true, true, true, true, true, true, false, false, false]) (v := ?_) rfl (by rfl) (by kernel_rfl) (by kernel_rfl) (by kernel_rfl) (fun _ _ _ h => h) (by rfl) ?hy7 ?rest7
    case hy7 => intro w; go_simp; (try with_reducible rfl)
    try simp only [Act.put, List.setIfInBounds_toArray, List.set_cons_zero, List.set_cons_succ]
    refine pureE (i := 7) (L := #[true, true, true, true, true, true, true, true, false, false]) (v := ?_) rfl (by rfl) (by kernel_rfl) (by kernel_rfl) (by kernel_rfl) (fun _ _ _ h => h) (by rfl) ?hy8 ?rest8
    case hy8 => intro w; go_simp; (try with_reducible rfl)
    try simp only [Act.put, List.setIfInBounds_toArray, List.set_cons_zero, List.set_cons_succ]
    refine pureE (i := 8) (L := #[true, true, true, true, true, true, true, true, true, false]) (v := ?_) rfl (by rfl) (by kernel_rfl) (by kernel_rfl) (by kernel_rfl) (fun _ _ _ h => h) (by rfl) ?hy9 ?rest9
    case hy9 => intro w; go_simp; (try with_reducible rfl)
    try simp only [Act.put, List.setIfInBounds_toArray, List.set_cons_zero, List.set_cons_succ]
    refine pureE (i := 9) (L := #[true, true, true, true, true, true, true, true, true, true]) (v := ?_) rfl (by rfl) (by kernel_rfl) (by kernel_rfl) (by kernel_rfl) (fun _ _ _ h => h) (by rfl) ?hy10 ?rest10
    case hy10 => intro w; go_simp; (try with_reducible rfl)
    try simp only [Act.put, List.setIfInBounds_toArray, List.set_cons_zero, List.set_cons_succ]
    refine doneE (by kernel_rfl) ?_ _
    clear t2 I2 b2
    have s3 : Stays gl gh w w3 := fun j hj h1 h2 => (kp_ j (by omega)).trans (s2 j hj h1 h2)
    replace XA : DBox w3 g a := (kp_ _ (lt_of_heap XA)).trans XA
    replace Xgl : PBox w3 gl _ := (kp_ _ (lt_of_heap Xgl)).trans Xgl
    replace Xgh : PBox w3 gh _ := (kp_ _ (lt_of_heap Xgh)).trans Xgh
    clear s2
    clear kp_
    have z0 : z3 = 0 := by rw [← HZ3.out]; exact cmp_self A
    subst z0
    go_wp2_with fail
    refine region_E (Keeps w3) [] (m := 10) (L := #[false, false, false, false, false, false, false, false, false, false]) (by kernel_rfl) (by rfl) (by rfl) ?_
    have kp_ : Keeps w3 w3.drew := fun _ _ => rfl
    have hB : Below w3.heap.size w3 w3.drew := (Below.refl _ _).drew
    have bd : Below gl w w3.drew := b3.drew
    have td : Tab w3.drew := t3.below hB t3.lt
    have iad : Ints w3.drew 0 B .u32 a.A a.n a.xs := I3.below hB (by omega)
    have ild : Ints w3.drew 0 B .u32 a.A a.n a.xs := I3.below hB (by omega)
    have ld : w3.heap.size ≤ w3.drew.heap.size := Nat.le_refl _
    clear hB
    generalize w3.drew = d3 at *
    refine readE (i := 0) (L := #[true, false, false, false, false, false, false, false, false, false]) (v := .agg #[.bool a.s, .slice a.A a.n a.c, .int .i64 a.e]) rfl (by rfl) (by kernel_rfl) (by kernel_rfl) (by kernel_rfl) (fun _ _ _ h => h) (by assumption) (by rfl) ?ya4 ?za4
    case ya4 =>
      intro w' h1
      obtain ⟨⟨e0, e1, e2⟩, _⟩ := boxD ((h1 _ (lt_of_heap XA)).trans XA)
      go_simp
    try simp only [Act.put, List.setIfInBounds_toArray, List.set_cons_zero, List.set_cons_succ]
    refine readE (i := 1) (L := #[true, true, false, false, false, false, false, false, false, false]) (v := .pointer (some ⟨g, 0, none⟩)) rfl (by rfl) (by kernel_rfl) (by kernel_rfl) (by kernel_rfl) (fun _ _ _ h => h) (by assumption) (by rfl) ?yb4 ?zb4
    case yb4 =>
      intro w' h1
      have e0 := cell_of_row w' gh 0 _ _ _ ((h1 _ (lt_of_heap Xgh)).trans Xgh)
      go_simp
    try simp only [Act.put, List.setIfInBounds_toArray, List.set_cons_zero, List.set_cons_succ]
    refine pureE (i := 2) (L := #[true, true, true, false, false, false, false, false, false, false]) (v := ?_) rfl (by rfl) (by kernel_rfl) (by kernel_rfl) (by kernel_rfl) (fun _ _ _ h => h) (by rfl) ?hy13 ?rest13
    case hy13 => intro w; go_simp; (try with_reducible rfl)
    try simp only [Act.put, List.setIfInBounds_toArray, List.set_cons_zero, List.set_cons_succ]
    refine readE (i := 3) (L := #[true, true, true, true, false, false, false, false, false, false]) (v := .agg #[.bool a.s, .slice a.A a.n a.c, .int .i64 a.e]) rfl (by rfl) (by kernel_rfl) (by kernel_rfl) (by kernel_rfl) (fun _ _ _ h => h) (by assumption) (by rfl) ?yc4 ?zc4
    case yc4 =>
      intro w' h1
      obtain ⟨⟨e0, e1, e2⟩, _⟩ := boxD ((h1 _ (lt_of_heap XA)).trans XA)
      go_simp
    try simp only [Act.put, List.setIfInBounds_toArray, List.set_cons_zero, List.set_cons_succ]
    refine stepK (i := 4) (L := #[true, true, true, true, true, false, false, false, false, false]) rfl (by rfl) (by kernel_rfl) (by rfl) (fun K hK => ?_)
    go_simp
    go_at_call 39
    obtain ⟨z4, hz⟩ : ∃ z, cmpD A A = z := ⟨_, rfl⟩
    refine (Cmp_all d3 a.s a.s a.A a.A a.n a.c a.n a.c a.xs a.xs a.e a.e (iad.more (Nat.le_refl _) (by omega)) (ild.more (Nat.le_refl _) (by omega)) td z4 0 (by rw [is_cmp IA.out IA.out ma MA.out, hz])).mono ?_
    rintro e' w4 ⟨rfl, hB⟩
    have HZ4 := Lib.hid hz
    clear hz
    have lw4 := hB.size
    replace kp_ := Keeps.on kp_ (by omega) hB
    have b4 : Below gl w w4 := bd.trans (hB.mono (by omega))
    have t4 := td.below hB td.lt
    have I4 := iad.below hB (by omega)
    clear hB td iad ild bd
    refine hK _ _ ⟨fun _ _ => kp_, ?_⟩
    clear hK K
    try simp only [Act.put, List.setIfInBounds_toArray, List.set_cons_zero, List.set_cons_succ]
    refine pureE (i := 5) (L := #[true, true, true, true, true, true, false, false, false, false]) (v := ?_) rfl (by rfl) (by kernel_rfl) (by kernel_rfl) (by kernel_rfl) (fun _ _ _ h => h) (by rfl) ?hy16 ?rest16
    case hy16 => intro w; go_simp; (try with_reducible rfl)
    try simp only [Act.put, List.setIfInBounds_toArray, List.set_cons_zero, List.set_cons_succ]
    refine pureE (i := 6) (L := #[true, true, true, true, true, true, true, false, false, false]) (v := ?_) rfl (by rfl) (by kernel_rfl) (by kernel_rfl) (by kernel_rfl) (fun _ _ _ h => h) (by rfl) ?hy17 ?rest17
    case hy17 => intro w; go_simp; (try with_reducible rfl)
    try simp only [Act.put, List.setIfInBounds_toArray, List.set_cons_zero, List.set_cons_succ]
    refine pureE (i := 7) (L := #[true, true, true, true, true, true, true, true, false, false]) (v := ?_) rfl (by rfl) (by kernel_rfl) (by kernel_rfl) (by kernel_rfl) (fun _ _ _ h => h) (by rfl) ?hy18 ?rest18
    case hy18 => intro w; go_simp; (try with_reducible rfl)
    try simp only [Act.put, List.setIfInBounds_toArray, List.set_cons_zero, List.set_cons_succ]
    refine pureE (i := 8) (L := #[true, true, true, true, true, true, true, true, true, false]) (v := ?_) rfl (by rfl) (by kernel_rfl) (by kernel_rfl) (by kernel_rfl) (fun _ _ _ h => h) (by rfl) ?hy19 ?rest19
    case hy19 => intro w; go_simp; (try with_reducible rfl)
    try simp only [Act.put, List.setIfInBounds_toArray, List.set_cons_zero, List.set_cons_succ]
    refine pureE (i := 9) (L := #[true, true, true, true, true, true, true, true, true, true]) (v := ?_) rfl (by rfl) (by kernel_rfl) (by kernel_rfl) (by kernel_rfl) (fun _ _ _ h => h) (by rfl) ?hy20 ?rest20
    case hy20 => intro w; go_simp; (try with_reducible rfl)
    try simp only [Act.put, List.setIfInBounds_toArray, List.set_cons_zero, List.set_cons_succ]
    refine doneE (by kernel_rfl) ?_ _
    clear t3 I3 b3
    have s4 : Stays gl gh w w4 := fun j hj h1 h2 => (kp_ j (by omega)).trans (s3 j hj h1 h2)
    replace XA : DBox w4 g a := (kp_ _ (lt_of_heap XA)).trans XA
    replace Xgl : PBox w4 gl _ := (kp_ _ (lt_of_heap Xgl)).trans Xgl
    replace Xgh : PBox w4 gh _ := (kp_ _ (lt_of_heap Xgh)).trans Xgh
    clear s3
    clear kp_
    have z0 : z4 = 0 := by rw [← HZ4.out]; exact cmp_self A
    subst z0
    go_wp2_with fail
    go_end0
    refine ⟨rfl, b4, s4, ?_⟩
    rw [show stepE none A = some (A, A) from rfl]
    exact ⟨g, g, a, a, Xgl, Xgh, ⟨XA, IA.out, ma, I4⟩, ⟨XA, IA.out, ma, I4⟩⟩
  · skip
    obtain ⟨pl, ph, Lv, Hv, Xgl, Xgh, ⟨XL, IL, ML, IRL⟩, ⟨XH, IH, MH, IRH⟩⟩ := hE
    replace Xgl : PBox w1 gl _ := q1 Xgl
    replace Xgh : PBox w1 gh _ := q1 Xgh
    replace XL : DBox w1 pl Lv := q1 XL
    replace XH : DBox w1 ph Hv := q1 XH
    replace IRL := IRL.below ((Below.refl B w).trans (show Below B w w1 from b1.mono hBl)) (Nat.le_refl _)
    replace IRH := IRH.below ((Below.refl B w).trans (show Below B w w1 from b1.mono hBl)) (Nat.le_refl _)
    replace IL := Lib.hid IL
    replace IH := Lib.hid IH
    replace ML := Lib.hid ML
    replace MH := Lib.hid MH
    have MA := Lib.hid ma
    clear q1
    have e0 := cell_of_row w1 gl 0 _ _ _ Xgl
    go_wp2_with fail
    try clear hw
    clear e0
    go_wp2_with fail
    refine region_E (Keeps w1) [] (m := 10) (L := #[false, false, false, false, false, false, false, false, false, false]) (by kernel_rfl) (by rfl) (by rfl) ?_
    have kp_ : Keeps w1 w1.drew := fun _ _ => rfl
    have hB : Below w1.heap.size w1 w1.drew := (Below.refl _ _).drew
    have bd : Below gl w w1.drew := b1.drew
    have td : Tab w1.drew := t1.below hB t1.lt
    have iad : Ints w1.drew 0 B .u32 a.A a.n a.xs := I1.below hB (by omega)
    have ild : Ints w1.drew 0 B .u32 Lv.A Lv.n Lv.xs := IRL.below hB (by omega)
    have ld : w1.heap.size ≤ w1.drew.heap.size := Nat.le_refl _
    clear hB
    generalize w1.drew = d1 at *
    refine readE (i := 0) (L := #[true, false, false, false, false, false, false, false, false, false]) (v := .agg #[.bool a.s, .slice a.A a.n a.c, .int .i64 a.e]) rfl (by rfl) (by kernel_rfl) (by kernel_rfl) (by kernel_rfl) (fun _ _ _ h => h) (by assumption) (by rfl) ?ya5 ?za5
    case ya5 =>
      intro w' h1
      obtain ⟨⟨e0, e1, e2⟩, _⟩ := boxD ((h1 _ (lt_of_heap XA)).trans XA)
      go_simp
    try simp only [Act.put, List.setIfInBounds_toArray, List.set_cons_zero, List.set_cons_succ]
    refine readE (i := 1) (L := #[true, true, false, false, false, false, false, false, false, false]) (v := .pointer (some ⟨pl, 0, none⟩)) rfl (by rfl) (by kernel_rfl) (by kernel_rfl) (by kernel_rfl) (fun _ _ _ h => h) (by assumption) (by rfl) ?yb5 ?zb5
    case yb5 =>
      intro w' h1
      have e0 := cell_of_row w' gl 0 _ _ _ ((h1 _ (lt_of_heap Xgl)).trans Xgl)
      go_simp
    try simp only [Act.put, List.setIfInBounds_toArray, List.set_cons_zero, List.set_cons_succ]
    refine pureE (i := 2) (L := #[true, true, true, false, false, false, false, false, false, false]) (v := ?_) rfl (by rfl) (by kernel_rfl) (by kernel_rfl) (by kernel_rfl) (fun _ _ _ h => h) (by rfl) ?hy23 ?rest23
    case hy23 => intro w; go_simp; (try with_reducible rfl)
    try simp only [Act.put, List.setIfInBounds_toArray, List.set_cons_zero, List.set_cons_succ]
    refine readE (i := 3) (L := #[true, true, true, true, false, false, false, false, false, false]) (v := .agg #[.bool Lv.s, .slice Lv.A Lv.n Lv.c, .int .i64 Lv.e]) rfl (by rfl) (by kernel_rfl) (by kernel_rfl) (by kernel_rfl) (fun _ _ _ h => h) (by assumption) (by rfl) ?yc5 ?zc5
    case yc5 =>
      intro w' h1
      obtain ⟨⟨e0, e1, e2⟩, _⟩ := boxD ((h1 _ (lt_of_heap XL)).trans XL)
      go_simp
    try simp only [Act.put, List.setIfInBounds_toArray, List.set_cons_zero, List.set_cons_succ]
    refine stepK (i := 4) (L := #[true, true, true, true, true, false, false, false, false, false]) rfl (by rfl) (by kernel_rfl) (by rfl) (fun K hK => ?_)
    go_simp
    go_at_call 39
    obtain ⟨z5, hz⟩ : ∃ z, cmpD A lo = z := ⟨_, rfl⟩
    refine (Cmp_all d1 a.s Lv.s a.A Lv.A a.n a.c Lv.n Lv.c a.xs Lv.xs a.e Lv.e (iad.more (Nat.le_refl _) (by omega)) (ild.more (Nat.le_refl _) (by omega)) td z5 0 (by rw [is_cmp IA.out IL.out ma ML.out, hz])).mono ?_
    rintro e' w5 ⟨rfl, hB⟩
    have HZ5 := Lib.hid hz
    clear hz
    have lw5 := hB.size
    replace kp_ := Keeps.on kp_ (by omega) hB
    have b5 : Below gl w w5 := bd.trans (hB.mono (by omega))
    have t5 := td.below hB td.lt
    have I5 := iad.below hB (by omega)
    clear hB td iad ild bd
    refine hK _ _ ⟨fun _ _ => kp_, ?_⟩
    clear hK K
    try simp only [Act.put, List.setIfInBounds_toArray, List.set_cons_zero, List.set_cons_succ]
    refine pureE (i := 5) (L := #[true, true, true, true, true, true, false, false, false, false]) (v := ?_) rfl (by rfl) (by kernel_rfl) (by kernel_rfl) (by kernel_rfl) (fun _ _ _ h => h) (by rfl) ?hy26 ?rest26
    case hy26 => intro w; go_simp; (try with_reducible rfl)
    try simp only [Act.put, List.setIfInBounds_toArray, List.set_cons_zero, List.set_cons_succ]
    refine pureE (i := 6) (L := #[true, true, true, true, true, true, true, false, false, false]) (v := ?_) rfl (by rfl) (by kernel_rfl) (by kernel_rfl) (by kernel_rfl) (fun _ _ _ h => h) (by rfl) ?hy27 ?rest27
    case hy27 => intro w; go_simp; (try with_reducible rfl)
    try simp only [Act.put, List.setIfInBounds_toArray, List.set_cons_zero, List.set_cons_succ]
    refine pureE (i := 7) (L := #[true, true, true, true, true, true, true, true, false, false]) (v := ?_) rfl (by rfl) (by kernel_rfl) (by kernel_rfl) (by kernel_rfl) (fun _ _ _ h => h) (by rfl) ?hy28 ?rest28
    case hy28 => intro w; go_simp; (try with_reducible rfl)
    try simp only [Act.put, List.setIfInBounds_toArray, List.set_cons_zero, List.set_cons_succ]
    refine pureE (i := 8) (L := #[true, true, true, true, true, true, true, true, true, false]) (v := ?_) rfl (by rfl) (by kernel_rfl) (by kernel_rfl) (by kernel_rfl) (fun _ _ _ h => h) (by rfl) ?hy29 ?rest29
    case hy29 => intro w; go_simp; (try with_reducible rfl)
    try simp only [Act.put, List.setIfInBounds_toArray, List.set_cons_zero, List.set_cons_succ]
    refine pureE (i := 9) (L := #[true, true, true, true, true, true, true, true, true, true]) (v := ?_) rfl (by rfl) (by kernel_rfl) (by kernel_rfl) (by kernel_rfl) (fun _ _ _ h => h) (by rfl) ?hy30 ?rest30
    case hy30 => intro w; go_simp; (try with_reducible rfl)
    try simp only [Act.put, List.setIfInBounds_toArray, List.set_cons_zero, List.set_cons_succ]
    refine doneE (by kernel_rfl) ?_ _
    clear t1 I1 b1
    have s5 : Stays gl gh w w5 := fun j hj h1 h2 => (kp_ j (by omega)).trans (s1 j hj h1 h2)
    replace XA : DBox w5 g a := (kp_ _ (lt_of_heap XA)).trans XA
    replace Xgl : PBox w5 gl _ := (kp_ _ (lt_of_heap Xgl)).trans Xgl
    replace Xgh : PBox w5 gh _ := (kp_ _ (lt_of_heap Xgh)).trans Xgh
    clear s1
    replace XL : DBox w5 _ Lv := (kp_ _ (lt_of_heap XL)).trans XL
    replace XH : DBox w5 _ Hv := (kp_ _ (lt_of_heap XH)).trans XH
    replace IRL : Ints w5 0 B .u32 _ _ _ := ints_rng IRL (fun b _ h2 => kp_ b (by omega))
    replace IRH : Ints w5 0 B .u32 _ _ _ := ints_rng IRH (fun b _ h2 => kp_ b (by omega))
    clear kp_
    by_cases hz : z5 < 0
    · skip
      have X0gl := Xgl
      have XH0 := XH
      have e0 := cell_of_row w5 gl 0 _ _ _ Xgl
      have f0 := frozen_of_row w5 gl 0 _ _ Xgl
      go_wp2_with fail
      clear e0 f0
      have e_far : ∀ j, j ≠ gl → (w5.setCell ⟨gl, 0, none⟩ (.pointer (some ⟨g, 0, none⟩))).heap[j]? = w5.heap[j]? := fun j h0 => Below.heap_setCell _ _ _ _ h0
      have e_sz : (w5.setCell ⟨gl, 0, none⟩ (.pointer (some ⟨g, 0, none⟩))).heap.size = w5.heap.size := by simp [World.setCell]
      have e_st : Stays gl gh w (w5.setCell ⟨gl, 0, none⟩ (.pointer (some ⟨g, 0, none⟩))) := s5.set gl _ (by simp)
      have e_b : Below gl w (w5.setCell ⟨gl, 0, none⟩ (.pointer (some ⟨g, 0, none⟩))) := b5.setCell (by first | exact Nat.le_refl _ | exact Nat.le_of_lt hlh) _
      have e_gl : PBox (w5.setCell ⟨gl, 0, none⟩ (.pointer (some ⟨g, 0, none⟩))) gl (some ⟨g, 0, none⟩) := pset Xgl _
      have e_gh : PBox (w5.setCell ⟨gl, 0, none⟩ (.pointer (some ⟨g, 0, none⟩))) gh _ := (e_far _ (by omega)).trans Xgh
      have e_A : DBox (w5.setCell ⟨gl, 0, none⟩ (.pointer (some ⟨g, 0, none⟩))) g a := (e_far _ (by omega)).trans XA
      generalize (w5.setCell ⟨gl, 0, none⟩ (.pointer (some ⟨g, 0, none⟩))) = w6 at *
      have b6 := e_b
      have s6 := e_st
      have lw6 : w5.heap.size ≤ w6.heap.size := Nat.le_of_eq e_sz.symm
      replace Xgl := e_gl
      replace Xgh := e_gh
      replace XA := e_A
      have t6 := t5.keep (e_far 0 (by omega))
      have I6 : Ints w6 0 B .u32 a.A a.n a.xs := ints_rng I5 (fun b _ h2 => e_far b (by omega))
      replace XH : DBox w6 _ Hv := (e_far _ (pbox_ne X0gl XH0)).trans XH
      replace IRH : Ints w6 0 B .u32 _ _ _ := ints_rng IRH (fun b _ h2 => e_far b (by omega))
      clear e_b e_st e_sz e_gl e_gh e_A e_far b5 s5 t5 I5
      clear X0gl XH0
      go_wp2_with fail
      refine region_E (Keeps w6) [] (m := 10) (L := #[false, false, false, false, false, false, false, false, false, false]) (by kernel_rfl) (by rfl) (by rfl) ?_
      have kp_ : Keeps w6 w6.drew := fun _ _ => rfl
      have hB : Below w6.heap.size w6 w6.drew := (Below.refl _ _).drew
      have bd : Below gl w w6.drew := b6.drew
      have td : Tab w6.drew := t6.below hB t6.lt
      have iad : Ints w6.drew 0 B .u32 a.A a.n a.xs := I6.below hB (by omega)
      have ild : Ints w6.drew 0 B .u32 Hv.A Hv.n Hv.xs := IRH.below hB (by omega)
      have ld : w6.heap.size ≤ w6.drew.heap.size := Nat.le_refl _
      clear hB
      generalize w6.drew = d6 at *
      refine readE (i := 0) (L := #[true, false, false, false, false, false, false, false, false, false]) (v := .agg #[.bool a.s, .slice a.A a.n a.c, .int .i64 a.e]) rfl (by rfl) (by kernel_rfl) (by kernel_rfl) (by kernel_rfl) (fun _ _ _ h => h) (by assumption) (by rfl) ?ya7 ?za7
      case ya7 =>
        intro w' h1
        obtain ⟨⟨e0, e1, e2⟩, _⟩ := boxD ((h1 _ (lt_of_heap XA)).trans XA)
        go_simp
      try simp only [Act.put, List.setIfInBounds_toArray, List.set_cons_zero, List.set_cons_succ]
      refine readE (i := 1) (L := #[true, true, false, false, false, false, false, false, false, false]) (v := .pointer (some ⟨ph, 0, none⟩)) rfl (by rfl) (by kernel_rfl) (by kernel_rfl) (by kernel_rfl) (fun _ _ _ h => h) (by assumption) (by rfl) ?yb7 ?zb7
      case yb7 =>
        intro w' h1
        have e0 := cell_of_row w' gh 0 _ _ _ ((h1 _ (lt_of_heap Xgh)).trans Xgh)
        go_simp
      try simp only [Act.put, List.setIfInBounds_toArray, List.set_cons_zero, List.set_cons_succ]
      refine pureE (i := 2) (L := #[true, true, true, false, false, false, false, false, false, false]) (v := ?_) rfl (by rfl) (by kernel_rfl) (by kernel_rfl) (by kernel_rfl) (fun _ _ _ h => h) (by rfl) ?hy33 ?rest33
      case hy33 => intro w; go_simp; (try with_reducible rfl)
      try simp only [Act.put, List.setIfInBounds_toArray, List.set_cons_zero, List.set_cons_succ]
      refine readE (i := 3) (L := #[true, true, true, true, false, false, false, false, false, false]) (v := .agg #[.bool Hv.s, .slice Hv.A Hv.n Hv.c, .int .i64 Hv.e]) rfl (by rfl) (by kernel_rfl) (by kernel_rfl) (by kernel_rfl) (fun _ _ _ h => h) (by assumption) (by rfl) ?yc7 ?zc7
      case yc7 =>
        intro w' h1
        obtain ⟨⟨e0, e1, e2⟩, _⟩ := boxD ((h1 _ (lt_of_heap XH)).trans XH)
        go_simp
      try simp only [Act.put, List.setIfInBounds_toArray, List.set_cons_zero, List.set_cons_succ]
      refine stepK (i := 4) (L := #[true, true, true, true, true, false, false, false, false, false]) rfl (by rfl) (by kernel_rfl) (by rfl) (fun K hK => ?_)
      go_simp
      go_at_call 39
      obtain ⟨z7, hz⟩ : ∃ z, cmpD A hi = z := ⟨_, rfl⟩
      refine (Cmp_all d6 a.s Hv.s a.A Hv.A a.n a.c Hv.n Hv.c a.xs Hv.xs a.e Hv.e (iad.more (Nat.le_refl _) (by omega)) (ild.more (Nat.le_refl _) (by omega)) td z7 0 (by rw [is_cmp IA.out IH.out ma MH.out, hz])).mono ?_
      rintro e' w7 ⟨rfl, hB⟩
      have HZ7 := Lib.hid hz
      clear hz
      have lw7 := hB.size
      replace kp_ := Keeps.on kp_ (by omega) hB
      have b7 : Below gl w w7 := bd.trans (hB.mono (by omega))
      have t7 := td.below hB td.lt
      have I7 := iad.below hB (by omega)
      clear hB td iad ild bd
      refine hK _ _ ⟨fun _ _ => kp_, ?_⟩
      clear hK K
      try simp only [Act.put, List.setIfInBounds_toArray, List.set_cons_zero, List.set_cons_succ]
      refine pureE (i := 5) (L := #[true, true, true, true, true, true, false, false, false, false]) (v := ?_) rfl (by rfl) (by kernel_rfl) (by kernel_rfl) (by kernel_rfl) (fun _ _ _ h => h) (by rfl) ?hy36 ?rest36
      case hy36 => intro w; go_simp; (try with_reducible rfl)
      try simp only [Act.put, List.setIfInBounds_toArray, List.set_cons_zero, List.set_cons_succ]
      refine pureE (i := 6) (L := #[true, true, true, true, true, true, true, false, false, false]) (v := ?_) rfl (by rfl) (by kernel_rfl) (by kernel_rfl) (by kernel_rfl) (fun _ _ _ h => h) (by rfl) ?hy37 ?rest37
      case hy37 => intro w; go_simp; (try with_reducible rfl)
      try simp only [Act.put, List.setIfInBounds_toArray, List.set_cons_zero, List.set_cons_succ]
      refine pureE (i := 7) (L := #[true, true, true, true, true, true, true, true, false, false]) (v := ?_) rfl (by rfl) (by kernel_rfl) (by kernel_rfl) (by kernel_rfl) (fun _ _ _ h => h) (by rfl) ?hy38 ?rest38
      case hy38 => intro w; go_simp; (try with_reducible rfl)
      try simp only [Act.put, List.setIfInBounds_toArray, List.set_cons_zero, List.set_cons_succ]
      refine pureE (i := 8) (L := #[true, true, true, true, true, true, true, true, true, false]) (v := ?_) rfl (by rfl) (by kernel_rfl) (by kernel_rfl) (by kernel_rfl) (fun _ _ _ h => h) (by rfl) ?hy39 ?rest39
      case hy39 => intro w; go_simp; (try with_reducible rfl)
      try simp only [Act.put, List.setIfInBounds_toArray, List.set_cons_zero, List.set_cons_succ]
      refine pureE (i := 9) (L := #[true, true, true, true, true, true, true, true, true, true]) (v := ?_) rfl (by rfl) (by kernel_rfl) (by kernel_rfl) (by kernel_rfl) (fun _ _ _ h => h) (by rfl) ?hy40 ?rest40
      case hy40 => intro w; go_simp; (try with_reducible rfl)
      try simp only [Act.put, List.setIfInBounds_toArray, List.set_cons_zero, List.set_cons_succ]
      refine doneE (by kernel_rfl) ?_ _
      clear t6 I6 b6
      have s7 : Stays gl gh w w7 := fun j hj h1 h2 => (kp_ j (by omega)).trans (s6 j hj h1 h2)
      replace XA : DBox w7 g a := (kp_ _ (lt_of_heap XA)).trans XA
      replace Xgl : PBox w7 gl _ := (kp_ _ (lt_of_heap Xgl)).trans Xgl
      replace Xgh : PBox w7 gh _ := (kp_ _ (lt_of_heap Xgh)).trans Xgh
      clear s6
      replace XH : DBox w7 _ Hv := (kp_ _ (lt_of_heap XH)).trans XH
      replace IRH : Ints w7 0 B .u32 _ _ _ := ints_rng IRH (fun b _ h2 => kp_ b (by omega))
      clear kp_
      by_cases hy : 0 < z7
      · skip
        have X0gh := Xgh
        have e0 := cell_of_row w7 gh 0 _ _ _ Xgh
        have f0 := frozen_of_row w7 gh 0 _ _ Xgh
        go_wp2_with fail
        clear e0 f0
        have e_far : ∀ j, j ≠ gh → (w7.setCell ⟨gh, 0, none⟩ (.pointer (some ⟨g, 0, none⟩))).heap[j]? = w7.heap[j]? := fun j h0 => Below.heap_setCell _ _ _ _ h0
        have e_sz : (w7.setCell ⟨gh, 0, none⟩ (.pointer (some ⟨g, 0, none⟩))).heap.size = w7.heap.size := by simp [World.setCell]
        have e_st : Stays gl gh w (w7.setCell ⟨gh, 0, none⟩ (.pointer (some ⟨g, 0, none⟩))) := s7.set gh _ (by simp)
        have e_b : Below gl w (w7.setCell ⟨gh, 0, none⟩ (.pointer (some ⟨g, 0, none⟩))) := b7.setCell (by first | exact Nat.le_refl _ | exact Nat.le_of_lt hlh) _
        have e_gl : PBox (w7.setCell ⟨gh, 0, none⟩ (.pointer (some ⟨g, 0, none⟩))) gl _ := (e_far _ (by omega)).trans Xgl
        have e_gh : PBox (w7.setCell ⟨gh, 0, none⟩ (.pointer (some ⟨g, 0, none⟩))) gh (some ⟨g, 0, none⟩) := pset Xgh _
        have e_A : DBox (w7.setCell ⟨gh, 0, none⟩ (.pointer (some ⟨g, 0, none⟩))) g a := (e_far _ (by omega)).trans XA
        generalize (w7.setCell ⟨gh, 0, none⟩ (.pointer (some ⟨g, 0, none⟩))) = w8 at *
        have b8 := e_b
        have s8 := e_st
        have lw8 : w7.heap.size ≤ w8.heap.size := Nat.le_of_eq e_sz.symm
        replace Xgl := e_gl
        replace Xgh := e_gh
        replace XA := e_A
        have t8 := t7.keep (e_far 0 (by omega))
        have I8 : Ints w8 0 B .u32 a.A a.n a.xs := ints_rng I7 (fun b _ h2 => e_far b (by omega))
        clear e_b e_st e_sz e_gl e_gh e_A e_far b7 s7 t7 I7
        clear X0gh 
        go_end0
        refine ⟨rfl, b8, s8, ?_⟩
        rw [show stepE (some (lo, hi)) A = some (A, A) from by simp only [stepE]; rw [if_pos (by rw [HZ5.out]; omega), if_pos (by rw [HZ7.out]; omega)]]
        exact ⟨g, g, a, a, Xgl, Xgh, ⟨XA, IA.out, ma, I8⟩, ⟨XA, IA.out, ma, I8⟩⟩
      · skip
        go_wp2_with fail
        go_end0
        refine ⟨rfl, b7, s7, ?_⟩
        rw [show stepE (some (lo, hi)) A = some (A, hi) from by simp only [stepE]; rw [if_pos (by rw [HZ5.out]; omega), if_neg (by rw [HZ7.out]; omega)]]
        exact ⟨g, ph, a, Hv, Xgl, Xgh, ⟨XA, IA.out, ma, I7⟩, ⟨XH, IH.out, MH.out, IRH⟩⟩
    · skip
      go_wp2_with fail
      refine region_E (Keeps w5) [] (m := 10) (L := #[false, false, false, false, false, false, false, false, false, false]) (by kernel_rfl) (by rfl) (by rfl) ?_
      have kp_ : Keeps w5 w5.drew := fun _ _ => rfl
      have hB : Below w5.heap.size w5 w5.drew := (Below.refl _ _).drew
      have bd : Below gl w w5.drew := b5.drew
      have td : Tab w5.drew := t5.below hB t5.lt
      have iad : Ints w5.drew 0 B .u32 a.A a.n a.xs := I5.below hB (by omega)
      have ild : Ints w5.drew 0 B .u32 Hv.A Hv.n Hv.xs := IRH.below hB (by omega)
      have ld : w5.heap.size ≤ w5.drew.heap.size := Nat.le_refl _
      clear hB
      generalize w5.drew = d5 at *
      refine readE (i := 0) (L := #[true, false, false, false, false, false, false, false, false, false]) (v := .agg #[.bool a.s, .slice a.A a.n a.c, .int .i64 a.e]) rfl (by rfl) (by kernel_rfl) (by kernel_rfl) (by kernel_rfl) (fun _ _ _ h => h) (by assumption) (by rfl) ?ya9 ?za9
      case ya9 =>
        intro w' h1
        obtain ⟨⟨e0, e1, e2⟩, _⟩ := boxD ((h1 _ (lt_of_heap XA)).trans XA)
        go_simp
      try simp only [Act.put, List.setIfInBounds_toArray, List.set_cons_zero, List.set_cons_succ]
      refine readE (i := 1) (L := #[true, true, false, false, false, false, false, false, false, false]) (v := .pointer (some ⟨ph, 0, none⟩)) rfl (by rfl) (by kernel_rfl) (by kernel_rfl) (by kernel_rfl) (fun _ _ _ h => h) (by assumption) (by rfl) ?yb9 ?zb9
      case yb9 =>
        intro w' h1
        have e0 := cell_of_row w' gh 0 _ _ _ ((h1 _ (lt_of_heap Xgh)).trans Xgh)
        go_simp
      try simp only [Act.put, List.setIfInBounds_toArray, List.set_cons_zero, List.set_cons_succ]
      refine pureE (i := 2) (L := #[true, true, true, false, false, false, false, false, false, false]) (v := ?_) rfl (by rfl) (by kernel_rfl) (by kernel_rfl) (by kernel_rfl) (fun _ _ _ h => h) (by rfl) ?hy43 ?rest43
      case hy43 => intro w; go_simp; (try with_reducible rfl)
      try simp only [Act.put, List.setIfInBounds_toArray, List.set_cons_zero, List.set_cons_succ]
      refine readE (i := 3) (L := #[true, true, true, true, false, false, false, false, false, false]) (v := .agg #[.bool Hv.s, .slice Hv.A Hv.n Hv.c, .int .i64 Hv.e]) rfl (by rfl) (by kernel_rfl) (by kernel_rfl) (by kernel_rfl) (fun _ _ _ h => h) (by assumption) (by rfl) ?yc9 ?zc9
      case yc9 =>
        intro w' h1
        obtain ⟨⟨e0, e1, e2⟩, _⟩ := boxD ((h1 _ (lt_of_heap XH)).trans XH)
        go_simp
      try simp only [Act.put, List.setIfInBounds_toArray, List.set_cons_zero, List.set_cons_succ]
      refine stepK (i := 4) (L := #[true, true, true, true, true, false, false, false, false, false]) rfl (by rfl) (by kernel_rfl) (by rfl) (fun K hK => ?_)
      go_simp
      go_at_call 39
      obtain ⟨z9, hz⟩ : ∃ z, cmpD A hi = z := ⟨_, rfl⟩
      refine (Cmp_all d5 a.s Hv.s a.A Hv.A a.n a.c Hv.n Hv.c a.xs Hv.xs a.e Hv.e (iad.more (Nat.le_refl _) (by omega)) (ild.more (Nat.le_refl _) (by omega)) td z9 0 (by rw [is_cmp IA.out IH.out ma MH.out, hz])).mono ?_
      rintro e' w9 ⟨rfl, hB⟩
      have HZ9 := Lib.hid hz
      clear hz
      have lw9 := hB.size
      replace kp_ := Keeps.on kp_ (by omega) hB
      have b9 : Below gl w w9 := bd.trans (hB.mono (by omega))
      have t9 := td.below hB td.lt
      have I9 := iad.below hB (by omega)
      clear hB td iad ild bd
      refine hK _ _ ⟨fun _ _ => kp_, ?_⟩
      clear hK K
      try simp only [Act.put, List.setIfInBounds_toArray, List.set_cons_zero, List.set_cons_succ]
      refine pureE (i := 5) (L := #[true, true, true, true, true, true, false, false, false, false]) (v := ?_) rfl (by rfl) (by kernel_rfl) (by kernel_rfl) (by kernel_rfl) (fun _ _ _ h => h) (by rfl) ?hy46 ?rest46
      case hy46 => intro w; go_simp; (try with_reducible rfl)
      try simp only [Act.put, List.setIfInBounds_toArray, List.set_cons_zero, List.set_cons_succ]
      refine pureE (i := 6) (L := #[true, true, true, true, true, true, true, false, false, false]) (v := ?_) rfl (by rfl) (by kernel_rfl) (by kernel_rfl) (by kernel_rfl) (fun _ _ _ h => h) (by rfl) ?hy47 ?rest47
      case hy47 => intro w; go_simp; (try with_reducible rfl)
      try simp only [Act.put, List.setIfInBounds_toArray, List.set_cons_zero, List.set_cons_succ]
      refine pureE (i := 7) (L := #[true, true, true, true, true, true, true, true, false, false]) (v := ?_) rfl (by rfl) (by kernel_rfl) (by kernel_rfl) (by kernel_rfl) (fun _ _ _ h => h) (by rfl) ?hy48 ?rest48
      case hy48 => intro w; go_simp; (try with_reducible rfl)
      try simp only [Act.put, List.setIfInBounds_toArray, List.set_cons_zero, List.set_cons_succ]
      refine pureE (i := 8) (L := #[true, true, true, true, true, true, true, true, true, false]) (v := ?_) rfl (by rfl) (by kernel_rfl) (by kernel_rfl) (by kernel_rfl) (fun _ _ _ h => h) (by rfl) ?hy49 ?rest49
      case hy49 => intro w; go_simp; (try with_reducible rfl)
      try simp only [Act.put, List.setIfInBounds_toArray, List.set_cons_zero, List.set_cons_succ]
      refine pureE (i := 9) (L := #[true, true, true, true, true, true, true, true, true, true]) (v := ?_) rfl (by rfl) (by kernel_rfl) (by kernel_rfl) (by kernel_rfl) (fun _ _ _ h => h) (by rfl) ?hy50 ?rest50
      case hy50 => intro w; go_simp; (try with_reducible rfl)
      try simp only [Act.put, List.setIfInBounds_toArray, List.set_cons_zero, List.set_cons_succ]
      refine doneE (by kernel_rfl) ?_ _
      clear t5 I5 b5
      have s9 : Stays gl gh w w9 := fun j hj h1 h2 => (kp_ j (by omega)).trans (s5 j hj h1 h2)
      replace XA : DBox w9 g a := (kp_ _ (lt_of_heap XA)).trans XA
      replace Xgl : PBox w9 gl _ := (kp_ _ (lt_of_heap Xgl)).trans Xgl
      replace Xgh : PBox w9 gh _ := (kp_ _ (lt_of_heap Xgh)).trans Xgh
      clear s5
      replace XL : DBox w9 _ Lv := (kp_ _ (lt_of_heap XL)).trans XL
      replace XH : DBox w9 _ Hv := (kp_ _ (lt_of_heap XH)).trans XH
      replace IRL : Ints w9 0 B .u32 _ _ _ := ints_rng IRL (fun b _ h2 => kp_ b (by omega))
      replace IRH : Ints w9 0 B .u32 _ _ _ := ints_rng IRH (fun b _ h2 => kp_ b (by omega))
      clear kp_
      by_cases hy : 0 < z9
      · skip
        have X0gh := Xgh
        have XL0 := XL
        have e0 := cell_of_row w9 gh 0 _ _ _ Xgh
        have f0 := frozen_of_row w9 gh 0 _ _ Xgh
        go_wp2_with fail
        clear e0 f0
        have e_far : ∀ j, j ≠ gh → (w9.setCell ⟨gh, 0, none⟩ (.pointer (some ⟨g, 0, none⟩))).heap[j]? = w9.heap[j]? := fun j h0 => Below.heap_setCell _ _ _ _ h0
        have e_sz : (w9.setCell ⟨gh, 0, none⟩ (.pointer (some ⟨g, 0, none⟩))).heap.size = w9.heap.size := by simp [World.setCell]
        have e_st : Stays gl gh w (w9.setCell ⟨gh, 0, none⟩ (.pointer (some ⟨g, 0, none⟩))) := s9.set gh _ (by simp)
        have e_b : Below gl w (w9.setCell ⟨gh, 0, none⟩ (.pointer (some ⟨g, 0, none⟩))) := b9.setCell (by first | exact Nat.le_refl _ | exact Nat.le_of_lt hlh) _
        have e_gl : PBox (w9.setCell ⟨gh, 0, none⟩ (.pointer (some ⟨g, 0, none⟩))) gl _ := (e_far _ (by omega)).trans Xgl
        have e_gh : PBox (w9.setCell ⟨gh, 0, none⟩ (.pointer (some ⟨g, 0, none⟩))) gh (some ⟨g, 0, none⟩) := pset Xgh _
        have e_A : DBox (w9.setCell ⟨gh, 0, none⟩ (.pointer (some ⟨g, 0, none⟩))) g a := (e_far _ (by omega)).trans XA
        generalize (w9.setCell ⟨gh, 0, none⟩ (.pointer (some ⟨g, 0, none⟩))) = w10 at *
        have b10 := e_b
        have s10 := e_st
        have lw10 : w9.heap.size ≤ w10.heap.size := Nat.le_of_eq e_sz.symm
        replace Xgl := e_gl
        replace Xgh := e_gh
        replace XA := e_A
        have t10 := t9.keep (e_far 0 (by omega))
        have I10 : Ints w10 0 B .u32 a.A a.n a.xs := ints_rng I9 (fun b _ h2 => e_far b (by omega))
        replace XL : DBox w10 _ Lv := (e_far _ (pbox_ne X0gh XL0)).trans XL
        replace IRL : Ints w10 0 B .u32 _ _ _ := ints_rng IRL (fun b _ h2 => e_far b (by omega))
        clear e_b e_st e_sz e_gl e_gh e_A e_far b9 s9 t9 I9
        clear X0gh XL0
        go_end0
        refine ⟨rfl, b10, s10, ?_⟩
        rw [show stepE (some (lo, hi)) A = some (lo, A) from by simp only [stepE]; rw [if_neg (by rw [HZ5.out]; omega), if_pos (by rw [HZ9.out]; omega)]]
        exact ⟨pl, g, Lv, a, Xgl, Xgh, ⟨XL, IL.out, ML.out, IRL⟩, ⟨XA, IA.out, ma, I10⟩⟩
      · skip
        go_wp2_with fail
        go_end0
        refine ⟨rfl, b9, s9, ?_⟩
        rw [show stepE (some (lo, hi)) A = some (lo, hi) from by simp only [stepE]; rw [if_neg (by rw [HZ5.out]; omega), if_neg (by rw [HZ9.out]; omega)]]
        exact ⟨pl, ph, Lv, Hv, Xgl, Xgh, ⟨XL, IL.out, ML.out, IRL⟩, ⟨XH, IH.out, MH.out, IRH⟩⟩
end Ma
end Go.Proofs.YtlbkepiflhchdaaDoor
