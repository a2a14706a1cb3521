/- Frozen parts that may be; what is frozen, got, and there before: plain laws, no program in sight. -/
import Derived.Test.YtmbppgjhdcmckaaGreatDoorPsList
import Derived.Test.YtmbppgjhdcmckaaGreatDoorLeastPure
import Derived.Test.YtmbppgjhdcmckaaGreatDoorBg16
namespace Go.Proofs.YtmbppgjhdcmckaaGreatDoor
open Go.RowKit
namespace Ma
open Dp Dy
/-- May an edge be? -/
def mayE (h : Bool) (mn mx : Int) : Bool := if h then decide (-2147483647 ≤ mn ∧ mn ≤ 2147483647 ∧ -2147483647 ≤ mx ∧ mx ≤ 2147483647 ∧ mn ≤ mx) else decide (mn = 0 ∧ mx = 0)
/-- May a part be? -/
noncomputable def mayP (p : Pv) : Bool := !badS [p.M] && (mayE p.h p.mn p.mx && decide (Least.checkCode p.xs = 0))
/-- May frozen parts be, all behind an epoch? -/
noncomputable def mayF : Int → List Fv → Bool
  | _, [] => true
  | a, f :: l => decide (a < f.e ∧ f.e ≤ 65535) && (mayP f.P && mayF f.e l)
noncomputable def checkF (n : Nat) (fs : List Fv) : Int := if 1024 < n then 4 else if mayF (-1) fs then 0 else 8
noncomputable def askF (n : Nat) (fs : List Fv) (z : Int) : Int := if checkF n fs ≠ 0 then checkF n fs else if z < 0 ∨ 65535 < z then 2 else 0
/-- How many are of earlier epochs. -/
def aheadF : List Fv → Int → Nat
  | [], _ => 0
  | f :: l, z => if f.e < z then aheadF l z + 1 else 0
theorem aheadF_le : ∀ (fs : List Fv) (z : Int), aheadF fs z ≤ fs.length
  | [], _ => Nat.le_refl _
  | f :: l, z => by
    have := aheadF_le l z
    unfold aheadF
    split
    · simp; omega
    · exact Nat.zero_le _
theorem mayF_at : ∀ {fs : List Fv} {a : Int}, mayF a fs = true → ∀ j (h : j < fs.length), a < fs[j].e ∧ fs[j].e ≤ 65535 ∧ mayP fs[j].P = true
  | [], _, _, j, h => absurd h (Nat.not_lt_zero _)
  | f :: l, a, hm, j, h => by
    simp only [mayF, Bool.and_eq_true, decide_eq_true_eq] at hm
    obtain ⟨⟨h1, h2⟩, h3, h4⟩ := hm
    match j, h with
    | 0, _ => exact ⟨h1, h2, h3⟩
    | j + 1, h =>
      obtain ⟨k1, k2, k3⟩ := mayF_at h4 j (by simpa using h)
      exact ⟨by simp; omega, by simpa using k2, by simpa using k3⟩
theorem mayF_rise : ∀ {fs : List Fv} {a : Int}, mayF a fs = true → ∀ i j (h1 : i < fs.length) (h2 : j < fs.length), i < j → fs[i].e < fs[j].e
  | [], _, _, i, _, h, _, _ => absurd h (Nat.not_lt_zero _)
  | f :: l, a, hm, i, j, h1, h2, hij => by
    simp only [mayF, Bool.and_eq_true, decide_eq_true_eq] at hm
    obtain ⟨_, _, h4⟩ := hm
    match i, j, h1, h2 with
    | 0, j + 1, _, h2 => exact (mayF_at h4 j (by simpa using h2)).1
    | i + 1, j + 1, h1, h2 => exact mayF_rise h4 i j (by simpa using h1) (by simpa using h2) (by omega)
theorem aheadF_lt : ∀ {fs : List Fv} {z : Int} (j : Nat) (h : j < fs.length), j < aheadF fs z → fs[j].e < z
  | f :: l, z, 0, _, hj => by
    unfold aheadF at hj
    split at hj
    · assumption
    · exact absurd hj (Nat.lt_irrefl 0)
  | f :: l, z, j + 1, h, hj => by
    unfold aheadF at hj
    split at hj
    · exact aheadF_lt (fs := l) j (by simpa using h) (by omega)
    · exact absurd hj (Nat.not_lt_zero _)
theorem aheadF_ge : ∀ {fs : List Fv} {a z : Int}, mayF a fs = true → ∀ j (h : j < fs.length), aheadF fs z ≤ j → z ≤ fs[j].e
  | f :: l, a, z, hm, j, h, hj => by
    have hm' := hm
    simp only [mayF, Bool.and_eq_true, decide_eq_true_eq] at hm
    obtain ⟨_, _, h4⟩ := hm
    unfold aheadF at hj
    split at hj
    · match j, h with
      | 0, _ => omega
      | j + 1, h => exact aheadF_ge h4 j (by simpa using h) (by omega)
    · match j, h with
      | 0, _ => simp; omega
      | j + 1, h =>
        have := (mayF_at h4 j (by simpa using h)).1
        simp
        omega
/-- Where they rise, the number is told by what stands on its two sides. -/
theorem aheadF_is {fs : List Fv} {a z : Int} (hm : mayF a fs = true) (k : Nat) (hk : k ≤ fs.length) (h1 : ∀ j (h : j < fs.length), j < k → fs[j].e < z) (h2 : ∀ j (h : j < fs.length), k ≤ j → z ≤ fs[j].e) : aheadF fs z = k := by
  have hl := aheadF_le fs z
  rcases Nat.lt_trichotomy (aheadF fs z) k with h | h | h
  · have k1 := h1 (aheadF fs z) (by omega) h
    have k2 := aheadF_ge hm (z := z) (aheadF fs z) (by omega) (Nat.le_refl _)
    omega
  · exact h
  · have k1 := aheadF_lt (z := z) k (by omega) h
    have k2 := h2 k (by omega) (Nat.le_refl _)
    omega
/-- A walk from the left: what stands behind place i may be. -/
theorem mayF_drop {fs : List Fv} {i : Nat} (h : i < fs.length) (a : Int) : mayF a (fs.drop i) = (decide (a < fs[i].e ∧ fs[i].e ≤ 65535) && (mayP fs[i].P && mayF fs[i].e (fs.drop (i + 1)))) := by
  rw [List.drop_eq_getElem_cons h]
  rfl
theorem mayF_end {fs : List Fv} {i : Nat} (h : fs.length ≤ i) (a : Int) : mayF a (fs.drop i) = true := by
  rw [List.drop_eq_nil_of_le h]
  rfl
theorem checkF_zero {n : Nat} {fs : List Fv} (h : checkF n fs = 0) : n ≤ 1024 ∧ mayF (-1) fs = true := by
  unfold checkF at h
  split at h
  · omega
  · split at h
    · exact ⟨by omega, by assumption⟩
    · omega
theorem askF_zero {n : Nat} {fs : List Fv} {z : Int} (h : askF n fs z = 0) : n ≤ 1024 ∧ mayF (-1) fs = true ∧ 0 ≤ z ∧ z ≤ 65535 := by
  unfold askF at h
  split at h
  · exact absurd h (by assumption)
  · split at h
    · omega
    · have h0 : checkF n fs = 0 := by
        rename_i k _
        exact Classical.byContradiction fun e => k e
      obtain ⟨a, b⟩ := checkF_zero h0
      exact ⟨a, b, by omega, by omega⟩
/-- The code of freezing. -/
noncomputable def freezeF (n : Nat) (fs : List Fv) (z : Int) (p : Pv) : Int := if askF n fs z ≠ 0 then askF n fs z else if mayP p = false then 8 else if aheadF fs z < n then 12 else if n = 1024 then 9 else 0
/-- The code of getting. -/
noncomputable def getF (n : Nat) (fs : List Fv) (z : Int) : Int := if askF n fs z ≠ 0 then askF n fs z else match fs[aheadF fs z]? with
  | some f => if f.e = z then 0 else 6
  | none => 6
theorem getF_at {n : Nat} {fs : List Fv} {z : Int} (h : getF n fs z = 0) : ∃ h : aheadF fs z < fs.length, fs[aheadF fs z].e = z := by
  unfold getF at h
  split at h
  · exact absurd h (by assumption)
  · split at h
    · rename_i f hf
      split at h
      · obtain ⟨h1, h2⟩ := List.getElem?_eq_some_iff.1 hf
        exact ⟨h1, by rw [h2]; assumption⟩
      · omega
    · omega
end Ma
end Go.Proofs.YtmbppgjhdcmckaaGreatDoor
