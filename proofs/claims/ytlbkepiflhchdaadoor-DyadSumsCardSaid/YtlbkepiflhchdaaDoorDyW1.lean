/- Whether limbs, and dyads, may be: walks. -/
import Derived.Test.YtlbkepiflhchdaaDoorDyBits
namespace Go.Proofs.YtlbkepiflhchdaaDoor
open Go.RowKit
namespace Dy
open Dp
theorem cutd_last {l : List Int} {n : Nat} (hl : l.length = n) (hn : 0 < n) : Cutd l ↔ l[n - 1]?.getD 0 ≠ 0 := by
  have hne : l ≠ [] := fun e => by rw [e] at hl; simp at hl; omega
  have e : l[n - 1]?.getD 0 = l.getLast hne := by
    rw [List.getLast_eq_getElem, List.getElem?_eq_getElem (by omega)]
    simp only [Option.getD_some]
    congr 1
    omega
  rw [e]
  exact ⟨fun h => h hne, fun h _ => h⟩
set_option maxRecDepth 100000 in
/-- limb.Check: limbs that may be. -/
theorem limbCheck_ok (w : World) (lo hi : Nat) (A : Option Addr) (n c : Nat) (xs : List Int) (hX : Ints w lo hi .u32 A n xs) (h : MayL xs) :
    Calls Tryd.prog 74 #[.slice A n c] w fun e w' => e = .returned (.int .i64 0) ∧ w' = w := by
  have hL := Lib.hid hX.len
  have h40 : n ≤ 40 := by have := h.1; have := hL.out; omega
  by_cases h0 : 0 < n
  · have hlast := (cutd_last hX.len h0).1 h.2
    obtain ⟨b, off, rfl, hcell⟩ := get hX h0
    have g1 : w.cell? ⟨b, off + (n - 1), none⟩ = some (.int .u32 (xs[n - 1]?.getD 0)) := hcell (n - 1) (by omega)
    have hb : (xs[n - 1]?.getD 0 == 0) = false := by simpa using hlast
    have e1 : ((n : Int) - 1).toNat = n - 1 := by omega
    clear hcell hlast h
    generalize xs[n - 1]?.getD 0 = v at g1 hb
    go_enter Tryd.func74, Tryd.ntmps74
    go_wp2
    go_ret
    exact ⟨rfl, rfl⟩
  · obtain rfl : n = 0 := by omega
    clear h
    go_enter Tryd.func74, Tryd.ntmps74
    go_wp2
    go_ret
    exact ⟨rfl, rfl⟩
set_option maxRecDepth 100000 in
/-- limb.Check: limbs that may not be. -/
theorem limbCheck_bad (w : World) (lo hi : Nat) (A : Option Addr) (n c : Nat) (xs : List Int) (hX : Ints w lo hi .u32 A n xs) (h : ¬ MayL xs) :
    Calls Tryd.prog 74 #[.slice A n c] w fun e w' => e = .returned (.int .i64 8) ∧ w' = w := by
  have hL := Lib.hid hX.len
  have hbig := hX.big
  by_cases h40 : n ≤ 40
  · have h0 : 0 < n := by
      rcases Nat.eq_zero_or_pos n with h0 | h0
      · exact absurd ⟨by have := hL.out; omega, fun hne => absurd (hX.zero h0) hne⟩ h
      · exact h0
    have hlast : xs[n - 1]?.getD 0 = 0 := by
      by_cases hl : xs[n - 1]?.getD 0 = 0
      · exact hl
      · exact absurd ⟨by have := hL.out; omega, (cutd_last hX.len h0).2 hl⟩ h
    obtain ⟨b, off, rfl, hcell⟩ := get hX h0
    have g1 : w.cell? ⟨b, off + (n - 1), none⟩ = some (.int .u32 (xs[n - 1]?.getD 0)) := hcell (n - 1) (by omega)
    rw [hlast] at g1
    have e1 : ((n : Int) - 1).toNat = n - 1 := by omega
    clear hcell hlast h
    go_enter Tryd.func74, Tryd.ntmps74
    go_wp2
    go_ret
    exact ⟨rfl, rfl⟩
  · clear h
    go_enter Tryd.func74, Tryd.ntmps74
    go_wp2
    go_ret
    exact ⟨rfl, rfl⟩
set_option maxHeartbeats 800000 in
set_option maxRecDepth 100000 in
/-- dyad.Check: dyads that may be. -/
theorem Check_ok (w : World) (lo hi : Nat) (s : Bool) (A : Option Addr) (n c : Nat) (xs : List Int) (ex : Int) (hX : Ints w lo hi .u32 A n xs) (hhi : hi ≤ w.heap.size) (h : MayD s xs ex) :
    Calls Tryd.prog 35 #[.agg #[.bool s, .slice A n c, .int .i64 ex]] w fun e w' => e = .returned (.int .i64 0) ∧ Below w.heap.size w w' := by
  have hL := Lib.hid hX.len
  have hX2 := hX.alloc hhi (.cells #[.bool s, .slice A n c, .int .i64 ex] 24)
  have hB := (Below.refl w.heap.size w).alloc (Nat.le_refl _) (.cells #[.bool s, .slice A n c, .int .i64 ex] 24)
  obtain ⟨hmay, he0, he1, hz, ho⟩ := h
  by_cases h0 : 0 < n
  · have hne : xs ≠ [] := fun e => by have := hL.out; rw [e] at this; simp at this; omega
    obtain ⟨b, off, rfl, hcell⟩ := get hX2 h0
    have g1 := hcell 0 h0
    rw [Nat.add_zero] at g1
    have ho' := ho hne
    have hn0 : ((n : Int) == 0) = false := by simp; omega
    obtain ⟨v0, v1⟩ := hX.u32 0
    clear hcell hz ho
    generalize xs[0]?.getD 0 = v at g1 ho' v0 v1
    by_cases hpos : 0 < ex
    · have hv := ho' hpos
      have hv2 : v % 2 = 1 := hv
      clear ho' hv hne
      go_enter Tryd.func35, Tryd.ntmps35
      go_wp2_with fail
      refine (limbCheck_ok _ _ _ _ _ _ _ hX2 hmay).mono ?_
      rintro e w1 ⟨rfl, rfl⟩
      clear hmay
      go_wp2
      go_ret
      exact ⟨rfl, hB⟩
    · obtain rfl : ex = 0 := by omega
      clear ho' hne he0 he1
      go_enter Tryd.func35, Tryd.ntmps35
      go_wp2_with fail
      refine (limbCheck_ok _ _ _ _ _ _ _ hX2 hmay).mono ?_
      rintro e w1 ⟨rfl, rfl⟩
      clear hmay
      go_wp2
      go_ret
      exact ⟨rfl, hB⟩
  · obtain rfl : n = 0 := by omega
    obtain ⟨rfl, rfl⟩ := hz (hX.zero rfl)
    clear ho he0 he1
    go_enter Tryd.func35, Tryd.ntmps35
    go_wp2_with fail
    refine (limbCheck_ok _ _ _ _ _ _ _ hX2 hmay).mono ?_
    rintro e w1 ⟨rfl, rfl⟩
    clear hmay
    go_wp2
    go_ret
    exact ⟨rfl, hB⟩

theorem not_may {s : Bool} {xs : List Int} {e : Int} (h : ¬ MayD s xs e) : ¬ MayL xs ∨ (MayL xs ∧ (e < 0 ∨ 1024 < e)) ∨ (MayL xs ∧ 0 ≤ e ∧ e ≤ 1024 ∧ xs = [] ∧ (e ≠ 0 ∨ s = true)) ∨ (MayL xs ∧ 0 < e ∧ e ≤ 1024 ∧ xs ≠ [] ∧ xs[0]?.getD 0 % 2 ≠ 1) := by
  by_cases h1 : MayL xs
  · by_cases h2 : e < 0 ∨ 1024 < e
    · exact .inr (.inl ⟨h1, h2⟩)
    · by_cases h3 : xs = []
      · refine .inr (.inr (.inl ⟨h1, by omega, by omega, h3, ?_⟩))
        by_cases h4 : e = 0
        · right
          cases s
          · exact absurd ⟨h1, by omega, by omega, fun _ => ⟨h4, rfl⟩, fun hne => absurd h3 hne⟩ h
          · rfl
        · exact .inl h4
      · by_cases h4 : 0 < e ∧ xs[0]?.getD 0 % 2 ≠ 1
        · exact .inr (.inr (.inr ⟨h1, h4.1, by omega, h3, h4.2⟩))
        · exact absurd ⟨h1, by omega, by omega, fun h5 => absurd h5 h3, fun _ h5 => by omega⟩ h
  · exact .inl h1

set_option maxHeartbeats 1600000 in
set_option maxRecDepth 100000 in
/-- dyad.Check: dyads that may not be. -/
theorem Check_bad (w : World) (lo hi : Nat) (s : Bool) (A : Option Addr) (n c : Nat) (xs : List Int) (ex : Int) (hX : Ints w lo hi .u32 A n xs) (hhi : hi ≤ w.heap.size) (h : ¬ MayD s xs ex) :
    Calls Tryd.prog 35 #[.agg #[.bool s, .slice A n c, .int .i64 ex]] w fun e w' => e = .returned (.int .i64 8) ∧ Below w.heap.size w w' := by
  have hL := Lib.hid hX.len
  have hX2 := hX.alloc hhi (.cells #[.bool s, .slice A n c, .int .i64 ex] 24)
  have hB := (Below.refl w.heap.size w).alloc (Nat.le_refl _) (.cells #[.bool s, .slice A n c, .int .i64 ex] 24)
  have hbig := hX.big
  rcases not_may h with hm | ⟨hm, hx⟩ | ⟨hm, h0, h1, hz, hx⟩ | ⟨hm, h0, h1, hz, hx⟩
  · clear h
    go_enter Tryd.func35, Tryd.ntmps35
    go_wp2_with fail
    refine (limbCheck_bad _ _ _ _ _ _ _ hX2 hm).mono ?_
    rintro e w1 ⟨rfl, rfl⟩
    clear hm
    by_cases hn0 : n = 0
    · subst hn0
      go_wp2
      go_ret
      exact ⟨rfl, hB⟩
    · have hn1 : ((n : Int) == 0) = false := by simp; omega
      go_wp2
      go_ret
      exact ⟨rfl, hB⟩
  · clear h
    have hn1 : n ≠ 0 → ((n : Int) == 0) = false := fun h => by simp; omega
    rcases hx with hx | hx
    all_goals
      by_cases hn0 : n = 0
      · subst hn0
        clear hn1
        go_enter Tryd.func35, Tryd.ntmps35
        go_wp2_with fail
        refine (limbCheck_ok _ _ _ _ _ _ _ hX2 hm).mono ?_
        rintro e w1 ⟨rfl, rfl⟩
        clear hm
        go_wp2
        go_ret
        exact ⟨rfl, hB⟩
      · have hn2 := hn1 hn0
        clear hn1
        go_enter Tryd.func35, Tryd.ntmps35
        go_wp2_with fail
        refine (limbCheck_ok _ _ _ _ _ _ _ hX2 hm).mono ?_
        rintro e w1 ⟨rfl, rfl⟩
        clear hm
        go_wp2
        go_ret
        exact ⟨rfl, hB⟩
  · clear h
    subst hz
    obtain rfl : n = 0 := by have := hL.out; simp at this; omega
    by_cases hx0 : ex = 0
    · subst hx0
      obtain rfl : s = true := hx.resolve_left (fun h => h rfl)
      clear hx
      go_enter Tryd.func35, Tryd.ntmps35
      go_wp2_with fail
      refine (limbCheck_ok _ _ _ _ _ _ _ hX2 hm).mono ?_
      rintro e w1 ⟨rfl, rfl⟩
      clear hm
      go_wp2
      go_ret
      exact ⟨rfl, hB⟩
    · have hx1 : (ex != 0) = true := by simpa using hx0
      clear hx
      go_enter Tryd.func35, Tryd.ntmps35
      go_wp2_with fail
      refine (limbCheck_ok _ _ _ _ _ _ _ hX2 hm).mono ?_
      rintro e w1 ⟨rfl, rfl⟩
      clear hm
      go_wp2
      go_ret
      exact ⟨rfl, hB⟩
  · clear h
    have hn0 : 0 < n := by
      rcases Nat.eq_zero_or_pos n with h0 | h0
      · exact absurd (hX.zero h0) hz
      · exact h0
    obtain ⟨b, off, rfl, hcell⟩ := get hX2 hn0
    have g1 := hcell 0 hn0
    rw [Nat.add_zero] at g1
    have hn1 : ((n : Int) == 0) = false := by simp; omega
    obtain ⟨v0, v1⟩ := hX.u32 0
    clear hcell hz
    generalize xs[0]?.getD 0 = v at g1 hx v0 v1
    have hv : v % 2 = 0 := by omega
    clear hx
    go_enter Tryd.func35, Tryd.ntmps35
    go_wp2_with fail
    refine (limbCheck_ok _ _ _ _ _ _ _ hX2 hm).mono ?_
    rintro e w1 ⟨rfl, rfl⟩
    clear hm
    go_wp2
    go_ret
    exact ⟨rfl, hB⟩
end Dy
end Go.Proofs.YtlbkepiflhchdaaDoor
