/- How two long numbers stand: a walk. -/
import Derived.Test.YtlbkepiflhchdaaDoorDyW2
namespace Go.Proofs.YtlbkepiflhchdaaDoor
open Go.RowKit
namespace Dy
open Dp
theorem drewN_add (w : World) (a b : Nat) : (w.drewN a).drewN b = w.drewN (a + b) := by simp [World.drewN, Nat.add_assoc]
/-- 74 limbs that lie from offset o of block g on. -/
structure Row (w : World) (g o : Nat) (ws : List Int) : Prop where
  cell : ∀ j, j < 74 → w.cell? ⟨g, o + j, none⟩ = some (.int .u32 (ws[j]?.getD 0))
  free : ∀ j, j < 74 → w.frozen? ⟨g, o + j, none⟩ = false
  len : ws.length = 74
  dig : Dig 4294967296 ws
theorem Row.drewN {w : World} {g o : Nat} {ws : List Int} (h : Row w g o ws) (m : Nat) : Row (w.drewN m) g o ws := ⟨h.cell, h.free, h.len, h.dig⟩
theorem Row.keep {w w' : World} {g o : Nat} {ws : List Int} (h : Row w g o ws) (hk : ∀ j, j < 74 → w'.cell? ⟨g, o + j, none⟩ = w.cell? ⟨g, o + j, none⟩ ∧ w'.frozen? ⟨g, o + j, none⟩ = w.frozen? ⟨g, o + j, none⟩) : Row w' g o ws :=
  ⟨fun j hj => (hk j hj).1.trans (h.cell j hj), fun j hj => (hk j hj).2.trans (h.free j hj), h.len, h.dig⟩
theorem Wide.row {w : World} {g : Nat} {ws : List Int} (h : Wide w g ws) : Row w g 0 ws :=
  ⟨fun j hj => by rw [Nat.zero_add]; exact h.cell hj, fun j _ => by rw [Nat.zero_add]; exact h.free j, h.len, h.dig⟩
theorem below_same {ws us : List Int} (h : ws.drop 0 = us.drop 0) : decide (num 4294967296 ws < num 4294967296 us) = false := by
  simp only [List.drop_zero] at h
  rw [h]
  simp
theorem below_at {ws us : List Int} {k x y : Nat} (hw : ws.length = 74) (hu : us.length = 74) (hdw : Dig 4294967296 ws) (hdu : Dig 4294967296 us) (hk : k < 74) (h : ws.drop (k + 1) = us.drop (k + 1)) (hx : ws[k]?.getD 0 = (x : Int)) (hy : us[k]?.getD 0 = (y : Int)) :
    (x = y → ws.drop k = us.drop k) ∧ (x ≠ y → decide (num 4294967296 ws < num 4294967296 us) = decide (x < y)) := by
  refine ⟨fun e => drop_eq (by omega) (by omega) h (by rw [hx, hy, e]), fun e => ?_⟩
  rcases Nat.lt_or_ge x y with hlt | hge
  · have := less_by (by decide) hdw h (by rw [hx, hy]; simpa using hlt)
    simp [hlt, this]
  · have := less_by (by decide) hdu h.symm (by rw [hx, hy]; simp; omega)
    have h1 : ¬ num 4294967296 ws < num 4294967296 us := by omega
    have h2 : ¬ x < y := by omega
    simp [h1, h2]
set_option maxHeartbeats 1600000 in
set_option maxRecDepth 100000 in
/-- (*dyad.wide).below. -/
theorem below_any (w : World) (g o g' o' : Nat) (ws us : List Int) (hW : Row w g o ws) (hU : Row w g' o' us) (r : Bool) (hr : decide (num 4294967296 ws < num 4294967296 us) = r) :
    Calls Tryd.prog 90 #[.pointer (some ⟨g, o, none⟩), .pointer (some ⟨g', o', none⟩)] w fun e w' => e = .returned (.bool r) ∧ ∃ m, w' = w.drewN m := by
  have HR := Lib.hid hr
  clear hr
  go_enter Tryd.func90, Tryd.ntmps90
  go_wp2
  go_loopw [5] (fun iv wr => ∃ k : Nat, iv = .int .i64 ((k : Int) - 1) ∧ k ≤ 74 ∧ Hid (ws.drop k = us.drop k) ∧ ∃ m, wr = w.drewN m) (fun iv _ => (intOf iv + 1).toNat)
  case atStart => exact ⟨74, rfl, Nat.le_refl _, by rw [Hid, List.drop_eq_nil_of_le (by rw [hW.len]; exact Nat.le_refl _), List.drop_eq_nil_of_le (by rw [hU.len]; exact Nat.le_refl _)], 0, rfl⟩
  case round =>
    obtain ⟨k, rfl, hk, heq, m, rfl⟩ := hrel
    rcases k with _ | k
    · have e2 : r = false := by rw [← HR.out]; exact below_same heq.out
      subst e2
      go_wp2
      go_ret
      exact ⟨rfl, m, rfl⟩
    · have ej : ((k + 1 : Nat) : Int) - 1 = (k : Int) := by omega
      obtain ⟨x, hx, hx2⟩ := dig_get (by decide) hW.dig k
      obtain ⟨y, hy, hy2⟩ := dig_get (by decide) hU.dig k
      have g1 := hW.cell k (by omega)
      have g2 := hU.cell k (by omega)
      obtain ⟨hsame, hdiff⟩ := below_at hW.len hU.len hW.dig hU.dig (by omega) heq.out hx hy
      rw [hx] at g1
      rw [hy] at g2
      rw [ej]
      have hk0 : (0 : Int) ≤ k := by omega
      have hk1 : (k : Int) < 74 := by omega
      clear hx hy ej
      by_cases hxy : x = y
      · subst hxy
        have HS := Lib.hid (hsame rfl)
        have hne : ((x : Int) != x) = false := by simp
        clear hsame hdiff
        go_wp2
        go_quiet (fail)
        go_wp2
        go_roundw
        case rel => exact ⟨k, rfl, by omega, HS, _, rfl⟩
        case measure => first | (simp [intOf]; done) | (simp [intOf]; omega)
      · have HD := Lib.hid (hdiff hxy)
        have hne : ((x : Int) != y) = true := by simpa using (show ¬ (x : Int) = y by omega)
        clear hsame hdiff
        go_wp2
        go_quiet (fail)
        go_wp2
        go_quiet (fail)
        go_wp2
        go_ret
        exact ⟨ret_bool (by rw [← HR.out, HD.out]), m + (_ + _), by rw [drewN_add, drewN_add]⟩
end Dy
end Go.Proofs.YtlbkepiflhchdaaDoor
