/- Tags of the reference: whether two lists are the same: a walk. -/
import Derived.Test.YtmbppgjhdcmckaaGreatDoorBg09
namespace Go.Proofs.YtmbppgjhdcmckaaGreatDoor
open Go.RowKit
namespace Pa
set_option maxHeartbeats 800000 in
/-- headcountref10.SameTags. -/
theorem tagsSame_any (w : World) (lo hi lo' hi' : Nat) (A A' : Option Addr) (n c n' c' : Nat) (xs ys : List Int) (hX : Ints w lo hi .u32 A n xs) (hY : Ints w lo' hi' .u32 A' n' ys) (r : Bool) (hr : Sm xs ys = r) :
    Calls Tryz.prog 46 #[.slice A n c, .slice A' n' c'] w fun e w' => e = .returned (.bool r) ∧ ∃ m, w' = w.drewN m := by
  have HR := Lib.hid hr
  have HX := Lib.hid hX.len
  have HY := Lib.hid hY.len
  have hbx := hX.big
  have hby := hY.big
  clear hr
  by_cases hnn : n = n'
  · subst hnn
    go_enter Tryz.func46, Tryz.ntmps46
    go_wp2
    go_loopw [5] (fun iv wr => ∃ k : Nat, iv = .int .i64 k ∧ k ≤ n ∧ Hid (xs.take k = ys.take k) ∧ ∃ m, wr = w.drewN m) (fun iv _ => n - (intOf iv).toNat)
    case atStart => exact ⟨0, rfl, Nat.zero_le _, rfl, 0, rfl⟩
    case round =>
      obtain ⟨k, rfl, hk, htk, m, rfl⟩ := hrel
      by_cases hlt : k < n
      · obtain ⟨b, off, rfl, _, _, hc⟩ := hX.row (by omega)
        obtain ⟨b', off', rfl, _, _, hc'⟩ := hY.row (by omega)
        have g1 := (hc k hlt).1
        have g2 := (hc' k hlt).1
        have hk0 : (0 : Int) ≤ k := by omega
        have hkn : (k : Int) < n := by omega
        have hnx : Hid (xs[k]?.getD 0 = ys[k]?.getD 0 → xs.take (k + 1) = ys.take (k + 1)) := fun he => take_next (by rw [HX.out]; exact hlt) (by rw [HY.out]; exact hlt) htk.out he
        have hno : Hid (xs[k]?.getD 0 ≠ ys[k]?.getD 0 → Sm xs ys = false) := fun he => Sm_at he
        clear hc hc'
        generalize xs[k]?.getD 0 = x at g1 hnx hno
        generalize ys[k]?.getD 0 = y at g2 hnx hno
        by_cases he : x = y
        · subst he
          have hn2 := Lib.hid (hnx.out rfl)
          have hne : (x != x) = false := by simp
          go_wp2
          go_quiet (fail)
          go_wp2
          go_roundw
          case rel => exact ⟨k + 1, by go_num, by omega, hn2, _, rfl⟩
          case measure => simp [intOf]; omega
        · have e2 : r = false := by rw [← HR.out]; exact hno.out he
          subst e2
          have hne : (x != y) = true := by simpa using he
          go_wp2
          go_quiet (fail)
          go_wp2
          go_ret
          exact ⟨rfl, _, drewN_add ..⟩
      · obtain rfl : k = n := by omega
        have e2 : r = true := by
          rw [← HR.out]
          have := htk.out
          rw [List.take_of_length_le (by rw [HX.out]; exact Nat.le_refl _), List.take_of_length_le (by rw [HY.out]; exact Nat.le_refl _)] at this
          rw [this]
          exact Sm_refl _
        subst e2
        go_wp2
        go_ret
        exact ⟨rfl, m, rfl⟩
  · have e2 : r = false := by rw [← HR.out]; exact Sm_len (by rw [HX.out, HY.out]; exact hnn)
    subst e2
    have hne : ((n : Int) != n') = true := by simpa using (show ¬ (n : Int) = n' by omega)
    have hne2 : (n != n') = true := by simpa using hnn
    go_enter Tryz.func46, Tryz.ntmps46
    go_wp2
    go_ret
    exact ⟨rfl, 0, rfl⟩
end Pa
end Go.Proofs.YtmbppgjhdcmckaaGreatDoor
