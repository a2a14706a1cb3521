/- The statement LeastTells by a walk. -/
import Derived.Test.YtpmhnheimaimmaaLeastRefTags
namespace Go.Proofs.Ytpmhnheimaimmaa
open Go.RowKit
theorem Ints.setLow {w : World} {lo hi : Nat} {k : IntKind} {A : Option Addr} {n : Nat} {xs : List Int} (h : Ints w lo hi k A n xs) {g : Nat} (hg : g < lo) (j : Nat) (v : Value) : Ints (w.setCell ⟨g, j, none⟩ v) lo hi k A n xs :=
  ⟨h.len, h.wf, h.big, fun h0 => by
    obtain ⟨b, off, e, h1, h2, hc⟩ := h.row h0
    refine ⟨b, off, e, h1, h2, fun i hi => ⟨(World.cell?_setCell_other _ _ _ _ (fun e => by injection e with e1 _; omega)).trans (hc i hi).1, ?_⟩⟩
    rw [World.frozen?_setCell]
    exact (hc i hi).2⟩
namespace Least
theorem RowAt.put {w : World} {g n j : Nat} {f : Nat → Int} (h : RowAt w g n f) (x : Int) (hj : j < n) : RowAt (w.setCell ⟨g, j, none⟩ (.int .u32 x)) g n (fun k => if k = j then x else f k) := by
  intro k hk
  refine ⟨?_, by rw [World.frozen?_setCell]; exact (h k hk).2⟩
  show (w.setCell ⟨g, j, none⟩ (.int .u32 x)).cell? ⟨g, k, none⟩ = some (Value.int .u32 (if k = j then x else f k))
  by_cases e : k = j
  · subst e
    rw [if_pos rfl]
    exact World.cell?_setCell_same' _ _ _ (by rw [(h k hk).1]; rfl)
  · rw [if_neg e, World.cell?_setCell_other _ _ _ _ (by intro e; injection e with _ e2; omega)]
    exact (h k hk).1

def whoV (v : Int) : Int × Int × Int × Int := if v / 4 / 8 ≤ 65535 then (v / 4 / 8, v / 4 % 8, v % 4, 0) else (0, 0, 0, 6)
theorem Whose_any (w : World) (x : BitVec 32) (p q r s : Int) (h : whoV (U (stillS x)) = (p, q, r, s)) :
    Calls Try.prog 24 #[.int .u32 (U x)] w fun e w' => e = .returned (.tuple #[.int .i64 p, .int .i64 q, .int .i64 r, .int .i64 s]) ∧ Below w.heap.size w w' := by
  unfold whoV at h
  by_cases h1 : U (stillS x) / 4 / 8 ≤ 65535
  · rw [if_pos h1] at h
    cases h
    exact Whose_in w x h1
  · rw [if_neg h1] at h
    cases h
    exact Whose_out w x (by omega)
theorem RWhose_any (w : World) (x : BitVec 32) (p q r s : Int) (h : whoV (U (stillS x)) = (p, q, r, s)) :
    Calls Try.prog 25 #[.int .u32 (U x)] w fun e w' => e = .returned (.tuple #[.int .i64 p, .int .i64 q, .int .i64 r, .int .i64 s]) ∧ w' = w := by
  unfold whoV at h
  by_cases h1 : U (stillS x) / 4 / 8 ≤ 65535
  · rw [if_pos h1] at h
    cases h
    exact RWhose_in w x _ rfl h1
  · rw [if_neg h1] at h
    cases h
    exact RWhose_out w x _ rfl (by omega)
theorem RStill_at (w : World) (x : BitVec 32) (i r : Int) (hi : U x = i) (hr : U (stillS x) = r) : Calls Try.prog 23 #[.int .u32 i] w fun e w' => e = .returned (.int .u32 r) ∧ w' = w := by
  subst hi
  subst hr
  exact RStill_any w x

set_option maxHeartbeats 1600000 in
theorem Tells_bad (w : World) (x : BitVec 32) (e nd : Int) (hb : e < 0 ∨ 65535 < e ∨ nd < 0 ∨ 8 ≤ nd) :
    Calls Try.prog 6 #[.int .u32 (U x), .int .i64 e, .int .i64 nd] w fun r w' => r = .returned (.bool true) ∧ Below w.heap.size w w' := by
  obtain ⟨st, hst⟩ : ∃ s, U (stirS x) = s := ⟨_, rfl⟩
  obtain ⟨sl, hsl⟩ : ∃ s, U (stillS x) = s := ⟨_, rfl⟩
  obtain ⟨⟨p, q, r, s⟩, hw⟩ : ∃ t, whoV (U (stillS x)) = t := ⟨_, rfl⟩
  have HB := Lib.hid hb
  have HST := Lib.hid hst
  have HSL := Lib.hid hsl
  have HW := Lib.hid hw
  clear hb hst hsl hw
  go_enter Try.func6, Try.ntmps6
  go_wp2_with fail
  refine (Tags_bad _ e nd HB.out).mono ?_
  rintro r w1 ⟨rfl, rfl⟩
  go_wp2_with fail
  refine (RTags_bad _ e nd HB.out).mono ?_
  rintro r w2 ⟨rfl, rfl⟩
  go_wp2_with fail
  refine (Stir_at _ x _ st rfl HST.out).mono ?_
  rintro r w3 ⟨rfl, hB⟩
  go_wp2_with fail
  refine (RStir_at _ x _ st rfl HST.out).mono ?_
  rintro r w4 ⟨rfl, rfl⟩
  go_wp2_with fail
  refine (Still_at _ x _ sl rfl HSL.out).mono ?_
  rintro r w5 ⟨rfl, hb⟩
  have hB := hB.trans (hb.mono hB.size)
  clear hb
  go_wp2_with fail
  refine (RStill_at _ x _ sl rfl HSL.out).mono ?_
  rintro r w6 ⟨rfl, rfl⟩
  go_wp2_with fail
  refine (SameTags_any _ 0 0 0 0 none _ _ [] (Ints.nil_ ..) none _ _ [] (Ints.nil_ ..) true (by decide)).mono ?_
  rintro r w7 ⟨rfl, m7, rfl⟩
  have hB := below_drewN hB m7
  go_wp2_with fail
  refine wp_loop_rounds 1 ?_
  rw [rounds_succ]
  go_wp2_with fail
  refine (Tags_bad _ e nd HB.out).mono ?_
  rintro r w8 ⟨rfl, rfl⟩
  go_wp2_with fail
  refine (Whose_any _ x p q _ s HW.out).mono ?_
  rintro r w9 ⟨rfl, hb⟩
  have hB := hB.trans (hb.mono hB.size)
  clear hb
  go_wp2_with fail
  refine (RWhose_any _ x p q _ s HW.out).mono ?_
  rintro r w10 ⟨rfl, rfl⟩
  go_wp2_with fail
  refine (SameTags_any _ 0 0 0 0 none _ _ [] (Ints.nil_ ..) none _ _ [] (Ints.nil_ ..) true (by decide)).mono ?_
  rintro r w11 ⟨rfl, m11, rfl⟩
  go_wp2_with fail
  go_ret
  exact ⟨ret_bool (by simp), below_drewN hB m11⟩

set_option maxHeartbeats 1600000 in
theorem Tells_ok (w : World) (x : BitVec 32) (e nd : Nat) (he : e ≤ 65535) (hn : nd < 8) :
    Calls Try.prog 6 #[.int .u32 (U x), .int .i64 e, .int .i64 nd] w fun r w' => r = .returned (.bool true) ∧ Below w.heap.size w w' := by
  obtain ⟨st, hst⟩ : ∃ s, U (stirS x) = s := ⟨_, rfl⟩
  obtain ⟨sl, hsl⟩ : ∃ s, U (stillS x) = s := ⟨_, rfl⟩
  obtain ⟨⟨p, q, r, s⟩, hw⟩ : ∃ t, whoV (U (stillS x)) = t := ⟨_, rfl⟩
  have HST := Lib.hid hst
  have HSL := Lib.hid hsl
  have HW := Lib.hid hw
  clear hst hsl hw
  go_enter Try.func6, Try.ntmps6
  go_wp2_with fail
  refine (Tags_ok _ e nd he hn).mono ?_
  rintro _ w1 ⟨g, c, f, rfl, hc, hg, hgs, hB, hr, hs, hu⟩
  go_wp2_with fail
  refine (RTags_ok _ e nd he hn).mono ?_
  rintro _ w2 ⟨B, nb, cb, rfl, hb, hI⟩
  have hr := hr.below hb hgs
  have hB := hB.trans (hb.mono hB.size)
  have hs2 := hb.size
  clear hb
  go_wp2_with fail
  refine (Stir_at _ x _ st rfl HST.out).mono ?_
  rintro _ w3 ⟨rfl, hb⟩
  have hr := hr.below hb (by omega)
  have hI := hI.below hb (Nat.le_refl _)
  have hB := hB.trans (hb.mono hB.size)
  have hs3 := hb.size
  clear hb
  go_wp2_with fail
  refine (RStir_at _ x _ st rfl HST.out).mono ?_
  rintro _ w4 ⟨rfl, rfl⟩
  go_wp2_with fail
  refine (Still_at _ x _ sl rfl HSL.out).mono ?_
  rintro _ w5 ⟨rfl, hb⟩
  have hr := hr.below hb (by omega)
  have hI := hI.below hb (by omega)
  have hB := hB.trans (hb.mono hB.size)
  have hs5 := hb.size
  clear hb
  go_wp2_with fail
  refine (RStill_at _ x _ sl rfl HSL.out).mono ?_
  rintro _ w6 ⟨rfl, rfl⟩
  have hrl := row_ints hr (by omega) (row_le hs)
  rw [row_ref hs hu] at hrl
  go_wp2_with fail
  refine (SameTags_any _ _ _ _ _ _ _ _ _ hrl _ _ _ _ hI true (by simp)).mono ?_
  rintro _ w7 ⟨rfl, m7, hw7⟩
  have hr : RowAt w7 g 4 f := hw7 ▸ hr.drewN m7
  have hI : Ints w7 w1.heap.size w2.heap.size .u32 B nb (refL e nd 4) := hw7 ▸ hI.drewN m7
  have hB : Below w.heap.size w w7 := hw7 ▸ below_drewN hB m7
  have hs7 : w2.heap.size ≤ w7.heap.size := by rw [hw7]; exact Nat.le_trans hs3 hs5
  clear hw7 hrl hs hu hs3 hs5
  go_wp2
  go_loopw [12] (fun i wr => ∃ k f', i = .int .i64 (k : Nat) ∧ k ≤ 4 ∧ RowAt wr g 4 f' ∧ Ints wr w1.heap.size w2.heap.size .u32 B nb (refL e nd 4) ∧ Below w.heap.size w wr ∧ w2.heap.size ≤ wr.heap.size) (fun i _ => 4 - (intOf i).toNat)
  case atStart => exact ⟨0, f, rfl, by omega, hr, hI, hB, hs7⟩
  case round =>
    clear hr hI hB hs7
    obtain ⟨k, f', rfl, hk, hr, hI, hB, hs7⟩ := hrel
    by_cases hlt : k < 4
    · have gk := hr k hlt
      go_wp2
      go_roundw
      case rel => exact ⟨k + 1, _, by go_num, by omega, hr.put 7 hlt, hI.setLow hgs _ _, hB.setCell hg _, by rw [World.size_setCell]; exact hs7⟩
      case measure => simp [intOf]; omega
    · clear hr
      go_wp2_with fail
      refine (Tags_ok _ e nd he hn).mono ?_
      rintro _ w8 ⟨g2, c2, f2, rfl, _, hg2, hgs2, hb, hr, hs, hu⟩
      have hI := hI.below hb hs7
      have hB := hB.trans (hb.mono hB.size)
      have hs8 := Nat.le_trans hs7 hb.size
      have hrl := row_ints hr hgs2 (row_le hs)
      rw [row_ref hs hu] at hrl
      clear hb hr hs hu hs7
      go_wp2_with fail
      refine (Whose_any _ x p q _ s HW.out).mono ?_
      rintro _ w9 ⟨rfl, hb⟩
      have hI := hI.below hb hs8
      have hrl := hrl.below hb (Nat.le_refl _)
      have hB := hB.trans (hb.mono hB.size)
      clear hb
      go_wp2_with fail
      refine (RWhose_any _ x p q _ s HW.out).mono ?_
      rintro _ w10 ⟨rfl, rfl⟩
      go_wp2_with fail
      refine (SameTags_any _ _ _ _ _ _ _ _ _ hrl _ _ _ _ hI true (by simp)).mono ?_
      rintro _ w11 ⟨rfl, m11, rfl⟩
      go_wp2_with fail
      go_ret
      exact ⟨ret_bool (by simp), below_drewN hB m11⟩
end Least
end Go.Proofs.Ytpmhnheimaimmaa
