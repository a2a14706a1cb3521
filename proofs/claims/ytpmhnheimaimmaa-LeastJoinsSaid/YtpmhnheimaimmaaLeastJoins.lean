/- The statement LeastJoins: tags joined, and guesses, are as is said: by a walk. -/
import Derived.Test.YtpmhnheimaimmaaLeastWalks7
namespace Go.Proofs.Ytpmhnheimaimmaa
open Go.RowKit
namespace Least

/-- Too long. -/
theorem Joins_long (w : World) (lo hi lo' hi' : Nat) (A : Option Addr) (n c : Nat) (xs : List Int) (h : Ints w lo hi .u32 A n xs) (B : Option Addr) (m d : Nat) (ys : List Int) (h2 : Ints w lo' hi' .u32 B m ys)
    (hl : 70 < n ∨ 70 < m) :
    Calls Try.prog 3 #[.slice A n c, .slice B m d] w fun e w' => e = .returned (.bool true) ∧ Below w.heap.size w w' := by
  have hbig := h.big
  have hbig2 := h2.big
  by_cases h1 : 70 < n
  · clear hl
    go_enter Try.func3, Try.ntmps3
    go_wp2
    go_ret
    exact ⟨rfl, Below.refl _ _⟩
  · have h3 := hl.resolve_left h1
    clear hl
    go_enter Try.func3, Try.ntmps3
    go_wp2
    go_ret
    exact ⟨rfl, Below.refl _ _⟩

set_option maxHeartbeats 1600000 in
/-- A list may not be. -/
theorem Joins_bad (w : World) (lo hi lo' hi' : Nat) (A : Option Addr) (n c : Nat) (xs : List Int) (h : Ints w lo hi .u32 A n xs) (B : Option Addr) (m d : Nat) (ys : List Int) (h2 : Ints w lo' hi' .u32 B m ys)
    (hhi : hi ≤ w.heap.size) (hhi' : hi' ≤ w.heap.size) (hn : n ≤ 70) (hm : m ≤ 70) (code : Int) (hcode : (if checkCode xs = 0 then checkCode ys else checkCode xs) = code) (h0 : code ≠ 0) :
    Calls Try.prog 3 #[.slice A n c, .slice B m d] w fun e w' => e = .returned (.bool true) ∧ Below w.heap.size w w' := by
  have hlen := h.len
  have hbig := h.big
  have hbig2 := h2.big
  obtain ⟨i0, hi0, hz0, hz1, hz2⟩ := info_parts Try.info35
  have HE := Lib.hid hcode
  have H0 := Lib.hid h0
  obtain ⟨cc, hcc⟩ : ∃ cc, checkCode xs = cc := ⟨_, rfl⟩
  obtain ⟨gg, hgg⟩ : ∃ gg, guessR xs = gg := ⟨_, rfl⟩
  have HC := Lib.hid hcc
  have HG := Lib.hid hgg
  clear hlen hcode h0 hcc hgg
  go_enter Try.func3, Try.ntmps3
  go_wp2_with (first
    | (at_builtin; refine wpList_append_raw _ rfl (.tmp 25) (.tmp 26) 22 rfl w.heap.size 35 i0 (.int .u32 0) 1 4 Try.underlying22 hi0 hz0 hz1 hz2 rfl (by decide) _ _ _ rfl (own_empty w w.heap.size _ 1 (Nat.le_refl _)) _ _ _ n _ _ rfl (h.alloc hhi _).raw ?h1 ?h2 ?h3 ?h4 ?_))
  case h1 => exact ints_oneCell _ _
  case h2 => unfold maxLen; omega
  case h3 => omega
  case h4 => simp
  intro A1 c1 w1 hown1 hgrow1 _
  have hb1 : Below w.heap.size w w1 := ((Below.refl _ w).alloc (Nat.le_refl _) _).grown hgrow1 (by simp) (fun q hq => by simp [Value.ownBlock] at hq; omega)
  try simp only [Nat.zero_add, List.nil_append] at hown1
  have hc1 := own_cap hown1
  have hI1 : Ints w1 w.heap.size w1.heap.size .u32 A1 n xs := Ints.of_own hown1 h.wf (by omega)
  clear hown1 hgrow1
  go_wp2_with (first
    | (at_builtin; refine wpList_append_raw _ rfl (.tmp 28) (.tmp 29) 22 rfl w1.heap.size 35 i0 (.int .u32 0) 1 4 Try.underlying22 hi0 hz0 hz1 hz2 rfl (by decide) _ _ _ rfl (own_empty w1 w1.heap.size _ 1 (Nat.le_refl _)) _ _ _ m _ _ rfl ((h2.below hb1 hhi').alloc (Nat.le_trans hhi' hb1.size) _).raw ?k1 ?k2 ?k3 ?k4 ?_))
  case k1 => exact ints_oneCell _ _
  case k2 => unfold maxLen; omega
  case k3 => omega
  case k4 => simp
  intro A2 c2 w2 hown2 hgrow2 _
  have hb2' : Below w1.heap.size w1 w2 := ((Below.refl _ w1).alloc (Nat.le_refl _) _).grown hgrow2 (by simp) (fun q hq => by simp [Value.ownBlock] at hq; omega)
  have hb2 : Below w.heap.size w w2 := hb1.trans (hb2'.mono hb1.size)
  try simp only [Nat.zero_add, List.nil_append] at hown2
  have hc2 := own_cap hown2
  have hI2 : Ints w2 0 w2.heap.size .u32 A2 m ys := (Ints.of_own hown2 h2.wf (by omega)).more (Nat.zero_le _) (Nat.le_refl _)
  have hI1 : Ints w2 0 w2.heap.size .u32 A1 n xs := (hI1.below hb2' (Nat.le_refl _)).more (Nat.zero_le _) hb2'.size
  clear hown2 hgrow2 hb2' hb1
  go_wp2_with fail
  refine (Join_bad _ _ _ _ _ _ _ _ xs hI1 _ _ _ ys hI2 (Nat.le_refl _) (Nat.le_refl _) code HE.out H0.out).mono ?_
  rintro e w3 ⟨rfl, hb3⟩
  have hB3 : Below w.heap.size w w3 := hb2.trans (hb3.mono hb2.size)
  go_wp2_with fail
  refine (RJoin_bad _ _ _ _ _ _ _ _ xs (h.below hB3 hhi) _ _ _ ys (h2.below hB3 hhi') code HE.out H0.out).mono ?_
  rintro e w4 ⟨rfl, hb4⟩
  have hI3 : Ints w4 0 w4.heap.size .u32 none 0 [] := Ints.nil_ ..
  have hI4 : Ints w4 0 w4.heap.size .u32 none 0 [] := Ints.nil_ ..
  have hB4 : Below w.heap.size w w4 := hB3.trans (hb4.mono hB3.size)
  have hb24 : Below w2.heap.size w2 w4 := hb3.trans (hb4.mono hb3.size)
  clear hb3 hb4 hB3
  have hI0 := hI1
  have hI1 := (hI1.below hb24 (Nat.le_refl _)).more (Nat.le_refl _) hb24.size
  go_wp2_with fail
  refine (Guess_any _ _ _ _ _ _ xs hI1 cc gg HC.out HG.out).mono ?_
  rintro e w5 ⟨rfl, m5, rfl⟩
  go_wp2_with fail
  refine (RGuess_any _ _ _ _ _ _ xs ((h.below hB4 hhi).drewN m5) cc gg HC.out HG.out).mono ?_
  rintro e w5 ⟨rfl, m6, rfl⟩
  go_wp2_with fail
  refine (SameTags_any _ _ _ _ _ _ _ _ _ (hI3.drewN _) _ _ _ _ (hI4.drewN _) true (by simp)).mono ?_
  rintro e w5 ⟨rfl, m7, rfl⟩
  go_wp2_with fail
  refine (Check_any _ _ _ _ _ _ xs (hI1.drewN _) cc HC.out).mono ?_
  rintro e w5 ⟨rfl, m8, rfl⟩
  go_wp2_with fail
  refine (RCheck_any _ _ _ _ _ _ xs ((h.below hB4 hhi).drewN _) cc HC.out).mono ?_
  rintro e w5 ⟨rfl, m9, rfl⟩
  go_wp2_with fail
  generalize m5 + m6 + m7 + m8 + m9 = mm
  go_loopw [16] (fun i wr => ∃ k : Nat, i = .int .i64 k ∧ k ≤ 0 ∧ Below w2.heap.size w2 wr) (fun i _ => 0 - (intOf i).toNat)
  case atStart => exact ⟨0, rfl, by omega, below_drewN hb24 mm⟩
  case round =>
    obtain ⟨k, rfl, hk, hnx⟩ := hrel
    obtain rfl : k = 0 := by omega
    clear hI3 hI4 hB4 hI1
    go_wp2_with fail
    refine (SameTags_any _ _ _ _ _ _ _ _ _ (hI0.below hnx (Nat.le_refl _)) _ _ _ _ (h.below (hb2.trans (hnx.mono hb2.size)) hhi) true (by simp)).mono ?_
    rintro e w6 ⟨rfl, q1, rfl⟩
    go_wp2_with fail
    refine (SameTags_any _ _ _ _ _ _ _ _ _ ((hI2.below hnx (Nat.le_refl _)).drewN _) _ _ _ _ ((h2.below (hb2.trans (hnx.mono hb2.size)) hhi').drewN _) true (by simp)).mono ?_
    rintro e w6 ⟨rfl, q2, rfl⟩
    go_wp2_with fail
    go_ret
    exact ⟨ret_bool (by simp), (hb2.trans (hnx.mono hb2.size)).trans (below_of_drewN ..)⟩

set_option maxHeartbeats 1600000 in
/-- Both lists may be. -/
theorem Joins_ok (w : World) (lo hi lo' hi' : Nat) (A : Option Addr) (n c : Nat) (xs : List Int) (h : Ints w lo hi .u32 A n xs) (B : Option Addr) (m d : Nat) (ys : List Int) (h2 : Ints w lo' hi' .u32 B m ys)
    (hhi : hi ≤ w.heap.size) (hhi' : hi' ≤ w.heap.size) (hn : n ≤ 70) (hm : m ≤ 70) (hx : checkCode xs = 0) (hy : checkCode ys = 0) :
    Calls Try.prog 3 #[.slice A n c, .slice B m d] w fun e w' => e = .returned (.bool true) ∧ Below w.heap.size w w' := by
  have hlen := h.len
  have hbig := h.big
  have hbig2 := h2.big
  obtain ⟨i0, hi0, hz0, hz1, hz2⟩ := info_parts Try.info35
  have HX := Lib.hid hx
  have HY := Lib.hid hy
  have HJ := Lib.hid (join_eq xs ys (checkCode_ok hx).2 (checkCode_ok hy).2)
  obtain ⟨gg, hgg⟩ : ∃ gg, guessR xs = gg := ⟨_, rfl⟩
  have HG := Lib.hid hgg
  clear hlen hx hy hgg
  go_enter Try.func3, Try.ntmps3
  go_wp2_with (first
    | (at_builtin; refine wpList_append_raw _ rfl (.tmp 25) (.tmp 26) 22 rfl w.heap.size 35 i0 (.int .u32 0) 1 4 Try.underlying22 hi0 hz0 hz1 hz2 rfl (by decide) _ _ _ rfl (own_empty w w.heap.size _ 1 (Nat.le_refl _)) _ _ _ n _ _ rfl (h.alloc hhi _).raw ?h1 ?h2 ?h3 ?h4 ?_))
  case h1 => exact ints_oneCell _ _
  case h2 => unfold maxLen; omega
  case h3 => omega
  case h4 => simp
  intro A1 c1 w1 hown1 hgrow1 _
  have hb1 : Below w.heap.size w w1 := ((Below.refl _ w).alloc (Nat.le_refl _) _).grown hgrow1 (by simp) (fun q hq => by simp [Value.ownBlock] at hq; omega)
  try simp only [Nat.zero_add, List.nil_append] at hown1
  have hc1 := own_cap hown1
  have hI1 : Ints w1 w.heap.size w1.heap.size .u32 A1 n xs := Ints.of_own hown1 h.wf (by omega)
  clear hown1 hgrow1
  go_wp2_with (first
    | (at_builtin; refine wpList_append_raw _ rfl (.tmp 28) (.tmp 29) 22 rfl w1.heap.size 35 i0 (.int .u32 0) 1 4 Try.underlying22 hi0 hz0 hz1 hz2 rfl (by decide) _ _ _ rfl (own_empty w1 w1.heap.size _ 1 (Nat.le_refl _)) _ _ _ m _ _ rfl ((h2.below hb1 hhi').alloc (Nat.le_trans hhi' hb1.size) _).raw ?k1 ?k2 ?k3 ?k4 ?_))
  case k1 => exact ints_oneCell _ _
  case k2 => unfold maxLen; omega
  case k3 => omega
  case k4 => simp
  intro A2 c2 w2 hown2 hgrow2 _
  have hb2' : Below w1.heap.size w1 w2 := ((Below.refl _ w1).alloc (Nat.le_refl _) _).grown hgrow2 (by simp) (fun q hq => by simp [Value.ownBlock] at hq; omega)
  have hb2 : Below w.heap.size w w2 := hb1.trans (hb2'.mono hb1.size)
  try simp only [Nat.zero_add, List.nil_append] at hown2
  have hc2 := own_cap hown2
  have hI2 : Ints w2 0 w2.heap.size .u32 A2 m ys := (Ints.of_own hown2 h2.wf (by omega)).more (Nat.zero_le _) (Nat.le_refl _)
  have hI1 : Ints w2 0 w2.heap.size .u32 A1 n xs := (hI1.below hb2' (Nat.le_refl _)).more (Nat.zero_le _) hb2'.size
  clear hown2 hgrow2 hb2' hb1
  go_wp2_with fail
  refine (Join_ok _ _ _ _ _ _ _ _ xs hI1 _ _ _ ys hI2 hc1 hc2 HX.out HY.out (Nat.le_refl _) (Nat.le_refl _)).mono ?_
  rintro e w3 ⟨A3, c3, rfl, hb3, hown3⟩
  have hB3 : Below w.heap.size w w3 := hb2.trans (hb3.mono hb2.size)
  have hwf3 : ∀ x ∈ joinN 8 xs ys, IntKind.u32.min ≤ x ∧ x ≤ IntKind.u32.max := fun x hx => by
    rw [joinN_take 8 (8 + (xs.length + ys.length)) xs ys (by omega)] at hx
    rcases (joinN_mem _ xs ys (by omega) x).1 (List.mem_of_mem_take hx) with h' | h'
    · exact h.wf x h'
    · exact h2.wf x h'
  have hl3 : (joinN 8 xs ys).length ≤ 8 := by rw [joinN_take 8 8 xs ys (by omega)]; simp; omega
  have HSame : Hid (decide (joinN 8 xs ys = joinedS xs ys) = true) := by simp [Hid, HJ.out]
  have HWF4 : Hid (∀ x ∈ joinedS xs ys, IntKind.u32.min ≤ x ∧ x ≤ IntKind.u32.max) := by rw [← HJ.out]; exact hwf3
  have hl4 : (joinedS xs ys).length ≤ 8 := by rw [← HJ.out]; exact hl3
  obtain ⟨zs, hzs⟩ : ∃ zs, joinN 8 xs ys = zs := ⟨_, rfl⟩
  obtain ⟨zt, hzt⟩ : ∃ zt, joinedS xs ys = zt := ⟨_, rfl⟩
  rw [hzs] at hown3 hwf3 hl3 HSame ⊢
  rw [hzt] at HWF4 hl4 HSame
  have hI3 : Ints w3 0 w3.heap.size .u32 A3 zs.length zs := (Ints.of_own hown3 hwf3 (by omega)).more (Nat.zero_le _) (Nat.le_refl _)
  have HW3 : 0 < zs.length → ∃ g, A3 = some ⟨g, 0, none⟩ ∧ w2.heap.size ≤ g ∧ g < w3.heap.size ∧ Writable w3 g zs.length := fun h0 => Writable.of_own hown3 h0
  have HZT := Lib.hid hzt
  clear hwf3 hown3 hzs hzt
  go_wp2_with fail
  refine (RJoin_ok _ _ _ _ _ _ _ _ xs (h.below hB3 hhi) _ _ _ ys (h2.below hB3 hhi') HX.out HY.out (Nat.le_trans hhi hB3.size) (Nat.le_trans hhi' hB3.size)).mono ?_
  rintro e w4 ⟨A4, c4, rfl, hb4, hown4⟩
  rw [HZT.out] at hown4 ⊢
  have hI4 : Ints w4 0 w4.heap.size .u32 A4 zt.length zt := (Ints.of_own hown4 HWF4.out (by omega)).more (Nat.zero_le _) (Nat.le_refl _)
  have hB4 : Below w.heap.size w w4 := hB3.trans (hb4.mono hB3.size)
  have hb24 : Below w2.heap.size w2 w4 := hb3.trans (hb4.mono hb3.size)
  have HW4 : Hid (0 < zs.length → ∃ g, A3 = some ⟨g, 0, none⟩ ∧ w2.heap.size ≤ g ∧ Writable w4 g zs.length) := fun h0 => by
    obtain ⟨g, h1, h2, h3, h4⟩ := HW3 h0
    exact ⟨g, h1, h2, h4.below hb4 h3⟩
  have hI3 := (hI3.below hb4 (Nat.le_refl _)).more (Nat.le_refl _) hb4.size
  clear hown4 HW3 hb3 hb4 hB3
  have hI0 := hI1
  have hI1 := (hI1.below hb24 (Nat.le_refl _)).more (Nat.le_refl _) hb24.size
  go_wp2_with fail
  refine (Guess_any _ _ _ _ _ _ xs hI1 0 gg HX.out HG.out).mono ?_
  rintro e w5 ⟨rfl, m5, rfl⟩
  go_wp2_with fail
  refine (RGuess_any _ _ _ _ _ _ xs ((h.below hB4 hhi).drewN m5) 0 gg HX.out HG.out).mono ?_
  rintro e w5 ⟨rfl, m6, rfl⟩
  go_wp2_with fail
  refine (SameTags_any _ _ _ _ _ _ _ _ _ (hI3.drewN _) _ _ _ _ (hI4.drewN _) true HSame.out).mono ?_
  rintro e w5 ⟨rfl, m7, rfl⟩
  go_wp2_with fail
  refine (Check_any _ _ _ _ _ _ xs (hI1.drewN _) 0 HX.out).mono ?_
  rintro e w5 ⟨rfl, m8, rfl⟩
  go_wp2_with fail
  refine (RCheck_any _ _ _ _ _ _ xs ((h.below hB4 hhi).drewN _) 0 HX.out).mono ?_
  rintro e w5 ⟨rfl, m9, rfl⟩
  go_wp2_with fail
  generalize m5 + m6 + m7 + m8 + m9 = mm
  go_loopw [16] (fun i wr => ∃ k : Nat, i = .int .i64 k ∧ k ≤ zs.length ∧ Below w2.heap.size w2 wr ∧ Hid (0 < zs.length → ∃ g, A3 = some ⟨g, 0, none⟩ ∧ w2.heap.size ≤ g ∧ Writable wr g zs.length)) (fun i _ => zs.length - (intOf i).toNat)
  case atStart =>
    refine ⟨0, rfl, by omega, below_drewN hb24 mm, fun h0 => ?_⟩
    obtain ⟨g, h1, h2, h3⟩ := HW4.out h0
    exact ⟨g, h1, h2, h3⟩
  case round =>
    obtain ⟨k, rfl, hk, hnx, HWr⟩ := hrel
    clear hI3 hI4 hB4 hI1 HW4
    by_cases hlt : k < zs.length
    · obtain ⟨g, rfl, hg, hW⟩ := HWr.out (by omega)
      obtain ⟨v0, hv0, hf0⟩ := hW.cell hlt
      go_wp2
      go_roundw
      case rel => exact ⟨k + 1, by go_num, by omega, hnx.setCell hg _, fun _ => ⟨g, rfl, hg, hW.set_ _⟩⟩
      case measure => simp [intOf]; omega
    · go_wp2_with fail
      refine (SameTags_any _ _ _ _ _ _ _ _ _ (hI0.below hnx (Nat.le_refl _)) _ _ _ _ (h.below (hb2.trans (hnx.mono hb2.size)) hhi) true (by simp)).mono ?_
      rintro e w6 ⟨rfl, q1, rfl⟩
      go_wp2_with fail
      refine (SameTags_any _ _ _ _ _ _ _ _ _ ((hI2.below hnx (Nat.le_refl _)).drewN _) _ _ _ _ ((h2.below (hb2.trans (hnx.mono hb2.size)) hhi').drewN _) true (by simp)).mono ?_
      rintro e w6 ⟨rfl, q2, rfl⟩
      go_wp2_with fail
      go_ret
      exact ⟨ret_bool (by simp), (hb2.trans (hnx.mono hb2.size)).trans (below_of_drewN ..)⟩

end Least
end Go.Proofs.Ytpmhnheimaimmaa
