/- How tags are joined: the reference's way, by a walk. -/
import Derived.Test.YtpmhnheimaimmaaLeastWalks2
namespace Go.Proofs.Ytpmhnheimaimmaa
open Go.RowKit
namespace Least

set_option maxHeartbeats 800000 in
/-- headcountref18.Joined. -/
theorem Joined_any (w : World) (lo hi lo' hi' : Nat) (A : Option Addr) (n c : Nat) (xs : List Int) (h : Ints w lo hi .u32 A n xs) (B : Option Addr) (m d : Nat) (ys : List Int) (h2 : Ints w lo' hi' .u32 B m ys)
    (hn : n ≤ 1000) (hm : m ≤ 1000) (hhi : hi ≤ w.heap.size) (hhi' : hi' ≤ w.heap.size) :
    Calls Try.prog 28 #[.slice A n c, .slice B m d] w fun e w' => ∃ A' c', e = .returned (.slice A' (joinedS xs ys).length c') ∧ Below w.heap.size w w' ∧
      w'.ownsRow w.heap.size 35 1 (.slice A' (joinedS xs ys).length c') (joinedS xs ys).length ((joinedS xs ys).map (Value.int .u32)) := by
  have Hl := Lib.hid h.len
  have Hl2 := Lib.hid h2.len
  obtain ⟨i0, hi0, hz0, hz1, hz2⟩ := info_parts Try.info35
  have hwf : ∀ i, ∀ y ∈ jst xs ys i, IntKind.u32.min ≤ y ∧ y ≤ IntKind.u32.max := fun i y hy => by
    rcases jst_mem xs ys i y hy with h' | h'
    · exact h.wf y h'
    · exact h2.wf y h'
  have HW := Lib.hid hwf
  clear hwf
  go_enter Try.func28, Try.ntmps28
  go_wp2_with (at_builtin; refine wpList_append_raw _ rfl (.tmp 7) (.tmp 8) 22 rfl w.heap.size 35 i0 (.int .u32 0) 1 4 Try.underlying22 hi0 hz0 hz1 hz2 rfl (by decide) _ _ _ rfl (own_empty w w.heap.size _ 1 (Nat.le_refl _)) _ _ _ n _ _ rfl (h.alloc hhi _).raw ?h1 ?h2 ?h3 ?h4 ?_)
  case h1 => exact ints_oneCell _ _
  case h2 => unfold maxLen; omega
  case h3 => omega
  case h4 => simp
  intro A1 c1 w1 hown1 hgrow1 _
  have hb1 : Below w.heap.size w w1 := ((Below.refl _ w).alloc (Nat.le_refl _) _).grown hgrow1 (by simp) (fun q hq => by simp [Value.ownBlock] at hq; omega)
  have hc1 := own_cap hown1
  try simp only [Nat.zero_add, List.nil_append] at hown1 hc1
  have hi1 : Ints w1 w.heap.size w1.heap.size .u32 A1 n xs := Ints.of_own hown1 h.wf (by omega)
  clear hown1 hgrow1
  go_wp2
  go_loopw [5, 6] (fun v i wr => ∃ k : Nat, i = .int .i64 k ∧ k ≤ m ∧ (∃ A' c', v = .slice A' (jst xs ys k).length c' ∧ (jst xs ys k).length ≤ c' ∧
      Ints wr w.heap.size wr.heap.size .u32 A' (jst xs ys k).length (jst xs ys k)) ∧ Below w.heap.size w wr) (fun _ i _ => m - (intOf i).toNat)
  case atStart => exact ⟨0, rfl, by omega, ⟨A1, c1, by rw [jst_zero, Hl.out], by rw [jst_zero, Hl.out]; exact hc1, by rw [jst_zero, Hl.out]; exact hi1⟩, hb1⟩
  case round =>
    clear hi1 hb1 hc1
    obtain ⟨k, rfl, hk, ⟨A', c', rfl, hc', hI⟩, hnx⟩ := hrel
    have hlen := jst_len xs ys k (by rw [Hl2.out]; omega)
    rw [Hl.out] at hlen
    by_cases hlt : k < m
    · obtain ⟨bb, off, rfl, hcell⟩ := below_get (h2.below hnx hhi') (by omega)
      have g1 : wr.cell? ⟨bb, off + k, none⟩ = some (.int .u32 (ys[k]?.getD 0)) := hcell _ (by omega)
      have HJ := Lib.hid (jst_succ xs ys k (by rw [Hl2.out]; omega))
      clear hcell
      go_wp2_with (go_at_call 39; refine (With_any _ _ _ _ _ _ _ hI (by omega) (Nat.le_refl _) _).mono ?_; rintro e w' ⟨A2, c2, rfl, hb2, hown2⟩)
      rw [← HJ.out] at hown2 ⊢
      have hc2 := own_cap hown2
      have hlen2 := jst_len xs ys (k+1) (by rw [Hl2.out]; omega)
      rw [Hl.out] at hlen2
      have hI2 := Ints.of_own hown2 (HW.out (k+1)) (by omega)
      clear hown2 hI g1
      go_wp2
      go_roundw
      case rel => exact ⟨k + 1, by go_num, by omega, ⟨A2, c2, rfl, hc2, hI2.more hnx.size (Nat.le_refl _)⟩, hnx.trans (hb2.mono hnx.size)⟩
      case measure => simp [intOf]; omega
    · have hf : joinedS xs ys = (jst xs ys k).take 8 := by
        have hl := Hl2.out
        obtain rfl : k = ys.length := by omega
        exact (jst_end xs ys).symm
      have HF := Lib.hid hf
      clear hf
      by_cases h8 : 8 < (jst xs ys k).length
      · have hI8 := hI.take_ (m := 8) (by omega)
        have HT : Hid (((jst xs ys k).take 8).length = 8) := by simp [Hid]; omega
        clear hI
        go_wp2_with (at_builtin; refine wpList_append_raw _ rfl (.tmp 27) (.tmp 28) 22 rfl w.heap.size 35 i0 (.int .u32 0) 1 4 Try.underlying22 hi0 hz0 hz1 hz2 rfl (by decide) _ _ _ rfl (own_empty wr w.heap.size _ 1 hnx.size) _ _ _ 8 _ _ rfl (hI8.alloc (Nat.le_refl _) _).raw ?i1 ?i2 ?i3 ?i4 ?_)
        case i1 => exact ints_oneCell _ _
        case i2 => unfold maxLen; omega
        case i3 => omega
        case i4 => have := hnx.size; simp; omega
        intro A1 c1 w1 hown1 hgrow1 _
        have hb1 : Below w.heap.size w w1 := (hnx.alloc hnx.size _).grown hgrow1 (by have := hnx.size; simp; omega) (fun q hq => by have := hnx.size; simp [Value.ownBlock] at hq; omega)
        try simp only [Nat.zero_add, List.nil_append] at hown1
        clear hgrow1 hnx
        go_wp2
        go_ret
        rw [HF.out]
        exact ⟨A1, c1, by rw [HT.out]; rfl, hb1, by rw [HT.out]; simpa using hown1⟩
      · have HT : Hid ((jst xs ys k).take 8 = jst xs ys k) := List.take_of_length_le (by omega)
        go_wp2_with (at_builtin; refine wpList_append_raw _ rfl (.tmp 27) (.tmp 28) 22 rfl w.heap.size 35 i0 (.int .u32 0) 1 4 Try.underlying22 hi0 hz0 hz1 hz2 rfl (by decide) _ _ _ rfl (own_empty wr w.heap.size _ 1 hnx.size) _ _ _ (jst xs ys k).length _ _ rfl (hI.alloc (Nat.le_refl _) _).raw ?k1 ?k2 ?k3 ?k4 ?_)
        case k1 => exact ints_oneCell _ _
        case k2 => unfold maxLen; omega
        case k3 => omega
        case k4 => have := hnx.size; simp; omega
        intro A1 c1 w1 hown1 hgrow1 _
        have hb1 : Below w.heap.size w w1 := (hnx.alloc hnx.size _).grown hgrow1 (by have := hnx.size; simp; omega) (fun q hq => by have := hnx.size; simp [Value.ownBlock] at hq; omega)
        try simp only [Nat.zero_add, List.nil_append] at hown1
        clear hgrow1 hnx
        go_wp2
        go_ret
        rw [HF.out, HT.out]
        exact ⟨A1, c1, rfl, hb1, hown1⟩
end Least
end Go.Proofs.Ytpmhnheimaimmaa
