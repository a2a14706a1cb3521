/- The reference's caches: others, new ones, whether one may be, copies, whether two are the same: walks. -/
import Derived.Test.YtpjomdkcckamkaaChNames
namespace Go.Proofs.Ytpjomdkcckamkaa
open Go.RowKit Go.Sort Go.Shelf
namespace De
theorem others_snoc (own : Int) (l : List D) (x : D) : others own (l ++ [x]) = others own l ++ (if x.1 = own then [] else [x]) := by
  unfold others
  rw [List.filter_append]
  by_cases h : x.1 = own
  · simp [h]
  · simp [h]

set_option maxHeartbeats 1600000 in
/-- headcountref08.Others. -/
theorem OthersR_any (w : World) (lo hi : Nat) (A : Option Addr) (n c : Nat) (xs : List (Int × Int)) (hX : Descs w lo hi A n xs) (hhi : hi ≤ w.heap.size) (own : Int) (hn : n ≤ 1000000) :
    Calls Try.prog 83 #[.slice A n c, .int .i64 own] w fun e w' => ∃ A' n' c', e = .returned (.slice A' n' c') ∧ n' ≤ c' ∧ n' ≤ n ∧ Below w.heap.size w w' ∧ Descs w' w.heap.size w'.heap.size A' n' (others own xs) := by
  have hlen := Lib.hid hX.len
  have hwf := Lib.hid hX.wf
  obtain ⟨i0, hi0, hz0, hz1, hz2⟩ := info_parts Try.info29
  go_enter Try.func83, Try.ntmps83
  go_wp2
  go_loopw [5, 6] (fun ov iv wr => ∃ k m : Nat, iv = .int .i64 k ∧ k ≤ n ∧ m ≤ k ∧ wr.ownsRow w.heap.size 29 2 ov m (flatD (others own (xs.take k))) ∧ Below w.heap.size w wr) (fun _ iv _ => n - (intOf iv).toNat)
  case atStart => exact ⟨0, 0, rfl, Nat.zero_le _, Nat.le_refl _, World.ownsRow_nil .., Below.refl _ _⟩
  case round =>
    obtain ⟨k, m, rfl, hk, hmk, hown, hb⟩ := hrel
    obtain ⟨Ao, co, rfl, hoc, _⟩ := own_shape hown
    by_cases hlt : k < n
    · obtain ⟨b, off, rfl, h1, h2, hcell⟩ := (hX.below hb hhi).row (by omega)
      obtain ⟨⟨g1, _⟩, g3, _⟩ := hcell k hlt
      have hts : Hid (xs.take (k + 1) = xs.take k ++ [xs[k]?.getD (0, 0)]) := by
        rw [Hid, List.take_succ_eq_append_getElem (by rw [hlen.out]; exact hlt), List.getElem?_eq_getElem (by rw [hlen.out]; exact hlt)]
        rfl
      generalize xs[k]?.getD (0, 0) = x at g1 g3 hts
      have hos := Lib.hid (others_snoc own (xs.take k) x)
      rw [← hts.out] at hos
      obtain ⟨x1, x2⟩ := x
      simp only at g1 g3
      have hsb := hb.size
      clear hcell
      by_cases he : x1 = own
      · subst he
        have hne : (x1 != x1) = false := by simp
        have ho2 : Hid (others x1 (xs.take (k + 1)) = others x1 (xs.take k)) := by
          have := hos.out
          rw [if_pos rfl, List.append_nil] at this
          exact this
        go_wp2
        go_roundw
        case rel => exact ⟨k + 1, m, by go_num, by omega, by omega, by rw [ho2.out]; exact hown, hb⟩
        case measure => simp [intOf]; omega
      · have hne : (x1 != own) = true := by simpa using he
        have ho2 : Hid (flatD (others own (xs.take (k + 1))) = flatD (others own (xs.take k)) ++ flatD [(x1, x2)]) := by
          have := hos.out
          rw [if_neg he] at this
          rw [Hid, this, flatD_append]
        go_wp2_with (first
          | (at_builtin; refine wpList_append_raw _ rfl (.tmp 20) (.tmp 25) 22 rfl w.heap.size 29 i0 _ 2 16 Try.underlying22 hi0 hz0 hz1 hz2 rfl (by decide) _ _ _ rfl (hown.alloc _) _ _ _ 1 1 (flatD [(x1, x2)]) rfl (raw_oneDg _ _ (x1, x2) 29 (heap_newg _ _ _ rfl)) (flatD_one _) (by unfold maxLen; omega) (by omega) (by simp; omega) ?_))
        intro A3 c3 w3 hown3 hg3 _
        rw [← ho2.out] at hown3
        have hb3 := (hb.alloc hsb (.cells #[.int .i64 x1, .int .i64 x2] 29)).grown hg3 (by simp; omega) (fun q hq => (hown.lt q hq).1)
        clear hown
        go_wp2
        go_roundw
        case rel => exact ⟨k + 1, m + 1, by go_num, by omega, by omega, hown3, hb3⟩
        case measure => simp [intOf]; omega
    · obtain rfl : k = n := by omega
      have he : Hid (xs.take k = xs) := List.take_of_length_le (by rw [hlen.out]; exact Nat.le_refl _)
      rw [he.out] at hown
      have hD := Descs.of_own hown (fun x hx => hwf.out x (others_mem.1 hx).1) (by omega)
      clear hown
      go_wp2
      go_ret
      exact ⟨Ao, m, co, rfl, hoc, hmk, hb, hD⟩

set_option maxHeartbeats 800000 in
/-- headcountref08.New. -/
theorem NewR_any (w : World) (own cap : Int) (x y r : Int) (hr : newR own cap = ((x, y), r)) :
    Calls Try.prog 40 #[.int .i64 own, .int .i64 cap] w fun e w' => e = .returned (.tuple #[.agg #[.int .i64 x, .int .i64 y, .slice none 0 0], .int .i64 r]) ∧ Gr w w' := by
  have HR := Lib.hid hr
  clear hr
  have bad : newOk own cap = false → x = 0 ∧ y = 0 ∧ r = 2 := fun h => by
    have e : ((x, y), r) = (((0 : Int), (0 : Int)), (2 : Int)) := by rw [← HR.out, newR, if_neg (by simp [h])]
    obtain ⟨e1, e2⟩ := Prod.mk.inj e
    obtain ⟨e3, e4⟩ := Prod.mk.inj e1
    exact ⟨e3, e4, e2⟩
  have hbad := Lib.hid bad
  clear bad
  by_cases h1 : 0 ≤ own
  · by_cases h2 : own < 8
    · by_cases h3 : 1 ≤ cap
      · by_cases h4 : cap ≤ 6
        · have e : ((x, y), r) = ((own, cap), (0 : Int)) := by rw [← HR.out, newR, if_pos ((newOk_iff own cap).2 ⟨h1, h2, h3, h4⟩)]
          obtain ⟨e1, rfl⟩ := Prod.mk.inj e
          obtain ⟨rfl, rfl⟩ := Prod.mk.inj e1
          clear e e1 HR hbad
          go_enter Try.func40, Try.ntmps40
          go_wp2
          exact bodyPost_ret (v := .tuple #[.agg #[.int .i64 x, .int .i64 y, .slice none 0 0], .int .i64 0]) (by simp [results, Try.results40, go_sem]) rfl ⟨rfl, Gr.alloc (Gr.refl _) _⟩
        · obtain ⟨rfl, rfl, rfl⟩ := hbad.out (Bool.eq_false_iff.2 fun h => by have := (newOk_iff own cap).1 h; omega)
          go_enter Try.func40, Try.ntmps40
          go_wp2
          exact bodyPost_ret (v := .tuple #[.agg #[.int .i64 0, .int .i64 0, .slice none 0 0], .int .i64 2]) (by simp [results, Try.results40, go_sem]) rfl ⟨rfl, Gr.alloc (Gr.refl _) _⟩
      · obtain ⟨rfl, rfl, rfl⟩ := hbad.out (Bool.eq_false_iff.2 fun h => by have := (newOk_iff own cap).1 h; omega)
        go_enter Try.func40, Try.ntmps40
        go_wp2
        exact bodyPost_ret (v := .tuple #[.agg #[.int .i64 0, .int .i64 0, .slice none 0 0], .int .i64 2]) (by simp [results, Try.results40, go_sem]) rfl ⟨rfl, Gr.alloc (Gr.refl _) _⟩
    · obtain ⟨rfl, rfl, rfl⟩ := hbad.out (Bool.eq_false_iff.2 fun h => by have := (newOk_iff own cap).1 h; omega)
      go_enter Try.func40, Try.ntmps40
      go_wp2
      exact bodyPost_ret (v := .tuple #[.agg #[.int .i64 0, .int .i64 0, .slice none 0 0], .int .i64 2]) (by simp [results, Try.results40, go_sem]) rfl ⟨rfl, Gr.alloc (Gr.refl _) _⟩
  · obtain ⟨rfl, rfl, rfl⟩ := hbad.out (Bool.eq_false_iff.2 fun h => by have := (newOk_iff own cap).1 h; omega)
    go_enter Try.func40, Try.ntmps40
    go_wp2
    exact bodyPost_ret (v := .tuple #[.agg #[.int .i64 0, .int .i64 0, .slice none 0 0], .int .i64 2]) (by simp [results, Try.results40, go_sem]) rfl ⟨rfl, Gr.alloc (Gr.refl _) _⟩
end De
end Go.Proofs.Ytpjomdkcckamkaa
