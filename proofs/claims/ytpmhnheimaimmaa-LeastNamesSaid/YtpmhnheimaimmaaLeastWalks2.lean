/- More of what the functions of package least, and of its references, do: each by a walk. -/
import Derived.Test.YtpmhnheimaimmaaLeastWalks
namespace Go.Proofs.Ytpmhnheimaimmaa
open Go.RowKit
namespace Least

theorem ext_getD {xs ys : List Int} (h : xs.length = ys.length) (h2 : ∀ j, j < xs.length → xs[j]?.getD 0 = ys[j]?.getD 0) : xs = ys := by
  refine List.ext_getElem h fun j h1 h3 => ?_
  have := h2 j h1
  simpa [List.getElem?_eq_getElem h1, List.getElem?_eq_getElem h3] using this

set_option maxHeartbeats 400000 in
/-- headcountref10.SameTags. -/
theorem SameTags_any (w : World) (lo hi lo' hi' : Nat) (A : Option Addr) (n c : Nat) (xs : List Int) (h : Ints w lo hi .u32 A n xs) (B : Option Addr) (m d : Nat) (ys : List Int) (h2 : Ints w lo' hi' .u32 B m ys) (r : Bool) (hr : decide (xs = ys) = r) :
    Calls Try.prog 13 #[.slice A n c, .slice B m d] w fun e w' => e = .returned (.bool r) ∧ ∃ m, w' = w.drewN m := by
  have Hl := Lib.hid h.len
  have Hl2 := Lib.hid h2.len
  have hbig := h.big
  have hbig2 := h2.big
  have Hr := Lib.hid hr
  clear hr
  by_cases hnm : n = m
  · subst hnm
    go_enter Try.func13, Try.ntmps13
    go_wp2
    go_loopw [5] (fun i wr => ∃ k : Nat, i = .int .i64 k ∧ k ≤ n ∧ Hid (∀ j, j < k → xs[j]?.getD 0 = ys[j]?.getD 0) ∧ ∃ m, wr = w.drewN m) (fun i _ => n - (intOf i).toNat)
    case atStart => exact ⟨0, rfl, by omega, fun j hj => absurd hj (by omega), 0, rfl⟩
    case round =>
      obtain ⟨k, rfl, hk, he, q, rfl⟩ := hrel
      by_cases hlt : k < n
      · obtain ⟨b, off, rfl, hcell⟩ := below_get h (by omega)
        obtain ⟨b2, off2, rfl, hcell2⟩ := below_get h2 (by omega)
        have g1 : w.cell? ⟨b, off + k, none⟩ = some (.int .u32 (xs[k]?.getD 0)) := hcell _ (by omega)
        have g2 : w.cell? ⟨b2, off2 + k, none⟩ = some (.int .u32 (ys[k]?.getD 0)) := hcell2 _ (by omega)
        clear hcell hcell2
        by_cases hx : xs[k]?.getD 0 = ys[k]?.getD 0
        · have hb : (xs[k]?.getD 0 != ys[k]?.getD 0) = false := by simp [hx]
          have HX := Lib.hid hx
          clear hx
          go_wp2
          go_quiet (fail)
          go_wp2
          go_roundw
          case rel =>
            refine ⟨k + 1, by go_num, by omega, fun j hj => ?_, q + nq, by simp⟩
            by_cases e : j = k
            · subst e; exact HX.out
            · exact he.out j (by omega)
          case measure => simp [intOf]; omega
        · have hb : (xs[k]?.getD 0 != ys[k]?.getD 0) = true := by simp [hx]
          have hf : r = false := by
            rw [← Hr.out]; refine decide_eq_false fun e => hx (by rw [e])
          clear hx
          go_wp2
          go_quiet (fail)
          go_wp2
          go_ret
          exact ⟨ret_bool (by rw [hf]), q + nq, by simp⟩
      · have Hf : Hid (r = true) := by
          rw [Hid, ← Hr.out]
          have hl := Hl.out
          have hl2 := Hl2.out
          exact decide_eq_true (ext_getD (by omega) fun j hj => he.out j (by omega))
        go_wp2
        go_ret
        exact ⟨ret_bool (by rw [Hf.out]), q, rfl⟩
  · have Hf : Hid (r = false) := by
      rw [Hid, ← Hr.out]
      have hl := Hl.out
      have hl2 := Hl2.out
      refine decide_eq_false fun e => hnm ?_
      rw [e] at hl; omega
    go_enter Try.func13, Try.ntmps13
    go_wp2
    go_ret
    exact ⟨ret_bool (by rw [Hf.out]), 0, rfl⟩

theorem Try.info35 : (Try.prog.info? 35).map (fun i => (i.zero, i.size, i.bytes)) = some (some (.int .u32 0), 1, 4) := by kernel_rfl

set_option maxHeartbeats 800000 in
/-- headcountref18.With. -/
theorem With_any (w : World) (lo hi : Nat) (A : Option Addr) (n c : Nat) (xs : List Int) (h : Ints w lo hi .u32 A n xs) (hn : n ≤ 1000000) (hhi : hi ≤ w.heap.size) (t : Int) :
    Calls Try.prog 39 #[.slice A n c, .int .u32 t] w fun e w' => ∃ A' c', e = .returned (.slice A' (withS xs t).length c') ∧ Below w.heap.size w w' ∧
      w'.ownsRow w.heap.size 35 1 (.slice A' (withS xs t).length c') (withS xs t).length ((withS xs t).map (Value.int .u32)) := by
  have Hl := Lib.hid h.len
  obtain ⟨i0, hi0, hz0, hz1, hz2⟩ := info_parts Try.info35
  go_enter Try.func39, Try.ntmps39
  go_wp2
  go_loopw [5, 6, 7] (fun v p i wr => ∃ k : Nat, i = .int .i64 k ∧ k ≤ n ∧ (∃ b, p = .bool b ∧ Hid (wst xs t k = b)) ∧ (∃ A' c', v = .slice A' (wout xs t k).length c') ∧
      wr.ownsRow w.heap.size 35 1 v (wout xs t k).length ((wout xs t k).map (Value.int .u32)) ∧ Below w.heap.size w wr) (fun _ _ i _ => n - (intOf i).toNat)
  case atStart => exact ⟨0, rfl, by omega, ⟨false, rfl, by simp [Hid, wst]⟩, ⟨none, 0, by simp [wout, wst]⟩, by simpa [wout, wst] using World.ownsRow_nil _ _ _ _, Below.refl _ _⟩
  case round =>
    obtain ⟨k, rfl, hk, ⟨b, rfl, hw⟩, ⟨A', c', rfl⟩, hown, hnx⟩ := hrel
    by_cases hlt : k < n
    · obtain ⟨bb, off, rfl, hcell⟩ := below_get (h.below hnx hhi) (by omega)
      have g1 : wr.cell? ⟨bb, off + k, none⟩ = some (.int .u32 (xs[k]?.getD 0)) := hcell _ (by omega)
      have hcells : ∀ w0, Below w.heap.size w w0 → w0.cell? ⟨bb, off + k, none⟩ = some (.int .u32 (xs[k]?.getD 0)) := fun w0 hb => by
        obtain ⟨b', off', e, hc'⟩ := below_get (h.below hb hhi) (by omega)
        injection e with e; injection e with e1 e2; subst e1 e2
        exact hc' k hlt
      clear hcell
      have hwl := wout_len xs t k (by rw [Hl.out]; omega)
      cases b with
      | true =>
        clear hcells
        have HP := Lib.hid (wout_put xs t k (by rw [Hl.out]; omega) hw.out)
        go_wp2_with (at_builtin; refine wpList_append_raw _ rfl (.tmp 34) (.tmp 39) 22 rfl w.heap.size 35 i0 (.int .u32 0) 1 4 Try.underlying22 hi0 hz0 hz1 hz2 rfl (by decide) _ _ _ rfl (hown.alloc _) _ _ _ 1 1 [.int .u32 (xs[k]?.getD 0)] rfl (raw_one _ _ _ _) ?c1 ?c2 ?c3 ?c4 ?_)
        case c1 => first | rfl | (intro u hu; simp at hu; subst hu; rfl)
        case c2 => unfold maxLen; omega
        case c3 => omega
        case c4 => have := hnx.size; simp; omega
        intro A1 c1 w1 hown1 hgrow1 _
        have hb1 : Below w.heap.size w w1 := (hnx.alloc hnx.size _).grown hgrow1 (by have := hnx.size; simp; omega) (fun q hq => (hown.lt q hq).1)
        clear hown hgrow1 hnx
        go_wp2
        go_roundw
        case rel =>
          have HPo := HP.out
          refine ⟨k + 1, by go_num, by omega, ⟨true, rfl, HPo.1⟩, ⟨A1, c1, ?_⟩, ?_, hb1⟩
          · rw [HPo.2]; simp
          · rw [HPo.2]; simpa using hown1
        case measure => simp [intOf]; omega
      | false =>
        by_cases hx : t ≤ xs[k]?.getD 0
        · by_cases hx2 : t < xs[k]?.getD 0
          · have HP := Lib.hid (wout_new xs t k (by rw [Hl.out]; omega) hw.out hx2)
            have hcell0 : ∀ w0, Below w.heap.size w w0 → w0.cell? ⟨bb, off + k, none⟩ = some (.int .u32 (xs[k]?.getD 0)) := fun w0 hb => hcells w0 hb
            clear hcells
            go_wp2_with (first | (at_builtin; refine wpList_append_raw _ rfl (.tmp 30) (.tmp 32) 22 rfl w.heap.size 35 i0 (.int .u32 0) 1 4 Try.underlying22 hi0 hz0 hz1 hz2 rfl (by decide) _ _ _ rfl (hown.alloc _) _ _ _ 1 1 [.int .u32 t] rfl (raw_one _ _ _ _) ?d1 ?d2 ?d3 ?d4 ?_))
            case d1 => first | rfl | (intro u hu; simp at hu; subst hu; rfl)
            case d2 => unfold maxLen; omega
            case d3 => omega
            case d4 => have := hnx.size; simp; omega
            intro A0 c0 w0 hown0 hgrow0 _
            have hnx0 : Below w.heap.size w w0 := (hnx.alloc hnx.size _).grown hgrow0 (by have := hnx.size; simp; omega) (fun q hq => (hown.lt q hq).1)
            have hg := hcell0 w0 hnx0
            clear hown hgrow0 hnx g1 hcell0
            go_wp2_with (at_builtin; refine wpList_append_raw _ rfl (.tmp 34) (.tmp 39) 22 rfl w.heap.size 35 i0 (.int .u32 0) 1 4 Try.underlying22 hi0 hz0 hz1 hz2 rfl (by decide) _ _ _ rfl (hown0.alloc _) _ _ _ 1 1 [.int .u32 (xs[k]?.getD 0)] rfl (raw_one _ _ _ _) ?e1 ?e2 ?e3 ?e4 ?_)
            case e1 => first | rfl | (intro u hu; simp at hu; subst hu; rfl)
            case e2 => unfold maxLen; omega
            case e3 => omega
            case e4 => have := hnx0.size; simp; omega
            intro A1 c1 w1 hown1 hgrow1 _
            have hb1 : Below w.heap.size w w1 := (hnx0.alloc hnx0.size _).grown hgrow1 (by have := hnx0.size; simp; omega) (fun q hq => (hown0.lt q hq).1)
            clear hown0 hgrow1 hnx0
            go_wp2
            go_roundw
            case rel =>
              have HPo := HP.out
              refine ⟨k + 1, by go_num, by omega, ⟨true, rfl, HPo.1⟩, ⟨A1, c1, ?_⟩, ?_, hb1⟩
              · rw [HPo.2]; simp
              · rw [HPo.2]; simpa using hown1
            case measure => simp [intOf]; omega
          · have HP := Lib.hid (wout_same xs t k (by rw [Hl.out]; omega) hw.out hx hx2)
            clear hcells
            go_wp2_with (at_builtin; refine wpList_append_raw _ rfl (.tmp 34) (.tmp 39) 22 rfl w.heap.size 35 i0 (.int .u32 0) 1 4 Try.underlying22 hi0 hz0 hz1 hz2 rfl (by decide) _ _ _ rfl (hown.alloc _) _ _ _ 1 1 [.int .u32 (xs[k]?.getD 0)] rfl (raw_one _ _ _ _) ?c1f ?c2f ?c3f ?c4f ?_)
            case c1f => first | rfl | (intro u hu; simp at hu; subst hu; rfl)
            case c2f => unfold maxLen; omega
            case c3f => omega
            case c4f => have := hnx.size; simp; omega
            intro A1 c1 w1 hown1 hgrow1 _
            have hb1 : Below w.heap.size w w1 := (hnx.alloc hnx.size _).grown hgrow1 (by have := hnx.size; simp; omega) (fun q hq => (hown.lt q hq).1)
            clear hown hgrow1 hnx
            go_wp2
            go_roundw
            case rel =>
              have HPo := HP.out
              refine ⟨k + 1, by go_num, by omega, ⟨true, rfl, HPo.1⟩, ⟨A1, c1, ?_⟩, ?_, hb1⟩
              · rw [HPo.2]; simp
              · rw [HPo.2]; simpa using hown1
            case measure => simp [intOf]; omega
        · have HP := Lib.hid (wout_on xs t k (by rw [Hl.out]; omega) hw.out hx)
          clear hcells
          go_wp2_with (at_builtin; refine wpList_append_raw _ rfl (.tmp 34) (.tmp 39) 22 rfl w.heap.size 35 i0 (.int .u32 0) 1 4 Try.underlying22 hi0 hz0 hz1 hz2 rfl (by decide) _ _ _ rfl (hown.alloc _) _ _ _ 1 1 [.int .u32 (xs[k]?.getD 0)] rfl (raw_one _ _ _ _) ?c1g ?c2g ?c3g ?c4g ?_)
          case c1g => first | rfl | (intro u hu; simp at hu; subst hu; rfl)
          case c2g => unfold maxLen; omega
          case c3g => omega
          case c4g => have := hnx.size; simp; omega
          intro A1 c1 w1 hown1 hgrow1 _
          have hb1 : Below w.heap.size w w1 := (hnx.alloc hnx.size _).grown hgrow1 (by have := hnx.size; simp; omega) (fun q hq => (hown.lt q hq).1)
          clear hown hgrow1 hnx
          go_wp2
          go_roundw
          case rel =>
            have HPo := HP.out
            refine ⟨k + 1, by go_num, by omega, ⟨false, rfl, HPo.1⟩, ⟨A1, c1, ?_⟩, ?_, hb1⟩
            · rw [HPo.2]; simp
            · rw [HPo.2]; simpa using hown1
          case measure => simp [intOf]; omega
    · have hwl := wout_len xs t k (by rw [Hl.out]; omega)
      cases b with
      | true =>
        have hf : wout xs t k = withS xs t := by
          have hl := Hl.out
          have hw := hw.out
          obtain rfl : k = xs.length := by omega
          exact wout_end xs t hw
        rw [hf] at hown ⊢
        clear hf hwl
        go_wp2
        go_ret
        exact ⟨A', c', rfl, hnx, hown⟩
      | false =>
        have hf : wout xs t k ++ [t] = withS xs t := by
          have hl := Hl.out
          have hw := hw.out
          obtain rfl : k = xs.length := by omega
          exact wout_end' xs t hw
        have hf2 : (wout xs t k).length + 1 = (withS xs t).length := by rw [← hf]; simp
        have HF := Lib.hid hf
        have HF2 := Lib.hid hf2
        clear hf hf2
        go_wp2_with (at_builtin; refine wpList_append_raw _ rfl (.tmp 43) (.tmp 45) 22 rfl w.heap.size 35 i0 (.int .u32 0) 1 4 Try.underlying22 hi0 hz0 hz1 hz2 rfl (by decide) _ _ _ rfl (hown.alloc _) _ _ _ 1 1 [.int .u32 t] rfl (raw_one _ _ _ _) ?h1 ?h2 ?h3 ?h4 ?_)
        case h1 => first | rfl | (intro u hu; simp at hu; subst hu; rfl)
        case h2 => unfold maxLen; omega
        case h3 => omega
        case h4 => have := hnx.size; simp; omega
        intro A1 c1 w1 hown1 hgrow1 _
        have hb1 : Below w.heap.size w w1 := (hnx.alloc hnx.size _).grown hgrow1 (by have := hnx.size; simp; omega) (fun q hq => (hown.lt q hq).1)
        clear hown hgrow1 hnx
        go_wp2
        go_ret
        refine ⟨A1, c1, ?_, hb1, ?_⟩
        · rw [← HF2.out]; rfl
        · rw [HF2.out] at hown1
          rw [← HF.out, List.map_append, HF.out]
          exact hown1
end Least
end Go.Proofs.Ytpmhnheimaimmaa
