/- ChooseRound: the walk. -/
import Derived.Test.YtpjomdkcckamkaaChLaw1
import Derived.Test.YtpjomdkcckamkaaDeBest
namespace Go.Proofs.Ytpjomdkcckamkaa
open Go.RowKit Go.Sort Go.Shelf
namespace De
theorem rowL_sub {l : List D} {d : Int} {k : Nat} (hk : k ≤ l.length) : ∀ x ∈ rowL l d k, x ∈ l := fun x hx => by
  obtain ⟨i, hi, rfl⟩ := List.mem_map.1 hx
  have hp : 0 < l.length := by have := List.mem_range.1 hi; omega
  rw [List.getElem?_eq_getElem (pick_lt hp _)]
  exact List.getElem_mem _
theorem rowL_len (l : List D) (d : Int) (k : Nat) : (rowL l d k).length = k := by simp [rowL]
theorem rowL_check {own cap : Int} {l : List D} (h : MayC own cap l) (d : Int) : check (rowL l d l.length) = 0 :=
  check_ok (by have := (may_six h).1; rw [rowL_len]; omega) (all_may_of (check_zero h.chk).2 fun x hx => rowL_sub (Nat.le_refl _) x hx)

set_option maxHeartbeats 3200000 in
set_option maxRecDepth 100000 in
/-- ChooseRound behind the choice of the first draw. -/
theorem chooseRound_any (w : World) (ow ca : Int) (A0 : Option Addr) (n0 c0 : Nat) (xs : List (Int × Int)) (hX : Descs w 0 w.heap.size A0 n0 xs) (hc0 : n0 ≤ c0) (d0 : Int) (hd0 : 0 ≤ d0) (_ : d0 ≤ IntKind.u64.max) :
    Calls Try.prog 15 #[.agg #[.int .i64 ow, .int .i64 ca, .slice A0 n0 c0], .int .u64 d0] w fun e w' => e = .returned (.bool true) ∧ Below w.heap.size w w' := by
  have hLX := Lib.hid hX.len
  have hbx := hX.big
  obtain ⟨u, hu⟩ : ∃ u : World, w.alloc (.cells #[.int .i64 ow, .int .i64 ca, .slice A0 n0 c0] 43) = u := ⟨_, rfl⟩
  have hbu : Below w.heap.size w u := by rw [← hu]; exact (Below.refl _ w).alloc (Nat.le_refl _) _
  have hsu : w.heap.size + 1 ≤ u.heap.size := by rw [← hu]; simp
  have hC : u.heap[w.heap.size]? = some (.cells #[.int .i64 ow, .int .i64 ca, .slice A0 n0 c0] 43 (0, 0)) := by rw [← hu]; exact heap_newg _ _ _ rfl
  have hal := aliveH_p u
  have hHU := Lib.hid hu
  clear hu
  obtain ⟨i0, hi0, hz0, hz1, hz2⟩ := info_parts Try.info29
  go_enter Try.func15, Try.ntmps15
  go_wp2_with fail
  rw [hHU.out]
  refine hal.mono ?_
  rintro e w1 ⟨rfl, hb, hp1⟩
  have hs1 := hb.size
  have C := Below.heapOf hb (by omega) hC
  have hc := hbu.trans (hb.mono (by omega))
  have X := hX.below hc (Nat.le_refl _)
  clear hb hX hC hbu hal hHU
  obtain ⟨⟨k1, k2, k3⟩, _⟩ := cells3 C
  by_cases hn : n0 ≤ 6
  · have hn' : decide ((6 : Int) < n0) = false := by simp; omega
    by_cases hbig : 18446744073709551609 < d0
    · have hbig' : decide ((18446744073709551609 : Int) < d0) = true := by simpa using hbig
      go_wp2_with fail
      go_loopw [7, 8] (fun lv iv wr => ∃ k : Nat, iv = .int .i64 k ∧ k ≤ n0 ∧ wr.ownsRow w1.heap.size 29 2 lv k (flatD (rowL xs 0 k)) ∧ Hid (0 < k → mayC ow ca xs = true) ∧ Below w1.heap.size w1 wr) (fun _ iv _ => n0 - (intOf iv).toNat)
      case atStart => exact ⟨0, rfl, Nat.zero_le _, World.ownsRow_nil .., (fun h => absurd h (by omega)), Below.refl _ _⟩
      case round =>
        obtain ⟨k, rfl, hk, hown, hmk, hbr⟩ := hrel
        obtain ⟨Ao, co, rfl, hoc, _⟩ := own_shape hown
        have hsr := hbr.size
        have C' := Below.heapOf hbr (by omega) C
        have X' := X.below hbr (by omega)
        have hcr := hc.trans (hbr.mono (by omega))
        clear k1 k2 k3
        obtain ⟨⟨k1, k2, k3⟩, _⟩ := cells3 C'
        by_cases hlt : k < n0
        · have hdk0 : (0 : Int) ≤ (k : Int) := by omega
          have hdk1 : (k : Int) ≤ IntKind.u64.max := by
            have : IntKind.u64.max = 18446744073709551615 := by decide +kernel
            rw [this]
            omega
          have hne : xs ≠ [] := fun e => by
            have := hLX.out
            rw [e] at this
            simp at this
            omega
          obtain ⟨x, hx⟩ : ∃ x, xs[pick xs.length ((k : Int))]?.getD (0, 0) = x := ⟨_, rfl⟩
          have HX := Lib.hid hx
          clear hx
          by_cases hm : mayC ow ca xs = true
          · have hone : Hid (oneR ow ca xs ((k : Int)) = ((x.1, x.2), 0)) := by rw [Hid, oneR, if_pos hm, if_neg hne, HX.out]
            have HM := Lib.hid hm
            have hxr : Hid (Rng x) := by
              rw [Hid, ← HX.out]
              exact X'.at_ _
            have hsn : Hid (flatD (rowL xs 0 (k + 1)) = flatD (rowL xs 0 k) ++ flatD [x]) := by rw [Hid, rowL_snoc, flatD_append, Int.zero_add, HX.out]
            clear hm
            go_wp2_with fail
            refine (One_any _ ow ca A0 n0 c0 xs (X'.more (Nat.le_refl _) (by omega)) hc0 ((k : Int)) hdk0 hdk1 x.1 x.2 0 hone.out).mono ?_
            rintro e w2 ⟨rfl, hb2, hp2⟩
            have hs2 := hb2.size
            have hown2 := own_belowB hown hb2 (Nat.le_refl _)
            have hbr2 := hbr.trans (hb2.mono (by omega))
            clear hown hb2
            go_wp2_with (first
              | (at_builtin; refine wpList_append_raw _ rfl (.tmp 54) (.tmp 56) 22 rfl w1.heap.size 29 i0 _ 2 16 Try.underlying22 hi0 hz0 hz1 hz2 rfl (by decide) _ _ _ rfl ((hown2.alloc _).alloc _) _ _ _ 1 1 (flatD [x]) rfl (raw_oneDg _ _ x 29 (heap_newg _ _ _ (by simp))) (flatD_one _) (by unfold maxLen; omega) (by omega) (by simp; omega) ?_))
            intro A3 c3 w3 hown3 hg3 _
            rw [← hsn.out] at hown3
            have hbr3 := ((hbr2.alloc (by omega) (.cells #[.int .i64 x.1, .int .i64 x.2] 29)).alloc (by simp; omega) (.cells #[.int .i64 x.1, .int .i64 x.2] 29)).grown hg3 (by simp; omega) (fun q hq => (hown2.lt q hq).1)
            go_wp2
            go_roundw
            case rel => exact ⟨k + 1, by go_num, by omega, hown3, fun _ => HM.out, hbr3⟩
            case measure => simp [intOf]; omega
          · have hone : Hid (oneR ow ca xs ((k : Int)) = ((0, 0), 8)) := by rw [Hid, oneR, if_neg hm]
            have hql := fun W => eqlD W 0 0 0 0
            rw [show ((0 : Int) == 0 && (0 : Int) == 0) = true from rfl] at hql
            have hgd := guardD
            clear hm
            go_wp2_with fail
            refine (One_any _ ow ca A0 n0 c0 xs (X'.more (Nat.le_refl _) (by omega)) hc0 ((k : Int)) hdk0 hdk1 0 0 8 hone.out).mono ?_
            rintro e w2 ⟨rfl, hb2, hp2⟩
            have hs2 := hb2.size
            have hc2 := hcr.trans (hb2.mono (by omega))
            clear hb2
            go_wp2
            go_ret
            exact ⟨rfl, hc2.alloc (by omega) _⟩
        · obtain rfl : k = n0 := by omega
          have hwfr : Hid (∀ x ∈ rowL xs 0 k, Rng x) := fun x hx => X'.wf x (rowL_sub (by rw [hLX.out]; exact Nat.le_refl _) x hx)
          have hL := Descs.of_own hown hwfr.out (by omega)
          clear hown
          by_cases h0 : k = 0
          · subst h0
            have hck : Hid (check (rowL xs 0 0) = 0) := by rw [Hid]; rfl
            go_wp2_with fail
            refine (Best_any _ _ _ Ao 0 co _ hL (Nat.le_refl _) (by omega) 0 hck.out).mono ?_
            rintro e w2 ⟨A3, n3, c3, r3, rfl, hc3, hb2, hr3, hr3', hD3⟩
            have hs2 := hb2.size
            have hc2 := hcr.trans (hb2.mono (by omega))
            clear hb2
            go_wp2
            go_ret
            exact ⟨rfl, hc2⟩
          · have hk0 : ((k : Int) == 0) = false := by simp; omega
            have hM := (mayC_iff _ _ _).1 (hmk.out (by omega))
            have hck : Hid (check (rowL xs 0 k) = 0) := by
              have := rowL_check hM 0
              rwa [hLX.out] at this
            have hbs : Hid (resB (rowL xs 0 k) = xs) := by
              have := rowL_best hM 0
              rw [hLX.out] at this
              rw [Hid, resB, if_pos hck.out, this]
            clear hM
            go_wp2_with fail
            refine (Best_any _ _ _ Ao k co _ hL (Nat.le_refl _) (by omega) 0 hck.out).mono ?_
            rintro e w2 ⟨A3, n3, c3, r3, rfl, hc3, hb2, hr3, hr3', hD3⟩
            have hs2 := hb2.size
            rw [hbs.out] at hD3
            have C2 := Below.heapOf hb2 (by omega) C'
            have X2 := X'.below hb2 (by omega)
            have hc2 := hcr.trans (hb2.mono (by omega))
            clear hb2 k1 k2 k3
            obtain ⟨⟨k1, k2, k3⟩, _⟩ := cells3 C2
            go_wp2_with fail
            refine (Same_b _ _ _ _ _ A3 A0 n3 c3 k c0 xs xs hD3 X2 true (Sm_refl xs)).mono ?_
            rintro e w3 ⟨rfl, hb3⟩
            have hc3' := hc2.trans (hb3.mono (by omega))
            clear hb3
            go_wp2
            go_ret
            exact ⟨rfl, hc3'⟩
    · have hbig' : decide ((18446744073709551609 : Int) < d0) = false := by simpa using hbig
      go_wp2_with fail
      go_loopw [7, 8] (fun lv iv wr => ∃ k : Nat, iv = .int .i64 k ∧ k ≤ n0 ∧ wr.ownsRow w1.heap.size 29 2 lv k (flatD (rowL xs d0 k)) ∧ Hid (0 < k → mayC ow ca xs = true) ∧ Below w1.heap.size w1 wr) (fun _ iv _ => n0 - (intOf iv).toNat)
      case atStart => exact ⟨0, rfl, Nat.zero_le _, World.ownsRow_nil .., (fun h => absurd h (by omega)), Below.refl _ _⟩
      case round =>
        obtain ⟨k, rfl, hk, hown, hmk, hbr⟩ := hrel
        obtain ⟨Ao, co, rfl, hoc, _⟩ := own_shape hown
        have hsr := hbr.size
        have C' := Below.heapOf hbr (by omega) C
        have X' := X.below hbr (by omega)
        have hcr := hc.trans (hbr.mono (by omega))
        clear k1 k2 k3
        obtain ⟨⟨k1, k2, k3⟩, _⟩ := cells3 C'
        by_cases hlt : k < n0
        · have hdk0 : 0 ≤ d0 + (k : Int) := by omega
          have hdk1 : d0 + (k : Int) ≤ IntKind.u64.max := by
            have : IntKind.u64.max = 18446744073709551615 := by decide +kernel
            rw [this]
            omega
          have hne : xs ≠ [] := fun e => by
            have := hLX.out
            rw [e] at this
            simp at this
            omega
          obtain ⟨x, hx⟩ : ∃ x, xs[pick xs.length (d0 + (k : Int))]?.getD (0, 0) = x := ⟨_, rfl⟩
          have HX := Lib.hid hx
          clear hx
          by_cases hm : mayC ow ca xs = true
          · have hone : Hid (oneR ow ca xs (d0 + (k : Int)) = ((x.1, x.2), 0)) := by rw [Hid, oneR, if_pos hm, if_neg hne, HX.out]
            have HM := Lib.hid hm
            have hxr : Hid (Rng x) := by
              rw [Hid, ← HX.out]
              exact X'.at_ _
            have hsn : Hid (flatD (rowL xs d0 (k + 1)) = flatD (rowL xs d0 k) ++ flatD [x]) := by rw [Hid, rowL_snoc, flatD_append, HX.out]
            clear hm
            go_wp2_with fail
            refine (One_any _ ow ca A0 n0 c0 xs (X'.more (Nat.le_refl _) (by omega)) hc0 (d0 + (k : Int)) hdk0 hdk1 x.1 x.2 0 hone.out).mono ?_
            rintro e w2 ⟨rfl, hb2, hp2⟩
            have hs2 := hb2.size
            have hown2 := own_belowB hown hb2 (Nat.le_refl _)
            have hbr2 := hbr.trans (hb2.mono (by omega))
            clear hown hb2
            go_wp2_with (first
              | (at_builtin; refine wpList_append_raw _ rfl (.tmp 54) (.tmp 56) 22 rfl w1.heap.size 29 i0 _ 2 16 Try.underlying22 hi0 hz0 hz1 hz2 rfl (by decide) _ _ _ rfl ((hown2.alloc _).alloc _) _ _ _ 1 1 (flatD [x]) rfl (raw_oneDg _ _ x 29 (heap_newg _ _ _ (by simp))) (flatD_one _) (by unfold maxLen; omega) (by omega) (by simp; omega) ?_))
            intro A3 c3 w3 hown3 hg3 _
            rw [← hsn.out] at hown3
            have hbr3 := ((hbr2.alloc (by omega) (.cells #[.int .i64 x.1, .int .i64 x.2] 29)).alloc (by simp; omega) (.cells #[.int .i64 x.1, .int .i64 x.2] 29)).grown hg3 (by simp; omega) (fun q hq => (hown2.lt q hq).1)
            go_wp2
            go_roundw
            case rel => exact ⟨k + 1, by go_num, by omega, hown3, fun _ => HM.out, hbr3⟩
            case measure => simp [intOf]; omega
          · have hone : Hid (oneR ow ca xs (d0 + (k : Int)) = ((0, 0), 8)) := by rw [Hid, oneR, if_neg hm]
            have hql := fun W => eqlD W 0 0 0 0
            rw [show ((0 : Int) == 0 && (0 : Int) == 0) = true from rfl] at hql
            have hgd := guardD
            clear hm
            go_wp2_with fail
            refine (One_any _ ow ca A0 n0 c0 xs (X'.more (Nat.le_refl _) (by omega)) hc0 (d0 + (k : Int)) hdk0 hdk1 0 0 8 hone.out).mono ?_
            rintro e w2 ⟨rfl, hb2, hp2⟩
            have hs2 := hb2.size
            have hc2 := hcr.trans (hb2.mono (by omega))
            clear hb2
            go_wp2
            go_ret
            exact ⟨rfl, hc2.alloc (by omega) _⟩
        · obtain rfl : k = n0 := by omega
          have hwfr : Hid (∀ x ∈ rowL xs d0 k, Rng x) := fun x hx => X'.wf x (rowL_sub (by rw [hLX.out]; exact Nat.le_refl _) x hx)
          have hL := Descs.of_own hown hwfr.out (by omega)
          clear hown
          by_cases h0 : k = 0
          · subst h0
            have hck : Hid (check (rowL xs d0 0) = 0) := by rw [Hid]; rfl
            go_wp2_with fail
            refine (Best_any _ _ _ Ao 0 co _ hL (Nat.le_refl _) (by omega) 0 hck.out).mono ?_
            rintro e w2 ⟨A3, n3, c3, r3, rfl, hc3, hb2, hr3, hr3', hD3⟩
            have hs2 := hb2.size
            have hc2 := hcr.trans (hb2.mono (by omega))
            clear hb2
            go_wp2
            go_ret
            exact ⟨rfl, hc2⟩
          · have hk0 : ((k : Int) == 0) = false := by simp; omega
            have hM := (mayC_iff _ _ _).1 (hmk.out (by omega))
            have hck : Hid (check (rowL xs d0 k) = 0) := by
              have := rowL_check hM d0
              rwa [hLX.out] at this
            have hbs : Hid (resB (rowL xs d0 k) = xs) := by
              have := rowL_best hM d0
              rw [hLX.out] at this
              rw [Hid, resB, if_pos hck.out, this]
            clear hM
            go_wp2_with fail
            refine (Best_any _ _ _ Ao k co _ hL (Nat.le_refl _) (by omega) 0 hck.out).mono ?_
            rintro e w2 ⟨A3, n3, c3, r3, rfl, hc3, hb2, hr3, hr3', hD3⟩
            have hs2 := hb2.size
            rw [hbs.out] at hD3
            have C2 := Below.heapOf hb2 (by omega) C'
            have X2 := X'.below hb2 (by omega)
            have hc2 := hcr.trans (hb2.mono (by omega))
            clear hb2 k1 k2 k3
            obtain ⟨⟨k1, k2, k3⟩, _⟩ := cells3 C2
            go_wp2_with fail
            refine (Same_b _ _ _ _ _ A3 A0 n3 c3 k c0 xs xs hD3 X2 true (Sm_refl xs)).mono ?_
            rintro e w3 ⟨rfl, hb3⟩
            have hc3' := hc2.trans (hb3.mono (by omega))
            clear hb3
            go_wp2
            go_ret
            exact ⟨rfl, hc3'⟩
  · have hn' : decide ((6 : Int) < n0) = true := by simp; omega
    go_wp2
    go_ret
    exact ⟨rfl, hc⟩
theorem u64_wf {z : Int} (h : (Lit.int .u64 z).wf = true) : 0 ≤ z ∧ z ≤ IntKind.u64.max := by
  have : IntKind.u64.min ≤ z ∧ z ≤ IntKind.u64.max := by simpa [Lit.wf] using h
  exact ⟨by simpa [IntKind.min, IntKind.signed] using this.1, this.2⟩
theorem chooseRound_row (w : World) (ow ca : Int) (_ : Rng (ow, ca)) (A0 : Option Addr) (n0 c0 : Nat) (xs : List (Int × Int)) (hX : Descs w 0 w.heap.size A0 n0 xs) (hc0 : n0 ≤ c0) (d0 : Int) (hd : (Lit.int .u64 d0).wf = true) :
    Calls Try.prog 15 #[.agg #[.int .i64 ow, .int .i64 ca, .slice A0 n0 c0], .int .u64 d0] w fun e w' => e = .returned (.bool true) ∧ Below w.heap.size w w' :=
  chooseRound_any w ow ca A0 n0 c0 xs hX hc0 d0 (u64_wf hd).1 (u64_wf hd).2
end De
end Go.Proofs.Ytpjomdkcckamkaa
