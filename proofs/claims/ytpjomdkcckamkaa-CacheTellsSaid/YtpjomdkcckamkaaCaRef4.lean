/- The reference's choice: those that draws choose: a walk. -/
import Derived.Test.YtpjomdkcckamkaaCaRef3
namespace Go.Proofs.Ytpjomdkcckamkaa
open Go.RowKit Go.Sort Go.Shelf
namespace De
/-- What lies from place k on, wherever it is said to lie where nothing lies. -/
theorem Descs.dropAt {w : World} {rb n c b off k : Nat} {xs : List (Int × Int)} (h : Descs w rb (rb + 1) (some ⟨b, off, none⟩) n xs) (hk : k ≤ n) (hc : n ≤ c) : Descs w rb (rb + 1) (if c = k then some ⟨b, off, none⟩ else some ⟨b, off + k * 2, none⟩) (n - k) (xs.drop k) := by
  by_cases e : c = k
  · have h0 : n - k = 0 := by omega
    have hl := h.len
    rw [h0, List.drop_eq_nil_of_le (by omega)]
    exact Descs.nil_ ..
  · rw [if_neg e, ← add_even]
    exact h.drop_ hk
/-- The row without a place, in new memory. -/
theorem erased {w u : World} {E : Option Addr} {d n i : Nat} {xs : List (Int × Int)} (hlen : xs.length = n) (hi : i < n) (hn : n ≤ 1000000) (hw : ∀ x ∈ xs, Rng x) (h : u.ownsRow w.heap.size 29 2 (.slice E (i + (n - (i + 1))) d) (i + (n - (i + 1))) (flatD (xs.take i) ++ flatD (xs.drop (i + 1)))) (h0 : 0 < u.heap.size) (hs : w.heap.size < u.heap.size) :
    ∃ rb, w.heap.size ≤ rb ∧ rb < u.heap.size ∧ Descs u rb (rb + 1) E (i + (n - (i + 1))) (xs.eraseIdx i) ∧ i + (n - (i + 1)) ≤ d := by
  have hD := Descs.of_own (xs := xs.eraseIdx i) (by rw [erase_eq, flatD_append]; exact h) (fun x hx => hw x (List.eraseIdx_subset hx)) (by omega)
  have hcap := own_cap h
  by_cases hm : 0 < i + (n - (i + 1))
  · obtain ⟨rb, h1, h2, h3⟩ := hD.exact (Nat.le_refl _) h0
    exact ⟨rb, (h2 hm).1, h1, h3, hcap⟩
  · have e0 : i + (n - (i + 1)) = 0 := by omega
    rw [e0] at hD ⊢
    rw [hD.zero rfl]
    exact ⟨w.heap.size, Nat.le_refl _, hs, Descs.nil_ .., by omega⟩

set_option maxHeartbeats 6400000 in
set_option maxRecDepth 100000 in
/-- headcountref09.Chosen. -/
theorem ChosenR_any (w : World) (A : Option Addr) (n c : Nat) (xs : List (Int × Int)) (hX : Descs w 0 w.heap.size A n xs) (hc : n ≤ c) (hn : n ≤ 1000) (B : Option Addr) (m d : Nat) (ds : List Int) (hD : Ints w 0 w.heap.size .u64 B m ds) (hm : m ≤ 1000) :
    Calls Try.prog 75 #[.slice A n c, .slice B m d] w fun e w' => ∃ A' n' c', e = .returned (.slice A' n' c') ∧ n' ≤ c' ∧ n' ≤ m ∧ Below w.heap.size w w' ∧ Descs w' w.heap.size w'.heap.size A' n' (chs xs ds) := by
  have hLX := Lib.hid hX.len
  have hLD := Lib.hid hD.len
  have hwx := Lib.hid hX.wf
  have mixed : Try.prog.follows .mixedOrders = true := by kernel_rfl
  obtain ⟨i0, hi0, hz0, hz1, hz2⟩ := info_parts Try.info29
  obtain ⟨rb, x0, x1, X⟩ := Descs.block hX
  go_enter Try.func75, Try.ntmps75
  go_wp2
  go_loopw [0, 5, 6] (fun lv ov iv wr => ∃ (k nO : Nat) (AL : Option Addr) (nL cL rbL : Nat), iv = .int .i64 k ∧ k ≤ m ∧ lv = .slice AL nL cL ∧ nL ≤ cL ∧ nL ≤ 1000 ∧ Descs wr rbL (rbL + 1) AL nL (remL xs (ds.take k)) ∧ (0 < nL → rbL < wr.heap.size) ∧
      nO ≤ k ∧ wr.ownsRow w.heap.size 29 2 ov nO (flatD (chs xs (ds.take k))) ∧ ov.ownBlock ≠ some rbL ∧ Below w.heap.size w wr) (fun _ _ iv _ => m - (intOf iv).toNat)
  case atStart => exact ⟨0, 0, A, n, c, rb, rfl, Nat.zero_le _, rfl, hc, hn, X, x1, Nat.le_refl _, World.ownsRow_nil .., by simp [Value.ownBlock], Below.refl _ _⟩
  case round =>
    obtain ⟨k, nO, AL, nL, cL, rbL, rfl, hk, rfl, hcL, hnL, hL, hrL, hck, hown, hne, hb⟩ := hrel
    obtain ⟨Ao, co, rfl, hoc, _⟩ := own_shape hown
    have hsb := hb.size
    clear X
    by_cases hlt : k < m
    · by_cases h0 : nL = 0
      · subst h0
        have hz := hL.zero rfl
        have he : Hid (chs xs (ds.take k) = chs xs ds) := by
          have := chs_done hz (ds.drop k)
          rw [List.take_append_drop] at this
          exact this.symm
        rw [he.out] at hown
        have hDf := Descs.of_own hown (fun x hx => hwx.out x (chs_sub _ _ x hx)) (by omega)
        clear hz hown
        have hkm : (k : Int) < m := by omega
        go_wp2
        go_ret
        exact ⟨Ao, _, co, rfl, hoc, by omega, hb, hDf⟩
      · have hp : 0 < nL := by omega
        have hpos : decide ((0 : Int) < nL) = true := by simp; omega
        obtain ⟨db, doff, rfl, hd1, hd2, hcd⟩ := (hD.below hb (Nat.le_refl _)).row (by omega)
        have q1 := (hcd k hlt).1
        have hdm : ds[k]?.getD 0 ∈ ds := by
          rw [List.getElem?_eq_getElem (by rw [hLD.out]; exact hlt)]
          exact List.getElem_mem _
        have hd0 : (0 : Int) ≤ ds[k]?.getD 0 := by
          have := (hD.wf _ hdm).1
          simpa [IntKind.min, IntKind.signed] using this
        have hd9 : ds[k]?.getD 0 ≤ IntKind.u64.max := (hD.wf _ hdm).2
        have hts := Lib.hid (take_snocI (ds := ds) (k := k) (by rw [hLD.out]; exact hlt))
        clear hcd hdm
        generalize ds[k]?.getD 0 = dv at q1 hd0 hd9 hts
        have hpk := pick_lt hp dv
        have hpe := (pick_eq hp dv).symm
        obtain ⟨b, off, rfl, hb3, hb4, hcell⟩ := hL.row hp
        obtain rfl : b = rbL := by omega
        obtain ⟨⟨q3, _⟩, q4, _⟩ := hcell (pick nL dv) hpk
        have hlen := Lib.hid hL.len
        have hpk' : Hid (pick nL dv = pick nL dv) := rfl
        generalize hat : pick nL dv = at_ at q3 q4 hpk hpe
        have HAT := Lib.hid hat
        generalize hx : (remL xs (ds.take k))[at_]?.getD (0, 0) = x at q3 q4
        have HX := Lib.hid hx
        have hne0 : remL xs (ds.take k) ≠ [] := fun e => h0 (by rw [← hlen.out, e]; rfl)
        have hstep : Hid (remL xs (ds.take (k + 1)) = (remL xs (ds.take k)).eraseIdx at_) := by
          rw [Hid, hts.out, remL_snoc, if_neg hne0, hlen.out, HAT.out]
        have hchs : Hid (chs xs (ds.take (k + 1)) = chs xs (ds.take k) ++ [x]) := by
          rw [Hid, hts.out, chs_snoc, if_neg hne0, hlen.out, HAT.out, HX.out]
        have hfl : Hid (flatD (chs xs (ds.take (k + 1))) = flatD (chs xs (ds.take k)) ++ flatD [x]) := by rw [Hid, hchs.out, flatD_append]
        have hwl := Lib.hid hL.wf
        have hat0 : (0 : Int) ≤ at_ := by omega
        have hkm : (k : Int) < m := by omega
        have hrl := hrL hp
        clear hx hat hne0 hcell hpk'
        obtain ⟨z1, z2⟩ := x
        simp only at q3 q4
        go_wp2_with (first
          | (at_builtin; refine wpList_append_raw _ rfl (.tmp 28) (.tmp 33) 22 rfl w.heap.size 29 i0 _ 2 16 Try.underlying22 hi0 hz0 hz1 hz2 rfl (by decide) _ _ _ rfl (hown.alloc _) _ _ _ 1 1 (flatD [(z1, z2)]) rfl (raw_oneDg _ _ (z1, z2) 29 (heap_newg _ _ _ rfl)) (flatD_one _) (by unfold maxLen; omega) (by omega) (by simp; omega) ?_))
        intro A3 c3 w3 hown3 hg3 hob
        rw [← hfl.out] at hown3
        have hb3 := (hb.alloc hsb (.cells #[.int .i64 z1, .int .i64 z2] 29)).grown hg3 (by simp; omega) (fun q hq => (hown.lt q hq).1)
        have hs3 := hg3.size
        simp at hs3
        have hL3 := keepD_of (W' := w3) (hL.alloc (by omega) (.cells #[.int .i64 z1, .int .i64 z2] 29)) fun _ _ hc => hg3.block b (World.block_lt_of_cell? _ _ hc) hne.symm
        have hlt3 := fun q hq => (hown3.lt q hq).2
        have HOB := Lib.hid hob
        have HL3 := Lib.hid hlt3
        have hT1 : Descs w3 b (b + 1) (some ⟨b, off, none⟩) at_ ((remL xs (ds.take k)).take at_) := hL3.take_ (by omega)
        have hT2 := hL3.dropAt (k := at_ + 1) (by omega) hcL
        have q5 : IntKind.i64.wrap ((at_ : Int) + 1) = (at_ : Int) + 1 := IntWalk.i64_in _ (by omega)
        have q6 : (0 : Int) ≤ (at_ : Int) + 1 := by omega
        have q7 : ((at_ : Int) + 1).toNat = at_ + 1 := by omega
        have q8 : (at_ : Int) + 1 ≤ nL := by omega
        have q9 : at_ ≤ cL := by omega
        have q10 : at_ + 1 ≤ nL := by omega
        have q11 : (at_ : Int) ≤ (at_ : Int) + 1 := by omega
        have q12 : (at_ : Int) ≤ cL := by omega
        clear hob hg3 hL hL3 hown hb q1 q3 q4 hlt3
        by_cases hce : cL = at_ + 1
        · rw [if_pos hce] at hT2
          go_wp2_with fail
          go_region_law (first
              | (refine step_append_raw (by rfl) (.tmp 35) (.tmp 38) 22 (by rfl) w3.heap.size 29 i0 _ 2 16 Try.underlying22 hi0 hz0 hz1 hz2 (by rfl) (by decide) _ _ _ (by rfl) (own_new (by first | exact heap_newg _ _ _ (by simp) | exact (Below.heap_alloc _ _ _ (by simp)).trans (heap_newg _ _ _ (by simp))) (by first | omega | exact Nat.le_refl _ | (simp; done) | (simp; omega))) _ _ _ at_ _ (flatD ((remL xs (ds.take k)).take at_)) (by rfl) (hT1.below (B := w3.heap.size) (by repeat (first | exact Below.refl _ _ | assumption | (refine Below.drew ?_) | (refine Below.alloc ?_ (by first | omega | exact Nat.le_refl _ | (simp; done) | (simp; omega)) _))) (by first | omega | exact Nat.le_refl _ | (simp; done) | (simp; omega))).raw (flatD_one _) (by unfold maxLen; omega) (by omega) (by first | omega | exact Nat.le_refl _ | (simp; done) | (simp; omega)) ?_; intro E1 d1 u1 hown1 hgr1 _; (try simp only [Nat.zero_add, List.nil_append] at hown1); have hb1 : Below w3.heap.size w3 u1 := Below.grown (by repeat (first | exact Below.refl _ _ | assumption | (refine Below.drew ?_) | (refine Below.alloc ?_ (by first | omega | exact Nat.le_refl _ | (simp; done) | (simp; omega)) _))) hgr1 (by first | omega | exact Nat.le_refl _ | (simp; done) | (simp; omega)) (fun q hq => by simp [Value.ownBlock] at hq; omega); have hs1 := hb1.size; have hx1 : w3.heap.size < u1.heap.size := (by have := hgr1.size; (try simp at this); omega); clear hgr1)
              | (refine step_append_raw (by rfl) (.tmp 39) (.tmp 43) 22 (by rfl) w3.heap.size 29 i0 _ 2 16 Try.underlying22 hi0 hz0 hz1 hz2 (by rfl) (by decide) _ _ _ (by rfl) (by first | exact hown1 | exact hown1.alloc _) _ _ _ (nL - (at_ + 1)) _ (flatD ((remL xs (ds.take k)).drop (at_ + 1))) (by rfl) (hT2.below (B := w3.heap.size) (by repeat (first | exact Below.refl _ _ | assumption | (refine Below.drew ?_) | (refine Below.alloc ?_ (by first | omega | exact Nat.le_refl _ | (simp; done) | (simp; omega)) _))) (by first | omega | exact Nat.le_refl _ | (simp; done) | (simp; omega))).raw (flatD_one _) (by unfold maxLen; omega) (by omega) (by first | omega | exact Nat.le_refl _ | (simp; done) | (simp; omega)) ?_; intro E2 d2 u2 hown2 hgr2 _; have hb2 : Below w3.heap.size w3 u2 := Below.grown (by repeat (first | exact Below.refl _ _ | assumption | (refine Below.drew ?_) | (refine Below.alloc ?_ (by first | omega | exact Nat.le_refl _ | (simp; done) | (simp; omega)) _))) hgr2 (by first | omega | exact Nat.le_refl _ | (simp; done) | (simp; omega)) (fun q hq => (hown1.lt q hq).1); have hs2 := hb2.size; have hx2 : w3.heap.size < u2.heap.size := (by have h5 := hgr2.size; (try simp at h5); omega); clear hgr2 hb1 hs1 hown1))
          all_goals
            have hb4 := hb3.trans (hb2.mono (by omega))
            obtain ⟨rb4, e1, e2, e3, e4⟩ := erased (w := w3) (i := at_) hlen.out hpk (by omega) hwl.out hown2 (by omega) hx2
            have hownF := own_belowB hown3 hb2 (Nat.le_refl _)
            have hneF : (Value.slice A3 (nO + 1) c3).ownBlock ≠ some rb4 := fun e => by
              have := HL3.out _ e
              omega
            go_wp2
            go_roundw
            case rel => exact ⟨k + 1, nO + 1, E2, at_ + (nL - (at_ + 1)), d2, rb4, by go_num, by omega, rfl, e4, by omega, by rw [hstep.out]; exact e3, fun _ => e2, by omega, hownF, hneF, hb4⟩
            case measure => simp [intOf]; omega
        · rw [if_neg hce] at hT2
          go_wp2_with fail
          go_region_law (first
              | (refine step_append_raw (by rfl) (.tmp 35) (.tmp 38) 22 (by rfl) w3.heap.size 29 i0 _ 2 16 Try.underlying22 hi0 hz0 hz1 hz2 (by rfl) (by decide) _ _ _ (by rfl) (own_new (by first | exact heap_newg _ _ _ (by simp) | exact (Below.heap_alloc _ _ _ (by simp)).trans (heap_newg _ _ _ (by simp))) (by first | omega | exact Nat.le_refl _ | (simp; done) | (simp; omega))) _ _ _ at_ _ (flatD ((remL xs (ds.take k)).take at_)) (by rfl) (hT1.below (B := w3.heap.size) (by repeat (first | exact Below.refl _ _ | assumption | (refine Below.drew ?_) | (refine Below.alloc ?_ (by first | omega | exact Nat.le_refl _ | (simp; done) | (simp; omega)) _))) (by first | omega | exact Nat.le_refl _ | (simp; done) | (simp; omega))).raw (flatD_one _) (by unfold maxLen; omega) (by omega) (by first | omega | exact Nat.le_refl _ | (simp; done) | (simp; omega)) ?_; intro E1 d1 u1 hown1 hgr1 _; (try simp only [Nat.zero_add, List.nil_append] at hown1); have hb1 : Below w3.heap.size w3 u1 := Below.grown (by repeat (first | exact Below.refl _ _ | assumption | (refine Below.drew ?_) | (refine Below.alloc ?_ (by first | omega | exact Nat.le_refl _ | (simp; done) | (simp; omega)) _))) hgr1 (by first | omega | exact Nat.le_refl _ | (simp; done) | (simp; omega)) (fun q hq => by simp [Value.ownBlock] at hq; omega); have hs1 := hb1.size; have hx1 : w3.heap.size < u1.heap.size := (by have := hgr1.size; (try simp at this); omega); clear hgr1)
              | (refine step_append_raw (by rfl) (.tmp 39) (.tmp 43) 22 (by rfl) w3.heap.size 29 i0 _ 2 16 Try.underlying22 hi0 hz0 hz1 hz2 (by rfl) (by decide) _ _ _ (by rfl) (by first | exact hown1 | exact hown1.alloc _) _ _ _ (nL - (at_ + 1)) _ (flatD ((remL xs (ds.take k)).drop (at_ + 1))) (by rfl) (hT2.below (B := w3.heap.size) (by repeat (first | exact Below.refl _ _ | assumption | (refine Below.drew ?_) | (refine Below.alloc ?_ (by first | omega | exact Nat.le_refl _ | (simp; done) | (simp; omega)) _))) (by first | omega | exact Nat.le_refl _ | (simp; done) | (simp; omega))).raw (flatD_one _) (by unfold maxLen; omega) (by omega) (by first | omega | exact Nat.le_refl _ | (simp; done) | (simp; omega)) ?_; intro E2 d2 u2 hown2 hgr2 _; have hb2 : Below w3.heap.size w3 u2 := Below.grown (by repeat (first | exact Below.refl _ _ | assumption | (refine Below.drew ?_) | (refine Below.alloc ?_ (by first | omega | exact Nat.le_refl _ | (simp; done) | (simp; omega)) _))) hgr2 (by first | omega | exact Nat.le_refl _ | (simp; done) | (simp; omega)) (fun q hq => (hown1.lt q hq).1); have hs2 := hb2.size; have hx2 : w3.heap.size < u2.heap.size := (by have h5 := hgr2.size; (try simp at h5); omega); clear hgr2 hb1 hs1 hown1))
          all_goals
            have hb4 := hb3.trans (hb2.mono (by omega))
            obtain ⟨rb4, e1, e2, e3, e4⟩ := erased (w := w3) (i := at_) hlen.out hpk (by omega) hwl.out hown2 (by omega) hx2
            have hownF := own_belowB hown3 hb2 (Nat.le_refl _)
            have hneF : (Value.slice A3 (nO + 1) c3).ownBlock ≠ some rb4 := fun e => by
              have := HL3.out _ e
              omega
            go_wp2
            go_roundw
            case rel => exact ⟨k + 1, nO + 1, E2, at_ + (nL - (at_ + 1)), d2, rb4, by go_num, by omega, rfl, e4, by omega, by rw [hstep.out]; exact e3, fun _ => e2, by omega, hownF, hneF, hb4⟩
            case measure => simp [intOf]; omega
    · obtain rfl : k = m := by omega
      have he : Hid (ds.take k = ds) := List.take_of_length_le (by rw [hLD.out]; exact Nat.le_refl _)
      rw [he.out] at hown
      have hDf := Descs.of_own hown (fun x hx => hwx.out x (chs_sub _ _ x hx)) (by omega)
      clear hown
      go_wp2
      go_ret
      exact ⟨Ao, _, co, rfl, hoc, by omega, hb, hDf⟩
end De
end Go.Proofs.Ytpjomdkcckamkaa
