/- CacheOffers: the walk. -/
import Derived.Test.YtpjomdkcckamkaaCaLaw1
import Derived.Test.YtpjomdkcckamkaaCaPure2
import Derived.Test.YtpjomdkcckamkaaDeBest
namespace Go.Proofs.Ytpjomdkcckamkaa
open Go.RowKit Go.Sort Go.Shelf
namespace De
theorem mergeLit (own cap : Int) (xs ys : List (Int × Int)) (r : Int) (h : mergeC own cap xs ys = r) (hr : r ≠ 0) : mergeO own cap xs ys = 0 ∧ mergeP own cap xs ys = 0 ∧ mergeL own cap xs ys = [] := by
  unfold mergeO mergeP mergeL
  rw [if_neg (by rw [h]; exact hr), if_neg (by rw [h]; exact hr), if_neg (by rw [h]; exact hr)]
  exact ⟨rfl, rfl, rfl⟩
/-- cache.Merge, where it does not take in. -/
theorem Merge_not (w : World) (own cap : Int) (A : Option Addr) (n c : Nat) (xs : List (Int × Int)) (hX : Descs w 0 w.heap.size A n xs) (B : Option Addr) (m d : Nat) (ys : List (Int × Int)) (hY : Descs w 0 w.heap.size B m ys)
    (r : Int) (hr : mergeC own cap xs ys = r) (h0 : r ≠ 0) :
    Calls Try.prog 31 #[.agg #[.int .i64 own, .int .i64 cap, .slice A n c], .slice B m d] w fun e w' => ∃ c' : Nat, ∃ A', e = .returned (.tuple #[.agg #[.int .i64 0, .int .i64 0, .slice A' 0 c'], .int .i64 r]) ∧ Below w.heap.size w w' := by
  have h := MergeC_any w own cap A n c xs hX B m d ys hY r hr
  obtain ⟨e1, e2, e3⟩ := mergeLit own cap xs ys r hr h0
  rw [e1, e2, e3] at h
  refine h.mono ?_
  rintro e w' ⟨A', n', c', rb, rfl, _, hb, _, _, hD⟩
  obtain rfl : n' = 0 := by rw [← hD.len]; rfl
  exact ⟨c', A', rfl, hb⟩

set_option maxHeartbeats 6400000 in
set_option maxRecDepth 100000 in
theorem cacheOffers_any (w : World) (ow ca : Int) (A0 : Option Addr) (n0 c0 : Nat) (xs : List (Int × Int)) (hX : Descs w 0 w.heap.size A0 n0 xs) (ow1 ca1 : Int) (A1 : Option Addr) (n1 c1 : Nat) (ys : List (Int × Int)) (hY : Descs w 0 w.heap.size A1 n1 ys) (now : Int) :
    Calls Try.prog 9 #[.agg #[.int .i64 ow, .int .i64 ca, .slice A0 n0 c0], .agg #[.int .i64 ow1, .int .i64 ca1, .slice A1 n1 c1], .int .i64 now] w fun e w' => e = .returned (.bool true) ∧ Below w.heap.size w w' := by
  obtain ⟨r, hr⟩ : ∃ r, offerC ow ca xs now = r := ⟨_, rfl⟩
  have HR := Lib.hid hr
  have hLX := Lib.hid hX.len
  have hLY := Lib.hid hY.len
  obtain ⟨u, hu⟩ : ∃ u : World, (w.alloc (.cells #[.int .i64 ow, .int .i64 ca, .slice A0 n0 c0] 43)).alloc (.cells #[.int .i64 ow1, .int .i64 ca1, .slice A1 n1 c1] 43) = u := ⟨_, rfl⟩
  have hbu : Below w.heap.size w u := by rw [← hu]; exact ((Below.refl _ w).alloc (Nat.le_refl _) _).alloc (by simp) _
  have hsu : u.heap.size = w.heap.size + 2 := by rw [← hu]; simp
  have hC : u.heap[w.heap.size]? = some (.cells #[.int .i64 ow, .int .i64 ca, .slice A0 n0 c0] 43 (0, 0)) := by rw [← hu]; exact heapAlloc _ (heap_newg _ _ _ rfl)
  have hO : u.heap[w.heap.size + 1]? = some (.cells #[.int .i64 ow1, .int .i64 ca1, .slice A1 n1 c1] 43 (0, 0)) := by rw [← hu]; exact heap_newg _ _ _ (by simp)
  have hal := aliveC_p u
  have hHU := Lib.hid hu
  have hsu' := Lib.hid hsu
  have hsu2 : w.heap.size + 2 ≤ u.heap.size := by omega
  clear hu hr hsu
  go_enter Try.func9, Try.ntmps9
  go_wp2_with fail
  rw [hHU.out]
  refine hal.mono ?_
  rintro e w1 ⟨rfl, hb, hp1⟩
  have hs1 := hb.size
  have C := Below.heapOf hb (by omega) hC
  have O := Below.heapOf hb (by omega) hO
  have hc := hbu.trans (hb.mono (by omega))
  have X := hX.below hc (Nat.le_refl _)
  have Y := hY.below hc (Nat.le_refl _)
  clear hb hX hY hC hO hbu hal hHU hsu'
  obtain ⟨⟨k1, k2, k3⟩, _⟩ := cells3 C
  go_wp2_with fail
  refine (Offer_any _ ow ca now A0 n0 c0 xs (X.more (by omega) (by omega)) r HR.out).mono ?_
  rintro e w2 ⟨A2, n2, c2, r2, rfl, hc2, hb, hr2, hr2', L⟩
  have hs2 := hb.size
  have C := Below.heapOf hb (by omega) C
  have O := Below.heapOf hb (by omega) O
  have hc := hc.trans (hb.mono (by omega))
  have X := X.below hb (by omega)
  have Y := Y.below hb (by omega)
  clear hb k1 k2 k3
  by_cases hz : r = 0
  · subst hz
    obtain ⟨hm, hn1, hn2⟩ := offer_zero HR.out
    have hlo : offerL ow ca xs now = told ow now xs := by rw [offerL, if_pos HR.out]
    rw [hlo] at L
    have hLL := L.len
    rw [told_len, hLX.out] at hLL
    obtain rfl : n2 = n0 + 1 := hLL.symm
    have h6 := may_six hm
    rw [hLX.out] at h6
    obtain ⟨h6, h61, h62⟩ := h6
    have hck := Lib.hid (told_ok hm hn1 hn2)
    have hom := Lib.hid (offers_own (now := now) hm)
    have hmg := Lib.hid (merge_ok hm hck.out (by rw [told_len, hLX.out]; omega))
    have hg : mergeC ow1 ca1 ys (told ow now xs) = if mayC ow1 ca1 ys = true then 0 else 8 := offers_merge hm hn1 hn2
    obtain ⟨g, hg1⟩ : ∃ g, mergeC ow1 ca1 ys (told ow now xs) = g := ⟨_, rfl⟩
    have hg2 : (if mayC ow1 ca1 ys = true then 0 else 8) = g := by rw [← hg, hg1]
    have HG1 := Lib.hid hg1
    have HG2 := Lib.hid hg2
    clear hg hg1 hg2 hm hLL hlo
    obtain ⟨⟨k1, k2, k3⟩, _⟩ := cells3 C
    go_wp2_with fail
    refine (Check_any _ _ _ A2 (n0 + 1) c2 _ L (by omega) (by omega) 0 hck.out).mono ?_
    rintro e w3 ⟨rfl, hb⟩
    have hs3 := hb.size
    have C := Below.heapOf hb (by omega) C
    have O := Below.heapOf hb (by omega) O
    have hc := hc.trans (hb.mono (by omega))
    have X := X.below hb (by omega)
    have Y := Y.below hb (by omega)
    have L := L.below hb (by omega)
    clear hb k1 k2 k3
    obtain ⟨⟨k1, k2, k3⟩, _⟩ := cells3 C
    go_wp2_with fail
    refine (Merge_lit _ ow ca A0 n0 c0 xs (X.more (by omega) (by omega)) A2 (n0 + 1) c2 _ (L.more (by omega) (by omega)) xs hmg.out hom.out).mono ?_
    rintro e w4 ⟨A4, n4, c4, r4, rfl, hc4, hb, hr4, hr4', Z⟩
    obtain rfl : n4 = n0 := by rw [← Z.len]; exact hLX.out
    have hs4 := hb.size
    have C := heapAlloc (.cells #[.int .i64 ow, .int .i64 ca, .slice A4 n4 c4] 43) (Below.heapOf hb (by omega) C)
    have O := heapAlloc (.cells #[.int .i64 ow, .int .i64 ca, .slice A4 n4 c4] 43) (Below.heapOf hb (by omega) O)
    have hc := (hc.trans (hb.mono (by omega))).alloc (by omega) (.cells #[.int .i64 ow, .int .i64 ca, .slice A4 n4 c4] 43)
    have X := (X.below hb (by omega)).alloc (by omega) (.cells #[.int .i64 ow, .int .i64 ca, .slice A4 n4 c4] 43)
    have Y := (Y.below hb (by omega)).alloc (by omega) (.cells #[.int .i64 ow, .int .i64 ca, .slice A4 n4 c4] 43)
    have L := (L.below hb (by omega)).alloc (by omega) (.cells #[.int .i64 ow, .int .i64 ca, .slice A4 n4 c4] 43)
    have Z := Z.alloc (by omega) (.cells #[.int .i64 ow, .int .i64 ca, .slice A4 n4 c4] 43)
    clear hb k1 k2 k3
    obtain ⟨⟨k1, k2, k3⟩, _⟩ := cells3 C
    go_wp2_with fail
    refine (SameC_any _ ow ca ow ca _ _ _ _ A4 A0 n4 c4 n4 c0 xs xs Z X (by simp; omega) (by simp; omega) true (by simp [sameC, Sm_refl])).mono ?_
    rintro e w5 ⟨rfl, hb⟩
    have hs5 := hb.size
    simp at hs5
    have C := Below.heapOf hb (by simp; omega) C
    have O := Below.heapOf hb (by simp; omega) O
    have hc := hc.trans (hb.mono (by simp; omega))
    have Y := Y.below hb (by simp; omega)
    have L := L.below hb (by simp; omega)
    clear hb k1 k2 k3 X Z
    obtain ⟨⟨k1, k2, k3⟩, _⟩ := cells3 O
    go_wp2_with fail
    have hL2 := Lib.hid L.len
    by_cases hgz : g = 0
    · subst hgz
      have hmo : mayC ow1 ca1 ys = true := by
        have := HG2.out
        split at this
        · assumption
        · cases this
      have h7 := may_six ((mayC_iff _ _ _).1 hmo)
      obtain ⟨_, h71, h72⟩ := h7
      obtain ⟨T, hT⟩ : ∃ T, taken ow1 ca1.toNat (ys ++ told ow now xs) = T := ⟨_, rfl⟩
      have hTl : T.length ≤ ca1.toNat := by rw [← hT, taken]; simp; omega
      have hfr : ow ≠ ow1 → ∀ d ∈ T, d.1 = ow → now ≤ d.2 := fun hne d hd e => offers_fresh hne (by rw [hT]; exact hd) e
      have hfu : ow ≠ ow1 → (∀ d ∈ T, d.1 ≠ ow) → T.length = ca1.toNat := fun hne hno => by rw [← hT]; exact offers_full hne (by rw [hT]; exact hno)
      have HT := Lib.hid hT
      have HFR := Lib.hid hfr
      have HFU := Lib.hid hfu
      clear hT hfr hfu hmo
      refine (Merge_lit _ ow1 ca1 A1 n1 c1 ys (Y.more (by omega) (by omega)) A2 (n4 + 1) c2 _ (L.more (by omega) (by omega)) T HG1.out HT.out).mono ?_
      rintro e w6 ⟨A6, n6, c6, r6, rfl, hc6, hb, hr6, hr6', Z⟩
      have hs6 := hb.size
      have C := Below.heapOf hb (by omega) C
      have O := Below.heapOf hb (by omega) O
      have hc := hc.trans (hb.mono (by omega))
      have Y := Y.below hb (by omega)
      clear hb k1 k2 k3 L HT
      have hZl := Lib.hid Z.len
      have hn6 : n6 ≤ ca1.toNat := by rw [← hZl.out]; exact hTl
      obtain ⟨k1, k2, k3⟩ := (cells3 (heapAlloc (.cells #[.int .i64 ow1, .int .i64 ca1, .slice A6 n6 c6] 43) C)).1
      obtain ⟨m1, m2, m3⟩ := (cells3 (heapAlloc (.cells #[.int .i64 ow1, .int .i64 ca1, .slice A6 n6 c6] 43) O)).1
      by_cases how : ow = ow1
      · subst how
        have hoo : (ow == ow) = true := by simp
        go_wp2
        go_ret
        exact ⟨rfl, hc.alloc (by omega) _⟩
      · have hoo : (ow == ow1) = false := by simpa using how
        have hfr := Lib.hid (HFR.out how)
        have hfu := Lib.hid (HFU.out how)
        have P := heap_newg w6 (.cells #[.int .i64 ow1, .int .i64 ca1, .slice A6 n6 c6] 43) _ rfl
        have hcv := hc.alloc (by omega) (.cells #[.int .i64 ow1, .int .i64 ca1, .slice A6 n6 c6] 43)
        have Z := Z.alloc (by omega) (.cells #[.int .i64 ow1, .int .i64 ca1, .slice A6 n6 c6] 43)
        have hbz := Z.big
        obtain ⟨p1, p2, p3⟩ := (cells3 P).1
        have mixed : Try.prog.follows .mixedOrders = true := by kernel_rfl
        go_wp2
        go_loopw [14] (fun kv wr => ∃ k : Nat, kv = .int .i64 k ∧ k ≤ n6 ∧ Hid (∀ d ∈ T.take k, d.1 ≠ ow) ∧ Gr (w6.alloc (.cells #[.int .i64 ow1, .int .i64 ca1, .slice A6 n6 c6] 43)) wr) (fun kv _ => n6 - (intOf kv).toNat)
        case atStart => exact ⟨0, rfl, Nat.zero_le _, by simp [Hid], Gr.refl _⟩
        case round =>
          obtain ⟨k, rfl, hk, hno, hg⟩ := hrel
          have hsr := hg.below.size
          simp at hsr
          have q1 := Below.keepCell hg.below (by simp; omega) k1
          have q3 := Below.keepCell hg.below (by simp) p3
          have m2 := Below.keepCell hg.below (by simp; omega) m2
          clear k1 k2 k3 p1 p2 p3 m1 m3
          by_cases hlt : k < n6
          · obtain ⟨b, off, rfl, hb1', hb2', hcell⟩ := (Z.gr hg (by simp; omega)).row (by omega)
            obtain ⟨⟨g1, _⟩, g3, _⟩ := hcell k hlt
            have hdm : T[k]?.getD (0, 0) ∈ T := getD_mem (by rw [hZl.out]; exact hlt)
            have hsn : ∀ x, x ∈ T.take (k + 1) → x ∈ T.take k ∨ x = T[k]?.getD (0, 0) := fun x hx => by
              rw [List.take_succ_eq_append_getElem (by rw [hZl.out]; exact hlt)] at hx
              rw [List.getElem?_eq_getElem (by rw [hZl.out]; exact hlt)]
              rcases List.mem_append.1 hx with h | h
              · exact .inl h
              · exact .inr (by simpa using h)
            generalize T[k]?.getD (0, 0) = d at g1 g3 hdm hsn
            obtain ⟨d1, d2⟩ := d
            have hk0 : (0 : Int) ≤ k := by omega
            have hkN : (k : Int) < n6 := by omega
            clear hcell
            by_cases hd : d1 = ow
            · subst hd
              have hge := hfr.out _ hdm rfl
              simp only at hge
              clear hsn hdm
              go_wp2
              go_quiet (fail)
              go_wp2
              go_ret
              exact ⟨by simp [hge], hcv.trans ((hg.drewN _).below.mono (by simp; omega))⟩
            · have hdb : (d1 == ow) = false := by simpa using hd
              have hno2 : Hid (∀ d ∈ T.take (k + 1), d.1 ≠ ow) := fun x hx => by
                rcases hsn x hx with h | rfl
                · exact hno.out x h
                · exact hd
              clear hsn hdm
              go_wp2
              go_quiet (fail)
              go_wp2
              go_roundw
              case rel => exact ⟨k + 1, by go_num, by omega, hno2, hg.drewN _⟩
              case measure => simp [intOf]; omega
          · obtain rfl : k = n6 := by omega
            have hfl := hfu.out (fun d hd => hno.out d (by rw [List.take_of_length_le (by rw [hZl.out]; exact Nat.le_refl _)]; exact hd))
            rw [hZl.out] at hfl
            have hfl2 : ((k : Int) == ca1) = true := by rw [beq_iff_eq]; omega
            clear hno hfl
            go_wp2
            go_ret
            exact ⟨rfl, hcv.trans (hg.below.mono (by simp; omega))⟩
    · have hgo : g = 8 := by
        have := HG2.out
        split at this
        · exact absurd this.symm hgz
        · exact this.symm
      subst hgo
      refine (Merge_not _ ow1 ca1 A1 n1 c1 ys (Y.more (by omega) (by omega)) A2 (n4 + 1) c2 _ (L.more (by omega) (by omega)) 8 HG1.out (by decide)).mono ?_
      rintro e w6 ⟨c6, A6, rfl, hb⟩
      have hs6 := hb.size
      have O := heapAlloc (.cells #[.int .i64 0, .int .i64 0, .slice A6 0 c6] 43) (Below.heapOf hb (by omega) O)
      have hc := (hc.trans (hb.mono (by omega))).alloc (by omega) (.cells #[.int .i64 0, .int .i64 0, .slice A6 0 c6] 43)
      have Y := (Y.below hb (by omega)).alloc (by omega) (.cells #[.int .i64 0, .int .i64 0, .slice A6 0 c6] 43)
      clear hb k1 k2 k3 C L
      obtain ⟨⟨k1, k2, k3⟩, _⟩ := cells3 O
      go_wp2_with fail
      refine (CheckC_any _ ow1 ca1 A1 n1 c1 ys (Y.more (by omega) (by simp; omega)) 8 HG2.out).mono ?_
      rintro e w7 ⟨rfl, hb, _⟩
      have hc := hc.trans (hb.mono (by simp; omega))
      clear hb k1 k2 k3
      go_wp2
      go_ret
      exact ⟨rfl, hc⟩
  · have hz2 : (r != 0) = true := by simpa using hz
    have hlo : offerL ow ca xs now = [] := by rw [offerL, if_neg (by rw [HR.out]; exact hz)]
    rw [hlo] at L
    obtain rfl : n2 = 0 := by rw [← L.len]; rfl
    go_wp2
    go_ret
    exact ⟨rfl, hc⟩
theorem cacheOffers_row (w : World) (ow ca : Int) (_ : Rng (ow, ca)) (A0 : Option Addr) (n0 c0 : Nat) (xs : List (Int × Int)) (hX : Descs w 0 w.heap.size A0 n0 xs) (_ : n0 ≤ c0) (ow1 ca1 : Int) (_ : Rng (ow1, ca1)) (A1 : Option Addr) (n1 c1 : Nat) (ys : List (Int × Int)) (hY : Descs w 0 w.heap.size A1 n1 ys) (_ : n1 ≤ c1) (now : Int) (_ : (Lit.int .i64 now).wf = true) :
    Calls Try.prog 9 #[.agg #[.int .i64 ow, .int .i64 ca, .slice A0 n0 c0], .agg #[.int .i64 ow1, .int .i64 ca1, .slice A1 n1 c1], .int .i64 now] w fun e w' => e = .returned (.bool true) ∧ Below w.heap.size w w' :=
  cacheOffers_any w ow ca A0 n0 c0 xs hX ow1 ca1 A1 n1 c1 ys hY now
end De
end Go.Proofs.Ytpjomdkcckamkaa
