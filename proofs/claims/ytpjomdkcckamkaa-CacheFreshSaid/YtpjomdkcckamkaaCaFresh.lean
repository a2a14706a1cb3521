/- CacheFresh: the walk. -/
import Derived.Test.YtpjomdkcckamkaaCaOffers
namespace Go.Proofs.Ytpjomdkcckamkaa
open Go.RowKit Go.Sort Go.Shelf
namespace De
set_option maxHeartbeats 6400000 in
set_option maxRecDepth 100000 in
theorem cacheFresh_any (w : World) (ow ca : Int) (A0 : Option Addr) (n0 c0 : Nat) (xs : List (Int × Int)) (hX : Descs w 0 w.heap.size A0 n0 xs) (A1 : Option Addr) (n1 c1 : Nat) (ys : List (Int × Int)) (hY : Descs w 0 w.heap.size A1 n1 ys) :
    Calls Try.prog 12 #[.agg #[.int .i64 ow, .int .i64 ca, .slice A0 n0 c0], .slice A1 n1 c1] w fun e w' => e = .returned (.bool true) ∧ Below w.heap.size w w' := by
  have hLX := Lib.hid hX.len
  have hLY := Lib.hid hY.len
  have hb0 := hX.big
  have hb1 := hY.big
  have hwx := Lib.hid hX.wf
  have hwy := Lib.hid hY.wf
  obtain ⟨u, hu⟩ : ∃ u : World, w.alloc (.cells #[.int .i64 ow, .int .i64 ca, .slice A0 n0 c0] 43) = u := ⟨_, rfl⟩
  have hbu : Below w.heap.size w u := by rw [← hu]; exact (Below.refl _ w).alloc (Nat.le_refl _) _
  have hC : u.heap[w.heap.size]? = some (.cells #[.int .i64 ow, .int .i64 ca, .slice A0 n0 c0] 43 (0, 0)) := by rw [← hu]; exact heap_newg _ _ _ rfl
  have hsu2 : w.heap.size + 1 ≤ u.heap.size := by rw [← hu]; simp
  have hal := aliveC_p u
  have hHU := Lib.hid hu
  clear hu
  by_cases h60 : n1 > 60
  · go_enter Try.func12, Try.ntmps12
    go_wp2_with fail
    rw [hHU.out]
    refine hal.mono ?_
    rintro e w1 ⟨rfl, hb, hp1⟩
    have hc := hbu.trans (hb.mono (by omega))
    clear hb hal hbu
    go_wp2
    go_ret
    exact ⟨rfl, hc⟩
  · have hd0 : decide ((60 : Int) < n1) = false := by simp; omega
    go_enter Try.func12, Try.ntmps12
    go_wp2_with fail
    rw [hHU.out]
    refine hal.mono ?_
    rintro e w1 ⟨rfl, hb, hp1⟩
    have hs1 := hb.size
    have C := Below.heapOf hb (by omega) hC
    have hc := hbu.trans (hb.mono (by omega))
    have X := hX.below hc (Nat.le_refl _)
    have Y := hY.below hc (Nat.le_refl _)
    clear hb hX hY hC hbu hal hHU
    obtain ⟨⟨k1, k2, k3⟩, _⟩ := cells3 C
    obtain ⟨r, hr⟩ : ∃ r, mergeC ow ca xs ys = r := ⟨_, rfl⟩
    have HR := Lib.hid hr
    clear hr
    go_wp2_with fail
    by_cases hz : r = 0
    · subst hz
      obtain ⟨hm, hcy, _⟩ := merge_zeroM HR.out
      have hTm := taken_mayC HR.out
      have h6 := may_six hm
      rw [hLX.out] at h6
      obtain ⟨h6, h61, h62⟩ := h6
      obtain ⟨S, hS⟩ : ∃ S, xs ++ ys = S := ⟨_, rfl⟩
      have hSl : S.length = n0 + n1 := by rw [← hS, List.length_append, hLX.out, hLY.out]
      have hSm : ∀ d ∈ S, may d = true := fun d hd => by
        rw [← hS] at hd
        rcases List.mem_append.1 hd with h | h
        · exact List.all_eq_true.1 (check_zero hm.chk).2 d h
        · exact List.all_eq_true.1 (check_zero hcy).2 d h
      rw [hS] at hTm
      have hlo : ∀ d ∈ S, keptB ow (taken ow ca.toNat S) d (taken ow ca.toNat S).length = false → (taken ow ca.toNat S).length = ca.toNat ∧ ltB d ((taken ow ca.toNat S)[ca.toNat - 1]?.getD (0, 0)) = false := fun d hd => left_out (by omega) hd
      obtain ⟨T, hT⟩ : ∃ T, taken ow ca.toNat S = T := ⟨_, rfl⟩
      have hT' : taken ow ca.toNat (xs ++ ys) = T := by rw [hS, hT]
      rw [hT] at hTm hlo
      have hTk := List.all_eq_true.1 (check_zero hTm.chk).2
      have hck : (if mayC ow ca T = true then (0 : Int) else 8) = 0 := if_pos ((mayC_iff _ _ _).2 hTm)
      have HCK := Lib.hid hck
      have HT := Lib.hid hT'
      have HS := Lib.hid hS
      have hLS := Lib.hid hSl
      have HSM := Lib.hid hSm
      have HLO := Lib.hid hlo
      have HTK := Lib.hid hTk
      clear hS hT hT' hTm hck hm hcy hSl hSm hlo hTk
      refine (Merge_lit _ ow ca A0 n0 c0 xs (X.more (by omega) (by omega)) A1 n1 c1 ys (Y.more (by omega) (by omega)) T HR.out HT.out).mono ?_
      rintro e w2 ⟨A2, n2, c2, r2, rfl, hc2, hb, hr2, hr2', Z⟩
      have hs2 := hb.size
      have C := heapAlloc (.cells #[.int .i64 ow, .int .i64 ca, .slice A2 n2 c2] 43) (Below.heapOf hb (by omega) C)
      have P := heap_newg w2 (.cells #[.int .i64 ow, .int .i64 ca, .slice A2 n2 c2] 43) _ rfl
      have hc := (hc.trans (hb.mono (by omega))).alloc (by omega) (.cells #[.int .i64 ow, .int .i64 ca, .slice A2 n2 c2] 43)
      have X := (X.below hb (by omega)).alloc (by omega) (.cells #[.int .i64 ow, .int .i64 ca, .slice A2 n2 c2] 43)
      have Y := (Y.below hb (by omega)).alloc (by omega) (.cells #[.int .i64 ow, .int .i64 ca, .slice A2 n2 c2] 43)
      have Z := Z.alloc (by omega) (.cells #[.int .i64 ow, .int .i64 ca, .slice A2 n2 c2] 43)
      have hZl := Lib.hid Z.len
      have hbz := Z.big
      clear hb k1 k2 k3 HT
      obtain ⟨⟨k1, k2, k3⟩, _⟩ := cells3 C
      go_wp2_with fail
      refine (CheckC_any _ ow ca A2 n2 c2 T (Z.more (by omega) (by simp; omega)) 0 HCK.out).mono ?_
      rintro e w3 ⟨rfl, hb, hp3⟩
      have hs3 := hb.size
      simp at hs3
      have C := Below.heapOf hb (by simp; omega) C
      have P := Below.heapOf hb (by simp) P
      have hc := hc.trans (hb.mono (by simp; omega))
      have X := X.below hb (by simp; omega)
      have Y := Y.below hb (by simp; omega)
      have Z := Z.below hb (by simp; omega)
      clear hb k1 k2 k3
      obtain ⟨⟨k1, k2, k3⟩, _⟩ := cells3 C
      obtain ⟨⟨p1, p2, p3⟩, _⟩ := cells3 P
      have ho1 : (ow != ow) = false := by simp
      have ho2 : (ca != ca) = false := by simp
      have k3a : ∀ o, (w3.alloc o).cell? ⟨w.heap.size, 2, none⟩ = some (.slice A0 n0 c0) := fun o => (cells3 (heapAlloc o C)).1.2.2
      obtain ⟨i0, hi0, hz0, hz1, hz2⟩ := info_parts Try.info29
      go_wp2_with (first
        | (at_builtin; refine wpList_append_raw _ rfl (.tmp 55) (.tmp 57) 22 rfl w3.heap.size 29 i0 _ 2 16 Try.underlying22 hi0 hz0 hz1 hz2 rfl (by decide) _ _ _ rfl (own_new (heap_newg _ _ _ rfl) (Nat.le_refl _)) _ _ _ n0 _ _ rfl (X.alloc (by omega) _).raw (flatD_one _) ?c2 ?c3 ?c4 ?_))
      case c2 => unfold maxLen; omega
      case c3 => omega
      case c4 => simp
      intro A5 c5 w5 hown5 hg5 _
      (try simp only [Nat.zero_add, List.nil_append] at hown5)
      have hb5 : Below w3.heap.size w3 w5 := ((Below.refl _ w3).alloc (Nat.le_refl _) _).grown hg5 (by simp) (fun q hq => by simp [Value.ownBlock] at hq; omega)
      have hs5 := hb5.size
      clear hg5 k3a
      go_wp2_with (first
        | (at_builtin; refine wpList_append_raw _ rfl (.tmp 58) (.tmp 59) 22 rfl w3.heap.size 29 i0 _ 2 16 Try.underlying22 hi0 hz0 hz1 hz2 rfl (by decide) _ _ _ rfl hown5 _ _ _ n1 _ _ rfl (Y.below hb5 (by omega)).raw (flatD_one _) ?d2 ?d3 ?d4 ?_))
      case d2 => unfold maxLen; omega
      case d3 => omega
      case d4 => omega
      intro A6 c6 w6 hown6 hg6 _
      have hb6 : Below w3.heap.size w3 w6 := hb5.grown hg6 (by omega) (fun q hq => (hown5.lt q hq).1)
      rw [← flatD_append, HS.out] at hown6
      have hwf6 : ∀ x ∈ S, Rng x := fun x hx => by
        rw [← HS.out] at hx
        rcases List.mem_append.1 hx with h | h
        · exact hwx.out x h
        · exact hwy.out x h
      have B := Descs.of_own hown6 hwf6 (by omega)
      have hs6 := hb6.size
      have C := Below.heapOf hb6 (by omega) C
      have P := Below.heapOf hb6 (by omega) P
      have hc := hc.trans (hb6.mono (by omega))
      have Z := Z.below hb6 (by omega)
      clear hb5 hg6 hown5 hown6 hb6 hwf6 k1 k2 k3 p1 p2 p3 X Y
      obtain ⟨⟨k1, k2, k3⟩, _⟩ := cells3 C
      obtain ⟨⟨p1, p2, p3⟩, _⟩ := cells3 P
      have mixed : Try.prog.follows .mixedOrders = true := by kernel_rfl
      go_wp2
      go_loopw [9, 10, 11, 12, 13] (fun kv _ _ _ _ wr => ∃ k : Nat, kv = .int .i64 k ∧ k ≤ n0 + n1 ∧ Gr w6 wr) (fun kv _ _ _ _ _ => n0 + n1 - (intOf kv).toNat)
      case atStart => exact ⟨0, rfl, Nat.zero_le _, Gr.refl _⟩
      case round =>
        obtain ⟨k, rfl, hk, hg⟩ := hrel
        have hsr := hg.below.size
        by_cases hlt : k < n0 + n1
        · obtain ⟨b, off, rfl, hb1', hb2', hcell⟩ := (B.gr hg (by omega)).row (by omega)
          obtain ⟨⟨g1, _⟩, g3, _⟩ := hcell k hlt
          have hdm : S[k]?.getD (0, 0) ∈ S := getD_mem (by rw [hLS.out]; exact hlt)
          have hsm := HSM.out _ hdm
          have hlo := HLO.out _ hdm
          generalize S[k]?.getD (0, 0) = d at g1 g3 hdm hsm hlo
          obtain ⟨d1, d2⟩ := d
          have HM := Lib.hid hsm
          have HL := Lib.hid hlo
          have hk0 : (0 : Int) ≤ k := by omega
          have hkN : (k : Int) < (n0 : Int) + n1 := by omega
          have q1 := Below.keepCell hg.below (by omega) k1
          have q2 := Below.keepCell hg.below (by omega) k2
          have u3 := Below.keepCell hg.below (by omega) p3
          obtain ⟨wo, rfl⟩ : ∃ wo : World, wo = wr := ⟨_, rfl⟩
          clear hcell hdm hsm hlo k1 k2 k3 p1 p2 p3
          go_wp2
          go_quiet (fail)
          go_wp2
          go_loopw [10, 11] (fun pv jv wr => ∃ j : Nat, jv = .int .i64 j ∧ j ≤ n2 ∧ pv = .bool (keptB ow T (d1, d2) j) ∧ Gr wo wr) (fun _ jv _ => n2 - (intOf jv).toNat)
          case atStart => exact ⟨0, rfl, Nat.zero_le _, by simp [keptB], (Gr.refl _).drewN _⟩
          case round =>
            obtain ⟨j, rfl, hj, rfl, hg2⟩ := hrel
            have hg3 := hg.trans hg2
            have hsr2 := hg3.below.size
            have q1 := Below.keepCell hg2.below (by omega) q1
            have q2 := Below.keepCell hg2.below (by omega) q2
            have u3 := Below.keepCell hg2.below (by omega) u3
            have e1 := Below.keepCell hg2.below (show b < wo.heap.size by omega) g1
            have e3 := Below.keepCell hg2.below (show b < wo.heap.size by omega) g3
            clear g1 g3
            by_cases hjl : j < n2
            · obtain ⟨b', off', rfl, _, hb3', hcell'⟩ := (Z.gr hg3 (by omega)).row (by omega)
              obtain ⟨⟨x1', _⟩, x3', _⟩ := hcell' j hjl
              have hsn := kept_snoc ow T (d1, d2) (j := j) (by rw [hZl.out]; exact hjl)
              generalize T[j]?.getD (0, 0) = y at x1' x3' hsn
              obtain ⟨y1, y2⟩ := y
              simp only at hsn
              have hj0 : (0 : Int) ≤ j := by omega
              have hjn : (j : Int) < n2 := by omega
              clear hcell'
              by_cases hy : y1 = d1
              · have hyb : (y1 == d1) = true := by simpa using hy
                by_cases hy2 : d2 ≤ y2
                · have hy2b : decide (d2 ≤ y2) = true := by simpa using hy2
                  rw [hyb, hy2b] at hsn
                  simp only [Bool.and_true, Bool.or_true] at hsn
                  have HSN := Lib.hid hsn
                  clear hsn hy hy2
                  go_wp2
                  go_quiet (fail)
                  go_wp2
                  go_roundw
                  case rel => exact ⟨j + 1, by go_num, by omega, by rw [HSN.out], hg2.drewN _⟩
                  case measure => simp [intOf]; omega
                · have hy2b : decide (d2 ≤ y2) = false := by simpa using hy2
                  rw [hy2b] at hsn
                  simp only [Bool.and_false, Bool.or_false] at hsn
                  have HSN := Lib.hid hsn
                  clear hsn hy hy2
                  go_wp2
                  go_quiet (fail)
                  go_wp2
                  go_roundw
                  case rel => exact ⟨j + 1, by go_num, by omega, by rw [HSN.out], hg2.drewN _⟩
                  case measure => simp [intOf]; omega
              · have hyb : (y1 == d1) = false := by simpa using hy
                rw [hyb] at hsn
                simp only [Bool.false_and, Bool.or_false] at hsn
                have HSN := Lib.hid hsn
                clear hsn hy
                go_wp2
                go_quiet (fail)
                go_wp2
                go_roundw
                case rel => exact ⟨j + 1, by go_num, by omega, by rw [HSN.out], hg2.drewN _⟩
                case measure => simp [intOf]; omega
            · have hjn : j = n2 := by omega
              subst hjn
              cases hkb : keptB ow T (d1, d2) j with
              | true =>
                clear hkb
                go_wp2
                go_roundw
                case rel => exact ⟨k + 1, by go_num, by omega, hg3⟩
                case measure => simp [intOf]; omega
              | false =>
                obtain ⟨hl1, hl2⟩ := HL.out (by rw [hZl.out]; exact hkb)
                rw [hZl.out] at hl1
                obtain ⟨i, hi⟩ : ∃ i, j = i + 1 := ⟨j - 1, by omega⟩
                subst hi
                rw [show ca.toNat - 1 = i by omega] at hl2
                obtain ⟨b', off', rfl, _, hb3', hcell'⟩ := (Z.gr hg3 (by omega)).row (by omega)
                obtain ⟨⟨x1', _⟩, x3', _⟩ := hcell' i (by omega)
                have hty := HTK.out _ (getD_mem (xs := T) (k := i) (by rw [hZl.out]; omega))
                generalize T[i]?.getD (0, 0) = y at x1' x3' hl2 hty
                obtain ⟨y1, y2⟩ := y
                have hfr : fr (d1, d2) (y1, y2) = (false, 0) := by rw [fr, HM.out, hty, hl2]; rfl
                have HF := Lib.hid hfr
                have hd1 : decide ((i : Int) + 1 < ca) = false := by simp; omega
                have hd2 : ((i : Int) + 1 == 0) = false := by rw [beq_eq_false_iff_ne]; omega
                have hw1 : IntKind.i64.wrap ((i : Int) + 1 - 1) = i := by rw [Int.add_sub_cancel]; exact IntWalk.i64_in _ (by omega)
                have hw2 : IntKind.i64.wrap (i : Int) = i := IntWalk.i64_in _ (by omega)
                have hi0' : (0 : Int) ≤ i := by omega
                have hii : (i : Int) < (i : Int) + 1 := by omega
                have f1 : ∀ m os, (grow (wr.drewN m) os).cell? ⟨b', off' + i * 2, none⟩ = some (.int .i64 y1) := fun m os => cell_grown (by show b' < wr.heap.size; omega) x1' m os
                have f2 : ∀ m os, (grow (wr.drewN m) os).cell? ⟨b', off' + i * 2 + 1, none⟩ = some (.int .i64 y2) := fun m os => cell_grown (by show b' < wr.heap.size; omega) x3' m os
                have f3 : ∀ m os, (grow (wr.drewN m) os).cell? ⟨b, off + k * 2, none⟩ = some (.int .i64 d1) := fun m os => cell_grown (by show b < wr.heap.size; omega) e1 m os
                have f4 : ∀ m os, (grow (wr.drewN m) os).cell? ⟨b, off + k * 2 + 1, none⟩ = some (.int .i64 d2) := fun m os => cell_grown (by show b < wr.heap.size; omega) e3 m os
                have f5 : ∀ m os, (grow (wr.drewN m) os).cell? ⟨w2.heap.size, 2, none⟩ = some (.slice (some ⟨b', off', none⟩) (i + 1) c2) := fun m os => cell_grown (by show w2.heap.size < wr.heap.size; omega) u3 m os
                clear hkb hl1 hl2 hty hcell' hfr
                go_wp2_with fail
                clear x1' x3' e1 e3 u3 q1 q2
                go_quiet_grown ((go_at_call 22; with_reducible exact Calls.gr (Fresher_g _ d1 d2 y1 y2 false 0 HF.out)))
                dsimp only
                generalize hw : grow (wr.drewN nq) osq = wr2
                have hg5 : Gr w6 wr2 := hg3.trans ⟨nq, osq, hw.symm⟩
                clear hw f1 f2 f3 f4 f5
                go_wp2
                go_roundw
                case rel => exact ⟨k + 1, by go_num, by omega, hg5⟩
                case measure => simp [intOf]; omega
        · obtain rfl : k = n0 + n1 := by omega
          go_wp2
          go_ret
          exact ⟨rfl, hc.trans (hg.below.mono (by omega))⟩
    · have hz2 : (r != 0) = true := by simpa using hz
      refine (Merge_not _ ow ca A0 n0 c0 xs (X.more (by omega) (by omega)) A1 n1 c1 ys (Y.more (by omega) (by omega)) r HR.out hz).mono ?_
      rintro e w6 ⟨c6, A6, rfl, hb⟩
      have hs6 := hb.size
      have hc := (hc.trans (hb.mono (by omega))).alloc (by omega) (.cells #[.int .i64 0, .int .i64 0, .slice A6 0 c6] 43)
      clear hb
      go_wp2
      go_ret
      exact ⟨rfl, hc⟩
end De
end Go.Proofs.Ytpjomdkcckamkaa
