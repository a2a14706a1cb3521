/- The reference's descriptors: whether they may be, how two stand, whether two lists are the same: walks. -/
import Derived.Test.YtpjomdkcckamkaaDeOrder
namespace Go.Proofs.Ytpjomdkcckamkaa
open Go.RowKit Go.Sort Go.Shelf
namespace De
set_option maxHeartbeats 400000 in
/-- headcountref07.One. -/
theorem One_g (w : World) (x y : Int) (b : Bool) (hb : may (x, y) = b) :
    Calls Try.prog 67 #[.agg #[.int .i64 x, .int .i64 y]] w fun e w' => e = .returned (.bool b) ∧ Gr w w' := by
  have HB := Lib.hid hb
  clear hb
  by_cases h1 : 0 ≤ x
  · by_cases h2 : x < 8
    · by_cases h3 : 0 ≤ y
      · by_cases h4 : y ≤ 2147483647
        · obtain rfl : b = true := by rw [← HB.out, may_iff]; exact ⟨h1, h2, h3, h4⟩
          go_enter Try.func67, Try.ntmps67
          go_wp2
          go_ret
          exact ⟨rfl, Gr.alloc (Gr.refl _) _⟩
        · obtain rfl : b = false := by rw [← HB.out, Bool.eq_false_iff, Ne, may_iff]; omega
          go_enter Try.func67, Try.ntmps67
          go_wp2
          go_ret
          exact ⟨rfl, Gr.alloc (Gr.refl _) _⟩
      · obtain rfl : b = false := by rw [← HB.out, Bool.eq_false_iff, Ne, may_iff]; omega
        go_enter Try.func67, Try.ntmps67
        go_wp2
        go_ret
        exact ⟨rfl, Gr.alloc (Gr.refl _) _⟩
    · obtain rfl : b = false := by rw [← HB.out, Bool.eq_false_iff, Ne, may_iff]; omega
      go_enter Try.func67, Try.ntmps67
      go_wp2
      go_ret
      exact ⟨rfl, Gr.alloc (Gr.refl _) _⟩
  · obtain rfl : b = false := by rw [← HB.out, Bool.eq_false_iff, Ne, may_iff]; omega
    go_enter Try.func67, Try.ntmps67
    go_wp2
    go_ret
    exact ⟨rfl, Gr.alloc (Gr.refl _) _⟩

set_option maxHeartbeats 400000 in
/-- headcountref07.Ahead. -/
theorem Ahead_g (w : World) (x y z u : Int) (b : Bool) (hb : ltB (x, y) (z, u) = b) :
    Calls Try.prog 68 #[.agg #[.int .i64 x, .int .i64 y], .agg #[.int .i64 z, .int .i64 u]] w fun e w' => e = .returned (.bool b) ∧ Gr w w' := by
  have HB := Lib.hid hb
  clear hb
  have fin := ((Gr.refl w).alloc (.cells #[.int .i64 x, .int .i64 y] 29)).alloc (.cells #[.int .i64 z, .int .i64 u] 29)
  by_cases h1 : u < y
  · obtain rfl : b = true := by rw [← HB.out, lt_iff]; exact .inl h1
    go_enter Try.func68, Try.ntmps68
    go_wp2
    go_ret
    exact ⟨rfl, by first | exact fin.drewN _ | exact fin⟩
  · by_cases h2 : y = u
    · subst h2
      by_cases h3 : x < z
      · obtain rfl : b = true := by rw [← HB.out, lt_iff]; exact .inr ⟨rfl, h3⟩
        go_enter Try.func68, Try.ntmps68
        go_wp2
        go_ret
        exact ⟨rfl, by first | exact fin.drewN _ | exact fin⟩
      · obtain rfl : b = false := by rw [← HB.out, Bool.eq_false_iff, Ne, lt_iff]; omega
        go_enter Try.func68, Try.ntmps68
        go_wp2
        go_ret
        exact ⟨rfl, by first | exact fin.drewN _ | exact fin⟩
    · obtain rfl : b = false := by rw [← HB.out, Bool.eq_false_iff, Ne, lt_iff]; omega
      have h2' : (y == u) = false := by simpa using h2
      go_enter Try.func68, Try.ntmps68
      go_wp2
      go_ret
      exact ⟨rfl, by first | exact fin.drewN _ | exact fin⟩

set_option maxHeartbeats 800000 in
/-- headcountref07.Check. -/
theorem CheckR_g (w : World) (lo hi : Nat) (A : Option Addr) (n c : Nat) (xs : List (Int × Int)) (hX : Descs w lo hi A n xs) (hhi : hi ≤ w.heap.size) (r : Int) (hr : check xs = r) :
    Calls Try.prog 28 #[.slice A n c] w fun e w' => e = .returned (.int .i64 r) ∧ Gr w w' := by
  have HR := Lib.hid hr
  have HL := Lib.hid hX.len
  have hbig := hX.big
  clear hr
  by_cases h64 : n > 64
  · have e : r = 4 := by rw [← HR.out, check, if_pos (by rw [HL.out]; exact h64)]
    subst e
    go_enter Try.func28, Try.ntmps28
    go_wp2
    go_ret
    exact ⟨rfl, Gr.refl _⟩
  · go_enter Try.func28, Try.ntmps28
    go_wp2
    go_loopw [3] (fun iv wr => ∃ k : Nat, iv = .int .i64 k ∧ k ≤ n ∧ Hid ((xs.take k).all may = true) ∧ Gr w wr) (fun iv _ => n - (intOf iv).toNat)
    case atStart => exact ⟨0, rfl, Nat.zero_le _, rfl, Gr.refl _⟩
    case round =>
      obtain ⟨k, rfl, hk, hall, hg⟩ := hrel
      by_cases hlt : k < n
      · obtain ⟨b, off, rfl, h1, h2, hc⟩ := (hX.gr hg hhi).row (by omega)
        obtain ⟨⟨g1, _⟩, g3, _⟩ := hc k hlt
        have htk : xs.take (k + 1) = xs.take k ++ [xs[k]?.getD (0, 0)] := by
          rw [List.take_succ_eq_append_getElem (by rw [HL.out]; exact hlt), List.getElem?_eq_getElem (by rw [HL.out]; exact hlt)]
          rfl
        have hmem : xs[k]?.getD (0, 0) ∈ xs := by rw [List.getElem?_eq_getElem (by rw [HL.out]; exact hlt)]; exact List.getElem_mem _
        clear hc
        generalize xs[k]?.getD (0, 0) = z at g1 g3 htk hmem
        obtain ⟨z1, z2⟩ := z
        have HT := Lib.hid htk
        have HM := Lib.hid hmem
        clear htk hmem
        cases hmz : may (z1, z2) with
        | true =>
          have HMZ := Lib.hid hmz
          clear hmz
          go_wp2_with fail
          refine (One_g _ z1 z2 true HMZ.out).mono ?_
          rintro e w1 ⟨rfl, hg1⟩
          go_wp2
          go_roundw
          case rel => exact ⟨k + 1, by go_num, by omega, by rw [Hid, HT.out, List.all_append, hall.out]; simp [HMZ.out], hg.trans hg1⟩
          case measure => simp [intOf]; omega
        | false =>
          have HMZ := Lib.hid hmz
          clear hmz
          have e : r = 8 := by
            rw [← HR.out, check, if_neg (by rw [HL.out]; exact h64), if_neg]
            intro h
            have := List.all_eq_true.1 h _ HM.out
            rw [HMZ.out] at this
            cases this
          subst e
          go_wp2_with fail
          refine (One_g _ z1 z2 false HMZ.out).mono ?_
          rintro e w1 ⟨rfl, hg1⟩
          go_wp2
          go_ret
          exact ⟨rfl, hg.trans hg1⟩
      · obtain rfl : k = n := by omega
        have e : r = 0 := by
          have h := hall.out
          rw [List.take_of_length_le (by rw [HL.out]; exact Nat.le_refl _)] at h
          rw [← HR.out, check, if_neg (by rw [HL.out]; exact h64), if_pos h]
        subst e
        clear hall
        go_wp2
        go_ret
        exact ⟨rfl, hg⟩

set_option maxHeartbeats 800000 in
/-- headcountref07.Fresher. -/
theorem FresherR_g (w : World) (x y z u : Int) (r : Bool) (c : Int) (hr : fr (x, y) (z, u) = (r, c)) :
    Calls Try.prog 27 #[.agg #[.int .i64 x, .int .i64 y], .agg #[.int .i64 z, .int .i64 u]] w fun e w' => e = .returned (.tuple #[.bool r, .int .i64 c]) ∧ Gr w w' := by
  unfold fr at hr
  by_cases h1 : may (x, y) = true
  · by_cases h2 : may (z, u) = true
    · rw [if_pos (by simp [h1, h2])] at hr
      obtain ⟨hr1, rfl⟩ := Prod.mk.inj hr
      have H1 := Lib.hid h1
      have H2 := Lib.hid h2
      have HR := Lib.hid hr1
      clear hr hr1 h1 h2
      go_enter Try.func27, Try.ntmps27
      go_wp2_with fail
      refine (One_g _ x y true H1.out).mono ?_
      rintro e w1 ⟨rfl, hg1⟩
      obtain ⟨⟨c1, c2, c3, c4⟩, hs1, _⟩ := two_boxes hg1.below
      have hbb := (((Gr.refl w).alloc _).alloc _).trans hg1
      clear hg1
      go_wp2_with fail
      refine (One_g _ z u true H2.out).mono ?_
      rintro e w2 ⟨rfl, hg2⟩
      have d1 := Below.keepCell hg2.below (by omega) c1
      have d2 := Below.keepCell hg2.below (by omega) c2
      have d3 := Below.keepCell hg2.below (by omega) c3
      have d4 := Below.keepCell hg2.below (by omega) c4
      have hb2 := hbb.trans hg2
      clear c1 c2 c3 c4 hbb hg2
      go_wp2_with fail
      refine (Ahead_g _ x y z u r HR.out).mono ?_
      rintro e w3 ⟨rfl, hg3⟩
      go_wp2
      go_ret2
      exact ⟨rfl, hb2.trans hg3⟩
    · have h2' : may (z, u) = false := by simpa using h2
      rw [if_neg (by simp [h2'])] at hr
      obtain ⟨rfl, rfl⟩ := Prod.mk.inj hr
      have H1 := Lib.hid h1
      have H2 := Lib.hid h2'
      clear hr h1 h2 h2'
      go_enter Try.func27, Try.ntmps27
      go_wp2_with fail
      refine (One_g _ x y true H1.out).mono ?_
      rintro e w1 ⟨rfl, hg1⟩
      obtain ⟨⟨c1, c2, c3, c4⟩, hs1, _⟩ := two_boxes hg1.below
      have hbb := (((Gr.refl w).alloc _).alloc _).trans hg1
      clear hg1
      go_wp2_with fail
      refine (One_g _ z u false H2.out).mono ?_
      rintro e w2 ⟨rfl, hg2⟩
      have hb2 := hbb.trans hg2
      clear c1 c2 c3 c4 hbb hg2
      go_wp2
      go_ret2
      exact ⟨rfl, hb2⟩
  · have h1' : may (x, y) = false := by simpa using h1
    rw [if_neg (by simp [h1'])] at hr
    obtain ⟨rfl, rfl⟩ := Prod.mk.inj hr
    have H1 := Lib.hid h1'
    clear hr h1 h1'
    go_enter Try.func27, Try.ntmps27
    go_wp2_with fail
    refine (One_g _ x y false H1.out).mono ?_
    rintro e w1 ⟨rfl, hg1⟩
    have hbb := (((Gr.refl w).alloc _).alloc _).trans hg1
    clear hg1
    go_wp2
    go_ret2
    exact ⟨rfl, hbb⟩

set_option maxHeartbeats 400000 in
/-- headcountref07.Same. -/
theorem SameR_g (w : World) (lo hi lo' hi' : Nat) (A A' : Option Addr) (n c n' c' : Nat) (xs ys : List (Int × Int)) (hX : Descs w lo hi A n xs) (hY : Descs w lo' hi' A' n' ys) (r : Bool) (hr : Sm xs ys = r) :
    Calls Try.prog 29 #[.slice A n c, .slice A' n' c'] w fun e w' => e = .returned (.bool r) ∧ ∃ m, w' = w.drewN m := by
  have HR := Lib.hid hr
  have HL := Lib.hid hX.len
  have HL' := Lib.hid hY.len
  have hbig := hX.big
  have hbig' := hY.big
  clear hr
  by_cases hn : n = n'
  · subst hn
    have hne : ((n : Int) != (n : Int)) = false := by simp
    go_enter Try.func29, Try.ntmps29
    go_wp2
    go_loopw [5] (fun i wr => ∃ k m : Nat, i = .int .i64 k ∧ k ≤ n ∧ Hid (xs.take k = ys.take k) ∧ wr = w.drewN m) (fun i _ => n - (intOf i).toNat)
    case atStart => exact ⟨0, 0, rfl, Nat.zero_le _, rfl, rfl⟩
    case round =>
      obtain ⟨k, m, rfl, hk, heq, rfl⟩ := hrel
      by_cases hlt : k < n
      · obtain ⟨b, off, rfl, h1, h2, hc⟩ := hX.row (by omega)
        obtain ⟨b', off', rfl, h1', h2', hc'⟩ := hY.row (by omega)
        obtain ⟨⟨g1, _⟩, g3, _⟩ := hc k hlt
        obtain ⟨⟨f1, _⟩, f3, _⟩ := hc' k hlt
        clear hc hc'
        have hkn : (k : Int) < n := by omega
        have hk0 : (0 : Int) ≤ k := by omega
        generalize hx : xs[k]?.getD (0, 0) = x at g1 g3
        generalize hy : ys[k]?.getD (0, 0) = y at f1 f3
        obtain ⟨x1, x2⟩ := x
        obtain ⟨y1, y2⟩ := y
        have HX := Lib.hid hx
        have HY := Lib.hid hy
        have hneq := fun W => neqD W x1 x2 y1 y2
        have hgd := guardD
        clear hx hy
        by_cases hxy : x1 = y1 ∧ x2 = y2
        · obtain ⟨rfl, rfl⟩ := hxy
          rw [show (!(x1 == x1 && x2 == x2)) = false by simp] at hneq
          go_wp2
          go_quiet (fail)
          go_wp2
          go_roundw
          case rel => exact ⟨k + 1, _, by go_num, by omega, take_eq (by rw [HL.out]; exact hlt) (by rw [HL'.out]; exact hlt) heq.out (by rw [HX.out, HY.out]), by first | rfl | exact World.drewN_drewN _ _ _⟩
          case measure => simp [intOf]; omega
        · have hf : (!(x1 == y1 && x2 == y2)) = true := by
            by_cases h1 : x1 = y1
            · have h2 : x2 ≠ y2 := fun h => hxy ⟨h1, h⟩
              simp [h2]
            · simp [h1]
          rw [hf] at hneq
          have e : r = false := by
            rw [← HR.out]
            unfold Sm
            rw [beq_eq_false_iff_ne]
            intro h
            have h3 := HX.out
            rw [h, HY.out] at h3
            have h4 := Prod.mk.inj h3
            exact hxy ⟨h4.1.symm, h4.2.symm⟩
          subst e
          go_wp2
          go_quiet (fail)
          go_wp2
          go_ret
          exact ⟨rfl, _, World.drewN_drewN _ _ _⟩
      · obtain rfl : k = n := by omega
        have e : r = true := by
          rw [← HR.out]
          unfold Sm
          have h := heq.out
          rw [List.take_of_length_le (by rw [HL.out]; exact Nat.le_refl _), List.take_of_length_le (by rw [HL'.out]; exact Nat.le_refl _)] at h
          rw [h]
          exact beq_self_eq_true _
        subst e
        clear heq
        go_wp2
        go_ret
        exact ⟨rfl, _, rfl⟩
  · have hne : ((n : Int) != (n' : Int)) = true := by rw [bne_iff_ne]; omega
    have e : r = false := by
      rw [← HR.out]
      unfold Sm
      rw [beq_eq_false_iff_ne]
      intro h
      have h1 := HL.out
      have h2 := HL'.out
      rw [h] at h1
      omega
    subst e
    go_enter Try.func29, Try.ntmps29
    go_wp2
    go_ret
    exact ⟨rfl, 0, rfl⟩
end De
end Go.Proofs.Ytpjomdkcckamkaa
