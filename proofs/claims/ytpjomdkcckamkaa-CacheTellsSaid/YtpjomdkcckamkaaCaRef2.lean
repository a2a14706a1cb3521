/- The reference's caches: whether one may be, copies, whether two are the same: walks. -/
import Derived.Test.YtpjomdkcckamkaaCaRef1
namespace Go.Proofs.Ytpjomdkcckamkaa
open Go.RowKit Go.Sort Go.Shelf
namespace De
set_option maxHeartbeats 1600000 in
set_option maxRecDepth 100000 in
/-- headcountref08.May. -/
theorem MayR_any (w : World) (own cap : Int) (A : Option Addr) (n c : Nat) (xs : List (Int × Int)) (hX : Descs w 0 w.heap.size A n xs) (hn : n ≤ 1000000) (b : Bool) (hb : mayC own cap xs = b) :
    Calls Try.prog 70 #[.agg #[.int .i64 own, .int .i64 cap, .slice A n c]] w fun e w' => e = .returned (.bool b) ∧ Below w.heap.size w w' ∧ 0 < w'.heap.size := by
  have HB := Lib.hid hb
  have HL := Lib.hid hX.len
  have hbig := hX.big
  have mixed : Try.prog.follows .mixedOrders = true := by kernel_rfl
  clear hb
  by_cases h1 : newOk own cap = true
  · have HN := Lib.hid (show newR own cap = ((own, cap), 0) by rw [newR, if_pos h1])
    have H1 := Lib.hid h1
    clear h1
    by_cases h2 : (n : Int) ≤ cap
    · have h2' : decide (cap < (n : Int)) = false := by simp; exact h2
      by_cases h3 : check xs = 0
      · have hbb : Hid (Sm xs (firsts [] (srt (others own xs))) = b) := by
          rw [Hid, ← HB.out, mayC, H1.out, h3, HL.out]
          have : decide ((n : Int) ≤ cap) = true := by simpa using h2
          rw [this]
          unfold Sm best
          simp only [Bool.true_and, beq_self_eq_true]
          rw [Bool.eq_iff_iff, beq_iff_eq, beq_iff_eq]
          exact eq_comm
        have H3 := Lib.hid h3
        clear h3
        go_enter Try.func70, Try.ntmps70
        go_wp2_with fail
        refine (NewR_any _ own cap own cap 0 HN.out).mono ?_
        rintro e w1 ⟨rfl, hg1⟩
        obtain ⟨⟨k1, k2, k3⟩, hs1, hb1⟩ := box3 hg1.below
        have hX1 := hX.below hb1 (Nat.le_refl _)
        have k1a : ∀ o, (w1.alloc o).cell? ⟨w.heap.size, 0, none⟩ = some (.int .i64 own) := fun o => (World.cell?_alloc_lt _ _ _ (show w.heap.size < w1.heap.size by omega)).trans k1
        have k2a : ∀ o, (w1.alloc o).cell? ⟨w.heap.size, 1, none⟩ = some (.int .i64 cap) := fun o => (World.cell?_alloc_lt _ _ _ (show w.heap.size < w1.heap.size by omega)).trans k2
        have k3a : ∀ o, (w1.alloc o).cell? ⟨w.heap.size, 2, none⟩ = some (.slice A n c) := fun o => (World.cell?_alloc_lt _ _ _ (show w.heap.size < w1.heap.size by omega)).trans k3
        clear hg1
        go_wp2_with fail
        refine (CheckR_g _ _ _ A n c xs (hX1.alloc (by omega) _) (by simp; omega) 0 H3.out).mono ?_
        rintro e w2 ⟨rfl, hg2⟩
        have hb2 := hg2.below
        have hs2 := hb2.size
        simp at hs2
        have hc2 := (hb1.alloc (by omega) _).trans (hb2.mono (by simp; omega))
        have X2 := hX.below hc2 (Nat.le_refl _)
        have p1 := Below.keepCell hb2 (show w.heap.size < _ by simp; omega) (k1a _)
        have p3 := Below.keepCell hb2 (show w.heap.size < _ by simp; omega) (k3a _)
        have hXd : Descs w2.drew 0 w2.drew.heap.size A n xs := (X2.drewN 1).more (Nat.le_refl _) (by show _ ≤ w2.heap.size; omega)
        have HXd := Lib.hid hXd
        have hsd : w2.heap.size ≤ w2.drew.heap.size := Nat.le_refl _
        have hcd : Below w.heap.size w w2.drew := hc2.drew
        have hg0 : w.heap.size < w2.drew.heap.size := by omega
        clear hb1 hX1 k1 k2 k3 k1a k2a k3a hg2 hb2 hXd X2
        go_wp2_with fail
        go_region_held3 (fun w' => w'.cell? ⟨w.heap.size, 0, none⟩ = some (.int .i64 own) ∧ w'.cell? ⟨w.heap.size, 2, none⟩ = some (.slice A n c))
          (first | go_keep | (go_split_ands; exact ⟨s1, s2⟩) | fail)
          (first
            | (go_at_call 83; refine Calls.mono (OthersR_any _ _ _ A n c xs HXd.out (Nat.le_refl _) own hn) ?_; rintro e u1 ⟨A1, n1, c1, rfl, hc1, hn1, hb1, hD1⟩; have s1 := Below.keepCell hb1 hg0 p1; have s2 := Below.keepCell hb1 hg0 p3; have hz1 := hb1.size; have hcu := hcd.trans (hb1.mono (by omega)))
            | (go_at_call 65; refine Calls.mono (SortedR_any _ _ _ A1 n1 c1 _ hD1 (Nat.le_refl _) (by omega)) ?_; rintro e u2 ⟨A2, c2, rfl, hc2', hb2, hD2⟩; have s1 := Below.keepCell hb2 (Nat.lt_of_lt_of_le hg0 hz1) s1; have s2 := Below.keepCell hb2 (Nat.lt_of_lt_of_le hg0 hz1) s2; have hz2 := hb2.size; have hcu2 := hcu.trans (hb2.mono (by omega)))
            | (go_at_call 66; refine Calls.mono (FirstsR_any _ _ _ A2 n1 c2 _ hD2 (Nat.le_refl _) (by omega)) ?_; rintro e u3 ⟨A3, n3, c3, rfl, hc3, hn3, hb3, hD3⟩; have s1 := Below.keepCell hb3 (show w.heap.size < _ by omega) s1; have s2 := Below.keepCell hb3 (show w.heap.size < _ by omega) s2; have hz3 := hb3.size; have hcu3 := hcu2.trans (hb3.mono (by omega)); have hXf := hX.below hcu3 (Nat.le_refl _))
            | (go_at_call 29; refine Calls.mono (SameR_g _ _ _ _ _ A A3 n c n3 c3 xs _ hXf hD3 b hbb.out) ?_; rintro e u4 ⟨rfl, q4, rfl⟩; have s1 : (u3.drewN q4).cell? ⟨w.heap.size, 0, none⟩ = some (.int .i64 own) := s1; have s2 : (u3.drewN q4).cell? ⟨w.heap.size, 2, none⟩ = some (.slice A n c) := s2)
            | (go_at_call 29; fail))
        have hcf : Below w.heap.size w (u3.drewN q4) := below_drewN hcu3 q4
        have hpf : 0 < (u3.drewN q4).heap.size := by show 0 < u3.heap.size; omega
        generalize u3.drewN q4 = W at *
        go_wp2
        go_ret
        exact ⟨rfl, hcf, hpf⟩
      · obtain ⟨q, hq⟩ : ∃ q, check xs = q := ⟨_, rfl⟩
        have HQ := Lib.hid hq
        have hqn : (q != 0) = true := by simpa using (fun e => h3 (by rw [hq, e]))
        obtain rfl : b = false := by
          rw [← HB.out, Bool.eq_false_iff]
          exact fun h => h3 ((mayC_iff own cap xs).1 h).chk
        clear hq h3
        go_enter Try.func70, Try.ntmps70
        go_wp2_with fail
        refine (NewR_any _ own cap own cap 0 HN.out).mono ?_
        rintro e w1 ⟨rfl, hg1⟩
        obtain ⟨⟨k1, k2, k3⟩, hs1, hb1⟩ := box3 hg1.below
        have hX1 := hX.below hb1 (Nat.le_refl _)
        have k2a : ∀ o, (w1.alloc o).cell? ⟨w.heap.size, 1, none⟩ = some (.int .i64 cap) := fun o => (World.cell?_alloc_lt _ _ _ (show w.heap.size < w1.heap.size by omega)).trans k2
        have k3a : ∀ o, (w1.alloc o).cell? ⟨w.heap.size, 2, none⟩ = some (.slice A n c) := fun o => (World.cell?_alloc_lt _ _ _ (show w.heap.size < w1.heap.size by omega)).trans k3
        clear hg1
        go_wp2_with fail
        refine (CheckR_g _ _ _ A n c xs (hX1.alloc (by omega) _) (by simp; omega) q HQ.out).mono ?_
        rintro e w2 ⟨rfl, hg2⟩
        have hb2 := hg2.below
        have hs2 := hb2.size
        simp at hs2
        have hc2 := (hb1.alloc (by omega) _).trans (hb2.mono (by simp; omega))
        clear hg2 hb2 k1 k2 k3 k2a k3a
        go_wp2
        go_ret
        exact ⟨rfl, hc2, by omega⟩
    · have h2' : decide (cap < (n : Int)) = true := by simp; omega
      obtain rfl : b = false := by
        rw [← HB.out, Bool.eq_false_iff]
        exact fun h => h2 (by rw [← HL.out]; exact ((mayC_iff own cap xs).1 h).len)
      go_enter Try.func70, Try.ntmps70
      go_wp2_with fail
      refine (NewR_any _ own cap own cap 0 HN.out).mono ?_
      rintro e w1 ⟨rfl, hg1⟩
      obtain ⟨⟨k1, k2, k3⟩, hs1, hb1⟩ := box3 hg1.below
      have k2a : ∀ o, (w1.alloc o).cell? ⟨w.heap.size, 1, none⟩ = some (.int .i64 cap) := fun o => (World.cell?_alloc_lt _ _ _ (show w.heap.size < w1.heap.size by omega)).trans k2
      have k3a : ∀ o, (w1.alloc o).cell? ⟨w.heap.size, 2, none⟩ = some (.slice A n c) := fun o => (World.cell?_alloc_lt _ _ _ (show w.heap.size < w1.heap.size by omega)).trans k3
      clear hg1
      go_wp2
      go_ret
      exact ⟨rfl, hb1.alloc (by omega) _, by simp⟩
  · have HN := Lib.hid (show newR own cap = ((0, 0), 2) by rw [newR, if_neg h1])
    obtain rfl : b = false := by
      rw [← HB.out, Bool.eq_false_iff]
      exact fun h => h1 ((mayC_iff own cap xs).1 h).new
    clear h1
    go_enter Try.func70, Try.ntmps70
    go_wp2_with fail
    refine (NewR_any _ own cap 0 0 2 HN.out).mono ?_
    rintro e w1 ⟨rfl, hg1⟩
    obtain ⟨⟨k1, k2, k3⟩, hs1, hb1⟩ := box3 hg1.below
    clear hg1
    go_wp2
    go_ret
    exact ⟨rfl, hb1.alloc (by omega) _, by simp⟩
end De
end Go.Proofs.Ytpjomdkcckamkaa
