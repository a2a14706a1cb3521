/- Caches take in: a walk. -/
import Derived.Test.YtpjomdkcckamkaaCaWalks3
namespace Go.Proofs.Ytpjomdkcckamkaa
open Go.RowKit Go.Sort Go.Shelf
namespace De
/-- A cache and a code are handed back, in memory of the call's own. -/
def CchPost (w : World) (ow ca : Int) (ys : List (Int × Int)) (r : Int) (e : Ending) (w' : World) : Prop :=
  ∃ A' n' c' rb, e = .returned (.tuple #[.agg #[.int .i64 ow, .int .i64 ca, .slice A' n' c'], .int .i64 r]) ∧ n' ≤ c' ∧ Below w.heap.size w w' ∧ (0 < n' → w.heap.size ≤ rb) ∧ rb < w'.heap.size ∧ Descs w' rb (rb + 1) A' n' ys
/-- The cells of two caches, each in a block of its own. -/
theorem box33 {w w1 : World} {x y z x' y' z' : Value} {t t' : TypeId} (hb : Below ((w.alloc (.cells #[x, y, z] t)).alloc (.cells #[x', y', z'] t')).heap.size ((w.alloc (.cells #[x, y, z] t)).alloc (.cells #[x', y', z'] t')) w1) :
    (w1.cell? ⟨w.heap.size, 0, none⟩ = some x ∧ w1.cell? ⟨w.heap.size, 1, none⟩ = some y ∧ w1.cell? ⟨w.heap.size, 2, none⟩ = some z) ∧
    w1.heap[w.heap.size + 1]? = some (.cells #[x', y', z'] t' (0, 0)) ∧ w.heap.size + 1 < w1.heap.size ∧ Below w.heap.size w w1 := by
  have hs := hb.size
  simp at hs
  refine ⟨⟨?_, ?_, ?_⟩, ?_, by omega, (((Below.refl w.heap.size w).alloc (Nat.le_refl _) _).alloc (by simp) _).trans (hb.mono (by simp; omega))⟩
  · rw [hb.cell (by simp; omega)]
    simp [go_sem]
  · rw [hb.cell (by simp; omega)]
    simp [go_sem]
  · rw [hb.cell (by simp; omega)]
    simp [go_sem]
  · rw [hb.block _ (by simp)]
    exact heap_newg _ _ _ (by simp)
theorem cells3 {w : World} {g : Nat} {x y z : Value} {t : TypeId} (h : w.heap[g]? = some (.cells #[x, y, z] t (0, 0))) :
    (w.cell? ⟨g, 0, none⟩ = some x ∧ w.cell? ⟨g, 1, none⟩ = some y ∧ w.cell? ⟨g, 2, none⟩ = some z) ∧ (w.frozen? ⟨g, 0, none⟩ = false ∧ w.frozen? ⟨g, 1, none⟩ = false ∧ w.frozen? ⟨g, 2, none⟩ = false) :=
  ⟨⟨cell_of_row w g 0 _ t _ h, cell_of_row w g 1 _ t _ h, cell_of_row w g 2 _ t _ h⟩, frozen_of_row w g 0 _ t h, frozen_of_row w g 1 _ t h, frozen_of_row w g 2 _ t h⟩

set_option maxHeartbeats 1600000 in
/-- cache.Merge, of what may not be. -/
theorem MergeC_bad (w : World) (own cap : Int) (A : Option Addr) (n c : Nat) (xs : List (Int × Int)) (hX : Descs w 0 w.heap.size A n xs) (B : Option Addr) (m d : Nat) (ys : List (Int × Int)) (hY : Descs w 0 w.heap.size B m ys)
    (r : Int) (hr : mergeC own cap xs ys = r) (hne : (r == 0) = false) :
    Calls Try.prog 31 #[.agg #[.int .i64 own, .int .i64 cap, .slice A n c], .slice B m d] w (CchPost w 0 0 [] r) := by
  have HLX := Lib.hid hX.len
  have HLY := Lib.hid hY.len
  have hne2 : (r != 0) = true := by simpa using hne
  have hbx := hX.big
  have hby := hY.big
  unfold mergeC at hr
  by_cases h1 : mayC own cap xs = true
  · rw [if_pos h1] at hr
    have hck : (if mayC own cap xs = true then (0 : Int) else 8) = 0 := if_pos h1
    have hl6 := ((mayC_iff own cap xs).1 h1).len
    have hn6 := ((newOk_iff own cap).1 ((mayC_iff own cap xs).1 h1).new).2.2.2
    rw [HLX.out] at hl6 hr
    rw [HLY.out] at hr
    by_cases h2 : check ys = 0
    · rw [if_pos h2] at hr
      have hm64 : m ≤ 64 := by rw [← HLY.out]; exact (check_zero h2).1
      by_cases h3 : 64 < n + m
      · rw [if_pos h3] at hr
        subst hr
        have HCK := Lib.hid hck
        have H2 := Lib.hid h2
        have h3' : (64 : Int) < (n : Int) + m := by omega
        clear hck h1 h2
        go_enter Try.func31, Try.ntmps31
        go_wp2_with fail
        refine (CheckC_any _ own cap A n c xs ((hX.alloc (Nat.le_refl _) _).alloc (by simp) _ |>.more (Nat.le_refl _) (by simp; omega)) 0 HCK.out).mono ?_
        rintro e w1 ⟨rfl, hb1, hp1⟩
        obtain ⟨⟨k1, k2, k3⟩, hk, hs1, hbb⟩ := box33 hb1
        clear hb1
        go_wp2_with fail
        refine (Check_any _ _ _ B m d ys (hY.below hbb (Nat.le_refl _)) (by omega) hp1 0 H2.out).mono ?_
        rintro e w2 ⟨rfl, hb2⟩
        have j3 := Below.keepCell hb2 (show w.heap.size < w1.heap.size by omega) k3
        have hk2 := (hb2.block (w.heap.size + 1) (by omega)).trans hk
        obtain ⟨⟨p1, p2, p3⟩, p4, p5, p6⟩ := cells3 hk2
        have hs2 := hb2.size
        have hbf := hbb.trans (hb2.mono (by omega))
        clear hb2 hbb hk hk2 k1 k2 k3
        go_wp2
        exact bodyPost_ret (v := .tuple #[.agg #[.int .i64 0, .int .i64 0, .slice none 0 0], .int .i64 4]) (by simp [results, Try.results31, go_sem, p1, p2, p3]) rfl
          ⟨none, 0, 0, 0, rfl, Nat.le_refl _, ((hbf.setCell (by simp) _).setCell (by simp) _).setCell (by simp) _, fun h => absurd h (by omega), by simp [World.setCell]; omega, Descs.nil_ ..⟩
      · rw [if_neg h3] at hr
        subst hr
        cases hne
    · rw [if_neg h2] at hr
      have HCK := Lib.hid hck
      have HR := Lib.hid hr
      clear hck h1 h2 hr
      go_enter Try.func31, Try.ntmps31
      go_wp2_with fail
      refine (CheckC_any _ own cap A n c xs ((hX.alloc (Nat.le_refl _) _).alloc (by simp) _ |>.more (Nat.le_refl _) (by simp; omega)) 0 HCK.out).mono ?_
      rintro e w1 ⟨rfl, hb1, hp1⟩
      obtain ⟨⟨k1, k2, k3⟩, hk, hs1, hbb⟩ := box33 hb1
      clear hb1
      go_wp2_with fail
      refine (Check_any _ _ _ B m d ys (hY.below hbb (Nat.le_refl _)) (by omega) hp1 r HR.out).mono ?_
      rintro e w2 ⟨rfl, hb2⟩
      have hk2 := (hb2.block (w.heap.size + 1) (by omega)).trans hk
      obtain ⟨⟨p1, p2, p3⟩, p4, p5, p6⟩ := cells3 hk2
      have hs2 := hb2.size
      have hbf := hbb.trans (hb2.mono (by omega))
      clear hb2 hbb hk hk2 k1 k2 k3
      go_wp2
      exact bodyPost_ret (v := .tuple #[.agg #[.int .i64 0, .int .i64 0, .slice none 0 0], .int .i64 r]) (by simp [results, Try.results31, go_sem, p1, p2, p3]) rfl
        ⟨none, 0, 0, 0, rfl, Nat.le_refl _, ((hbf.setCell (by simp) _).setCell (by simp) _).setCell (by simp) _, fun h => absurd h (by omega), by simp [World.setCell]; omega, Descs.nil_ ..⟩
  · rw [if_neg h1] at hr
    subst hr
    have hck : (if mayC own cap xs = true then (0 : Int) else 8) = 8 := if_neg h1
    have HCK := Lib.hid hck
    clear hck h1
    go_enter Try.func31, Try.ntmps31
    go_wp2_with fail
    refine (CheckC_any _ own cap A n c xs ((hX.alloc (Nat.le_refl _) _).alloc (by simp) _ |>.more (Nat.le_refl _) (by simp; omega)) 8 HCK.out).mono ?_
    rintro e w2 ⟨rfl, hb1, hp1⟩
    obtain ⟨⟨k1, k2, k3⟩, hk2, hs2, hbf⟩ := box33 hb1
    obtain ⟨⟨p1, p2, p3⟩, p4, p5, p6⟩ := cells3 hk2
    clear hb1 hk2 k1 k2 k3
    go_wp2
    exact bodyPost_ret (v := .tuple #[.agg #[.int .i64 0, .int .i64 0, .slice none 0 0], .int .i64 8]) (by simp [results, Try.results31, go_sem, p1, p2, p3]) rfl
      ⟨none, 0, 0, 0, rfl, Nat.le_refl _, ((hbf.setCell (by simp) _).setCell (by simp) _).setCell (by simp) _, fun h => absurd h (by omega), by simp [World.setCell]; omega, Descs.nil_ ..⟩

theorem merge_zero {own cap : Int} {xs ys : List (Int × Int)} (h : mergeC own cap xs ys = 0) : mayC own cap xs = true ∧ check ys = 0 ∧ xs.length + ys.length ≤ 64 := by
  unfold mergeC at h
  split at h
  · rename_i h1
    split at h
    · rename_i h2
      split at h
      · cases h
      · exact ⟨h1, h2, by omega⟩
    · rename_i h2
      exact absurd h h2
  · cases h

set_option maxHeartbeats 3200000 in
/-- cache.Merge, of what may be. -/
theorem MergeC_ok (w : World) (own cap : Int) (A : Option Addr) (n c : Nat) (xs : List (Int × Int)) (hX : Descs w 0 w.heap.size A n xs) (B : Option Addr) (m d : Nat) (ys : List (Int × Int)) (hY : Descs w 0 w.heap.size B m ys)
    (hr : mergeC own cap xs ys = 0) :
    Calls Try.prog 31 #[.agg #[.int .i64 own, .int .i64 cap, .slice A n c], .slice B m d] w (CchPost w own cap (taken own cap.toNat (xs ++ ys)) 0) := by
  have HLX := Lib.hid hX.len
  have HLY := Lib.hid hY.len
  obtain ⟨h1, h2, h3⟩ := merge_zero hr
  have hck : (if mayC own cap xs = true then (0 : Int) else 8) = 0 := if_pos h1
  have hl6 := ((mayC_iff own cap xs).1 h1).len
  have hn6 := (newOk_iff own cap).1 ((mayC_iff own cap xs).1 h1).new
  have hall : check (others own (xs ++ ys)) = 0 := check_ok (by have := others_len own (xs ++ ys); simp at this; omega)
    (all_may_of (l := xs ++ ys) (by rw [List.all_append, (check_zero ((mayC_iff own cap xs).1 h1).chk).2, (check_zero h2).2]; rfl) fun x hx => (others_mem.1 hx).1)
  rw [HLX.out] at hl6 h3
  rw [HLY.out] at h3
  have HCK := Lib.hid hck
  have H2 := Lib.hid h2
  have HALL := Lib.hid hall
  have hrb : Hid (resB (others own (xs ++ ys)) = best (others own (xs ++ ys))) := by rw [Hid, resB, if_pos hall]
  clear hck h1 h2 hall hr
  go_enter Try.func31, Try.ntmps31
  go_wp2_with fail
  refine (CheckC_any _ own cap A n c xs ((hX.alloc (Nat.le_refl _) _).alloc (by simp) _ |>.more (Nat.le_refl _) (by simp; omega)) 0 HCK.out).mono ?_
  rintro e w1 ⟨rfl, hb1, hp1⟩
  obtain ⟨⟨k1, k2, k3⟩, hk, hs1, hbb⟩ := box33 hb1
  clear hb1
  go_wp2_with fail
  refine (Check_any _ _ _ B m d ys (hY.below hbb (Nat.le_refl _)) (by omega) hp1 0 H2.out).mono ?_
  rintro e w2 ⟨rfl, hb2⟩
  have j1 := Below.keepCell hb2 (show w.heap.size < w1.heap.size by omega) k1
  have j2 := Below.keepCell hb2 (show w.heap.size < w1.heap.size by omega) k2
  have j3 := Below.keepCell hb2 (show w.heap.size < w1.heap.size by omega) k3
  have hk2 := (hb2.block (w.heap.size + 1) (by omega)).trans hk
  have hs2 := hb2.size
  have hbf := hbb.trans (hb2.mono (by omega))
  have hX2 := hX.below hbf (Nat.le_refl _)
  have hY2 := hY.below hbf (Nat.le_refl _)
  have j3a : ∀ o, (w2.alloc o).cell? ⟨w.heap.size, 2, none⟩ = some (.slice A n c) := fun o => (World.cell?_alloc_lt _ _ _ (show w.heap.size < w2.heap.size by omega)).trans j3
  clear hb2 hbb hk k1 k2 k3
  go_wp2_with fail
  have hXk := ((hX2.alloc (by omega) (.cells #[.int .i64 own, .int .i64 cap, .slice A n c] 92)).alloc (by simp; omega) (.cells #[.slice A n c, .slice B m d] 22)).more (lo' := 0) (hi' := w2.heap.size + 2) (Nat.le_refl _) (by omega)
  have hYk := ((hY2.alloc (by omega) (.cells #[.int .i64 own, .int .i64 cap, .slice A n c] 92)).alloc (by simp; omega) (.cells #[.slice A n c, .slice B m d] 22)).more (lo' := 0) (hi' := w2.heap.size + 2) (Nat.le_refl _) (by omega)
  refine (kbest_two _ (by simp) own cap A n c _ A B n c m d xs ys (by simp) (by simp [go_sem]) (by simp [go_sem]) (by simpa using hXk) (by simpa using hYk) (by omega) 0 HALL.out).mono ?_
  rintro e w3 ⟨A3, n3, c3, rb, rfl, hc3, hb3, hr3, hr3', hD3⟩
  rw [hrb.out] at hD3
  have hs3 := hb3.size
  simp at hs3
  have hbf3 := ((hbf.alloc (by omega) _).alloc (by simp; omega) _).trans (hb3.mono (by simp; omega))
  have i1 : w3.cell? ⟨w.heap.size, 1, none⟩ = some (.int .i64 cap) := Below.keepCell hb3 (by simp; omega) ((World.cell?_alloc_lt _ _ _ (show w.heap.size < _ by simp; omega)).trans ((World.cell?_alloc_lt _ _ _ (show w.heap.size < w2.heap.size by omega)).trans j2))
  have hk3 : w3.heap[w.heap.size + 1]? = some (.cells #[.int .i64 0, .int .i64 0, .slice none 0 0] 43 (0, 0)) := (hb3.block _ (by simp; omega)).trans ((Below.heap_alloc _ _ _ (by simp; omega)).trans ((Below.heap_alloc _ _ _ (by omega)).trans hk2))
  have hkb : w3.heap[w2.heap.size]? = some (.cells #[.int .i64 own, .int .i64 cap, .slice A n c] 92 (0, 0)) := (hb3.block _ (by simp; omega)).trans ((Below.heap_alloc _ _ _ (by simp)).trans (heap_newg _ _ _ rfl))
  obtain ⟨⟨p1, p2, p3⟩, p4, p5, p6⟩ := cells3 hk3
  obtain ⟨⟨q1, q2, q3⟩, q4, q5, q6⟩ := cells3 hkb
  have hne1 : w.heap.size ≠ w2.heap.size := by omega
  have hne2 : w.heap.size + 1 ≠ w2.heap.size := by omega
  have hne3 : w2.heap.size ≠ w.heap.size := by omega
  have hne4 : w2.heap.size ≠ w.heap.size + 1 := by omega
  clear hb3 hk3 hkb hk2 j1 j2 j3 j3a
  obtain ⟨rb', u1, u2, hD4⟩ : ∃ rb', w2.heap.size + 1 ≤ rb' ∧ rb' < w3.heap.size ∧ Descs w3 rb' (rb' + 1) A3 n3 (best (others own (xs ++ ys))) := by
    by_cases h : 0 < n3
    · have := hr3 h
      simp at this
      exact ⟨rb, by omega, hr3', hD3⟩
    · obtain rfl : n3 = 0 := by omega
      rw [hD3.zero rfl]
      exact ⟨w3.heap.size - 1, by omega, by omega, Descs.nil_ ..⟩
  have hlen := Lib.hid hD4.len
  clear hD3 hr3 hr3' hXk hYk
  obtain ⟨cp, rfl⟩ : ∃ cp : Nat, cap = cp := ⟨cap.toNat, by omega⟩
  by_cases hmin : n3 ≤ cp
  · have hmn : min (n3 : Int) cp = n3 := by omega
    have htk : Hid (taken own ((cp : Int).toNat) (xs ++ ys) = best (others own (xs ++ ys))) := by rw [Hid, taken, List.take_of_length_le (by rw [hlen.out]; omega)]
    go_wp2
    refine bodyPost_ret (v := .tuple #[.agg #[.int .i64 own, .int .i64 cp, .slice A3 n3 c3], .int .i64 0]) (by simp [results, Try.results31, go_sem, p1, p2, p3]) rfl
      ⟨A3, n3, c3, rb', rfl, hc3, ?_, fun _ => by omega, ?_, ?_⟩
    · repeat (refine Below.setCell ?_ (by simp; try omega) _)
      exact hbf3
    · simp [World.setCell]
      omega
    · rw [htk.out]
      repeat (refine Descs.far ?_ (by simp; omega) _)
      exact hD4
  · have hmn : min (n3 : Int) cp = cp := by omega
    have htk : Hid (taken own ((cp : Int).toNat) (xs ++ ys) = (best (others own (xs ++ ys))).take cp) := by rw [Hid, taken, Int.toNat_natCast]
    have hcc : (cp : Int) ≤ c3 := by omega
    have hD5 := hD4.take_ (m := cp) (by omega)
    go_wp2
    refine bodyPost_ret (v := .tuple #[.agg #[.int .i64 own, .int .i64 cp, .slice A3 cp c3], .int .i64 0]) (by simp [results, Try.results31, go_sem, p1, p2, p3]) rfl
      ⟨A3, cp, c3, rb', rfl, by omega, ?_, fun _ => by omega, ?_, ?_⟩
    · repeat (refine Below.setCell ?_ (by simp; try omega) _)
      exact hbf3
    · simp [World.setCell]
      omega
    · rw [htk.out]
      repeat (refine Descs.far ?_ (by simp; omega) _)
      exact hD5
end De
end Go.Proofs.Ytpjomdkcckamkaa
