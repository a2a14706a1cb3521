/- The reference's caches: check, told, offer; what is written over: walks. -/
/- The reference's caches: taken, merge: walks. -/
/- The reference's caches: merge: a walk. -/
import Derived.Test.YtpjomdkcckamkaaCaRef7
namespace Go.Proofs.Ytpjomdkcckamkaa
open Go.RowKit Go.Sort Go.Shelf
namespace De
set_option maxHeartbeats 800000 in
/-- headcountref08.Check. -/
theorem CheckR8_any (w : World) (own cap : Int) (A : Option Addr) (n c : Nat) (xs : List (Int × Int)) (hX : Descs w 0 w.heap.size A n xs) (hn : n ≤ 1000) (r : Int) (hr : (if mayC own cap xs = true then 0 else 8) = r) :
    Calls Try.prog 41 #[.agg #[.int .i64 own, .int .i64 cap, .slice A n c]] w fun e w' => e = .returned (.int .i64 r) ∧ Below w.heap.size w w' ∧ 0 < w'.heap.size := by
  have hX1 : Descs (w.alloc (.cells #[.int .i64 own, .int .i64 cap, .slice A n c] 43)) 0 (w.alloc (.cells #[.int .i64 own, .int .i64 cap, .slice A n c] 43)).heap.size A n xs := (hX.alloc (Nat.le_refl _) _).more (Nat.le_refl _) (by simp)
  obtain ⟨b, hb⟩ : ∃ b, mayC own cap xs = b := ⟨_, rfl⟩
  have HB := Lib.hid hb
  rw [hb] at hr
  clear hb
  cases b
  all_goals
    simp at hr
    subst hr
    go_enter Try.func41, Try.ntmps41
    go_wp2_with fail
    refine (MayR_any _ own cap A n c xs hX1 (by omega) _ HB.out).mono ?_
    rintro e w1 ⟨rfl, hb1, hp1⟩
    obtain ⟨_, hs1, hbb⟩ := box3 hb1
    clear hb1 hX1
    go_wp2
    go_ret
    exact ⟨rfl, hbb, hp1⟩

set_option maxHeartbeats 1600000 in
set_option maxRecDepth 100000 in
/-- headcountref08.Told. -/
theorem ToldR_any (w : World) (own cap now : Int) (hrg : Rng (own, now)) (A : Option Addr) (n c : Nat) (xs : List (Int × Int)) (hX : Descs w 0 w.heap.size A n xs) (hn : n ≤ 1000) :
    Calls Try.prog 72 #[.agg #[.int .i64 own, .int .i64 cap, .slice A n c], .int .i64 now] w fun e w' => ∃ A' c', e = .returned (.slice A' (1 + n) c') ∧ 1 + n ≤ c' ∧ Below w.heap.size w w' ∧ w.heap.size < w'.heap.size ∧ Descs w' w.heap.size w'.heap.size A' (1 + n) (srt ((own, now) :: xs)) := by
  have hxw := Lib.hid hX.wf
  have hrg' := Lib.hid hrg
  have hX1 := hX.alloc (Nat.le_refl _) (.cells #[.int .i64 own, .int .i64 cap, .slice A n c] 43)
  obtain ⟨i0, hi0, hz0, hz1, hz2⟩ := info_parts Try.info29
  clear hrg
  go_enter Try.func72, Try.ntmps72
  go_wp2_with (first
    | (at_builtin; refine wpList_append_raw _ rfl (.tmp 9) (.tmp 11) 22 rfl (w.heap.size + 1) 29 i0 _ 2 16 Try.underlying22 hi0 hz0 hz1 hz2 rfl (by decide) _ _ _ rfl (own_one (heap_newg _ _ _ (by simp)) (by simp)) _ _ _ n _ _ rfl (hX1.alloc (by simp) _).raw (flatD_one _) ?c2 ?c3 ?c4 ?_))
  case c2 => unfold maxLen; omega
  case c3 => omega
  case c4 => simp
  intro A2 c2 w2 hown2 hg2 _
  rw [← flatD_append] at hown2
  have hb2 : Below w.heap.size w w2 := (((Below.refl _ w).alloc (Nat.le_refl _) _).alloc (by simp) _).grown hg2 (by simp; omega) (fun q hq => by simp [Value.ownBlock] at hq; omega)
  have hs2 := hg2.size
  simp at hs2
  have hD2 := Descs.of_own hown2 (fun x hx => by
    rcases List.mem_cons.1 hx with rfl | hx
    · exact hrg'.out
    · exact hxw.out x hx) (by omega)
  clear hown2 hg2 hX1
  go_wp2_with fail
  refine (SortedR_any _ _ _ A2 (1 + n) c2 ((own, now) :: xs) hD2 (Nat.le_refl _) (by omega)).mono ?_
  rintro e w3 ⟨A3, c3, rfl, hc3, hb3, hD3⟩
  have hcf := hb2.trans (hb3.mono (by omega))
  have hs3 := hb3.size
  have hD3 := hD3.more (lo' := w.heap.size) (by omega) (Nat.le_refl _)
  clear hb3 hD2 hb2
  go_wp2
  go_ret
  exact ⟨A3, c3, rfl, hc3, hcf, by omega, hD3⟩

set_option maxHeartbeats 1600000 in
set_option maxRecDepth 100000 in
/-- headcountref08.Offer. -/
theorem OfferR_any (w : World) (own cap now : Int) (A : Option Addr) (n c : Nat) (xs : List (Int × Int)) (hX : Descs w 0 w.heap.size A n xs) (hn : n ≤ 1000) (r : Int) (hr : offerC own cap xs now = r) :
    Calls Try.prog 39 #[.agg #[.int .i64 own, .int .i64 cap, .slice A n c], .int .i64 now] w (LstPost w (offerL own cap xs now) r) := by
  have HR := Lib.hid hr
  have hX1 : Descs (w.alloc (.cells #[.int .i64 own, .int .i64 cap, .slice A n c] 43)) 0 (w.alloc (.cells #[.int .i64 own, .int .i64 cap, .slice A n c] 43)).heap.size A n xs := (hX.alloc (Nat.le_refl _) _).more (Nat.le_refl _) (by simp)
  by_cases hz : r = 0
  · subst hz
    obtain ⟨hm, hn1, hn2⟩ := offer_zero hr
    have HM := Lib.hid ((mayC_iff _ _ _).2 hm)
    have hof : Hid (offerL own cap xs now = srt ((own, now) :: xs)) := by rw [Hid, offerL, if_pos hr]; rfl
    have hrg : Rng (own, now) := by
      have := (newOk_iff own cap).1 hm.new
      exact ⟨⟨by simp only; omega, by simp only; omega⟩, by simp only; omega, by simp only; omega⟩
    have hrg' := Lib.hid hrg
    clear hr hm hrg
    go_enter Try.func39, Try.ntmps39
    go_wp2_with fail
    refine (MayR_any _ own cap A n c xs hX1 (by omega) _ HM.out).mono ?_
    rintro e w1 ⟨rfl, hb1, hp1⟩
    obtain ⟨⟨k1, k2, k3⟩, hs1, hbb⟩ := box3 hb1
    have X1 := (hX.below hbb (Nat.le_refl _)).more (Nat.le_refl _) (by omega : w.heap.size ≤ w1.heap.size)
    clear hb1 hX1
    go_wp2_with fail
    refine (ToldR_any w1 own cap now hrg'.out A n c xs X1 hn).mono ?_
    rintro e w2 ⟨A2, c2, rfl, hc2, hb2, hs2, D2⟩
    obtain ⟨rb, q1, q2, q3⟩ := exact_own D2 (by omega)
    have hcf := hbb.trans (hb2.mono (by omega))
    clear hb2 D2 hbb X1 k1 k2 k3
    go_wp2
    go_ret2
    exact ⟨A2, 1 + n, c2, rb, rfl, hc2, hcf, fun h => by have := q1 h; omega, q2, by rw [hof.out]; exact q3⟩
  · have hof : Hid (offerL own cap xs now = []) := by rw [Hid, offerL, if_neg (by rw [hr]; exact hz)]
    unfold offerC at hr
    by_cases h1 : mayC own cap xs = true
    · rw [if_pos h1] at hr
      have HM := Lib.hid h1
      by_cases hnow : now < 0
      · rw [if_pos (.inl hnow)] at hr
        subst hr
        clear h1 hz
        go_enter Try.func39, Try.ntmps39
        go_wp2_with fail
        refine (MayR_any _ own cap A n c xs hX1 (by omega) _ HM.out).mono ?_
        rintro e w1 ⟨rfl, hb1, hp1⟩
        obtain ⟨_, hs1, hbb⟩ := box3 hb1
        clear hb1 hX1
        go_wp2
        go_ret2
        exact ⟨none, 0, 0, 0, rfl, Nat.le_refl _, hbb, fun h => absurd h (by omega), hp1, by rw [hof.out]; exact Descs.nil_ ..⟩
      · by_cases hnow2 : 2147483647 < now
        · rw [if_pos (.inr hnow2)] at hr
          subst hr
          clear h1 hz
          go_enter Try.func39, Try.ntmps39
          go_wp2_with fail
          refine (MayR_any _ own cap A n c xs hX1 (by omega) _ HM.out).mono ?_
          rintro e w1 ⟨rfl, hb1, hp1⟩
          obtain ⟨_, hs1, hbb⟩ := box3 hb1
          clear hb1 hX1
          go_wp2
          go_ret2
          exact ⟨none, 0, 0, 0, rfl, Nat.le_refl _, hbb, fun h => absurd h (by omega), hp1, by rw [hof.out]; exact Descs.nil_ ..⟩
        · rw [if_neg (by omega)] at hr
          exact absurd hr.symm hz
    · rw [if_neg h1] at hr
      subst hr
      have hf : mayC own cap xs = false := Bool.eq_false_iff.2 h1
      have HM := Lib.hid hf
      clear h1 hz hf
      go_enter Try.func39, Try.ntmps39
      go_wp2_with fail
      refine (MayR_any _ own cap A n c xs hX1 (by omega) _ HM.out).mono ?_
      rintro e w1 ⟨rfl, hb1, hp1⟩
      obtain ⟨_, hs1, hbb⟩ := box3 hb1
      clear hb1 hX1
      go_wp2
      go_ret2
      exact ⟨none, 0, 0, 0, rfl, Nat.le_refl _, hbb, fun h => absurd h (by omega), hp1, by rw [hof.out]; exact Descs.nil_ ..⟩

set_option maxHeartbeats 400000 in
/-- headcountlaw08.spoil: just the block of the list is written. -/
theorem spoil_any (w : World) (A : Option Addr) (n c : Nat) (hn : n ≤ 1000) (g : Nat) (hw : WrA w g A n) :
    Calls Try.prog 43 #[.slice A n c] w fun e w' => e = .returned (.tuple #[]) ∧ WrA w' g A n ∧ w.grownBy w' (some g) := by
  go_enter Try.func43, Try.ntmps43
  go_wp2
  go_loopw [2] (fun iv wr => ∃ k : Nat, iv = .int .i64 k ∧ k ≤ n ∧ WrA wr g A n ∧ w.grownBy wr (some g)) (fun iv _ => n - (intOf iv).toNat)
  case atStart => exact ⟨0, rfl, Nat.zero_le _, hw, World.grownBy.refl _ _⟩
  case round =>
    obtain ⟨k, rfl, hk, hw1, hg1⟩ := hrel
    by_cases hlt : k < n
    · obtain ⟨off, u, rfl, e1, e2⟩ := hw1 k hlt
      have hw2 := hw1.set_ ⟨g, off + k * 2, none⟩ (.int .i64 (-7))
      have hg2 := only_setCell (p := ⟨g, off + k * 2, none⟩) hg1 rfl (.int .i64 (-7))
      clear hw1 hg1 hw
      go_wp2
      go_roundw
      case rel => exact ⟨k + 1, by go_num, by omega, hw2, hg2⟩
      case measure => simp [intOf]; omega
    · obtain rfl : k = n := by omega
      clear hw
      go_wp2
      go_end0
      exact ⟨rfl, hw1, hg1⟩
end De
end Go.Proofs.Ytpjomdkcckamkaa

namespace Go.Proofs.Ytpjomdkcckamkaa
open Go.RowKit Go.Sort Go.Shelf
namespace De
theorem size_drew (w : World) : w.drew.heap.size = w.heap.size := rfl
theorem heap_newd (w : World) (o : Obj) (g : Nat) (h : g = w.heap.size) : (w.alloc o).drew.heap[g]? = some o := heap_newg w o g h
set_option maxHeartbeats 3200000 in
set_option maxRecDepth 100000 in
/-- headcountref08.Taken. -/
theorem TakenR_any (w : World) (own cap : Int) (h0 : 0 ≤ cap) (h6 : cap ≤ 1000) (A : Option Addr) (n c : Nat) (xs : List (Int × Int)) (hX : Descs w 0 w.heap.size A n xs) (hn : n ≤ 1000) (B : Option Addr) (m d : Nat) (ys : List (Int × Int)) (hY : Descs w 0 w.heap.size B m ys) (hm : m ≤ 1000) :
    Calls Try.prog 71 #[.agg #[.int .i64 own, .int .i64 cap, .slice A n c], .slice B m d] w fun e w' => ∃ A' n' c', e = .returned (.agg #[.int .i64 own, .int .i64 cap, .slice A' n' c']) ∧ n' ≤ c' ∧ Below w.heap.size w w' ∧ w.heap.size < w'.heap.size ∧ Descs w' w.heap.size w'.heap.size A' n' (taken own cap.toNat (xs ++ ys)) := by
  have hwf : ∀ x ∈ xs ++ ys, Rng x := fun x hx => by
    rcases List.mem_append.1 hx with hx | hx
    · exact hX.wf x hx
    · exact hY.wf x hx
  have HWF := Lib.hid hwf
  have mixed : Try.prog.follows .mixedOrders = true := by kernel_rfl
  obtain ⟨i0, hi0, hz0, hz1, hz2⟩ := info_parts Try.info29
  obtain ⟨u, hu⟩ : ∃ u : World, (w.alloc (.cells #[.int .i64 own, .int .i64 cap, .slice A n c] 43)).alloc (.cells #[.int .i64 0, .int .i64 0, .slice none 0 0] 43) = u := ⟨_, rfl⟩
  have hbu : Below w.heap.size w u := by rw [← hu]; exact ((Below.refl _ w).alloc (Nat.le_refl _) _).alloc (by simp) _
  have hsu : w.heap.size + 2 ≤ u.heap.size := by rw [← hu]; simp
  have C : u.heap[w.heap.size]? = some (.cells #[.int .i64 own, .int .i64 cap, .slice A n c] 43 (0, 0)) := by rw [← hu]; exact heapAlloc _ (heap_newg _ _ _ rfl)
  have Z : u.heap[w.heap.size + 1]? = some (.cells #[.int .i64 0, .int .i64 0, .slice none 0 0] 43 (0, 0)) := by rw [← hu]; exact heap_newg _ _ _ (by simp)
  have X := hX.below hbu (Nat.le_refl _)
  have Y := hY.below hbu (Nat.le_refl _)
  have HU := Lib.hid hu
  obtain ⟨⟨k1, k2, k3⟩, _⟩ := cells3 C
  clear hwf hu hX hY
  go_enter Try.func71, Try.ntmps71
  go_wp2_with fail
  rw [HU.out]
  go_region_held3 (fun w' => w'.cell? ⟨w.heap.size, 0, none⟩ = some (.int .i64 own) ∧ w'.cell? ⟨w.heap.size, 1, none⟩ = some (.int .i64 cap) ∧ w'.cell? ⟨w.heap.size, 2, none⟩ = some (.slice A n c))
    (first | go_keep | (go_split_ands; exact ⟨s1, s2, s3⟩) | (go_split_ands; exact ⟨(World.cell?_alloc_lt _ _ _ (show w.heap.size < _ by first | omega | (simp; omega))).trans s1, (World.cell?_alloc_lt _ _ _ (show w.heap.size < _ by first | omega | (simp; omega))).trans s2, (World.cell?_alloc_lt _ _ _ (show w.heap.size < _ by first | omega | (simp; omega))).trans s3⟩) | fail)
    (first
      | (go_at_call 83; refine Calls.mono (OthersR_any _ _ _ G2 (n + m) g2 (xs ++ ys) R (Nat.le_refl _) own (by omega)) ?_; rintro e u3 ⟨A1, n1, c1, rfl, hc1, hn1, hb3, hD1⟩; have hb3 := hb2.trans (hb3.mono (by omega)); (try clear s1 s2 s3); have s1 := Below.keepCell hb3 (show w.heap.size < u.heap.size by omega) k1; have s2 := Below.keepCell hb3 (show w.heap.size < u.heap.size by omega) k2; have s3 := Below.keepCell hb3 (show w.heap.size < u.heap.size by omega) k3; have hzz3 := hb3.size)
      | (go_at_call 65; refine Calls.mono (SortedR_any _ _ _ A1 n1 c1 _ hD1 (Nat.le_refl _) (by omega)) ?_; rintro e u4 ⟨A2, c2, rfl, hc2, hb4, hD2⟩; have hb4 := hb3.trans (hb4.mono (by omega)); (try clear s1 s2 s3); have s1 := Below.keepCell hb4 (show w.heap.size < u.heap.size by omega) k1; have s2 := Below.keepCell hb4 (show w.heap.size < u.heap.size by omega) k2; have s3 := Below.keepCell hb4 (show w.heap.size < u.heap.size by omega) k3; have hzz4 := hb4.size)
      | (go_at_call 66; refine Calls.mono (FirstsR_any _ _ _ A2 n1 c2 _ hD2 (Nat.le_refl _) (by omega)) ?_; rintro e u5 ⟨A3, n3, c3, rfl, hc3, hn3, hb5, hD3⟩; have hb5 := hb4.trans (hb5.mono (by omega)); (try clear s1 s2 s3); have s1 := Below.keepCell hb5 (show w.heap.size < u.heap.size by omega) k1; have s2 := Below.keepCell hb5 (show w.heap.size < u.heap.size by omega) k2; have s3 := Below.keepCell hb5 (show w.heap.size < u.heap.size by omega) k3; have hzz5 := hb5.size)
      | (refine step_append_raw (by rfl) (.tmp 6) (.tmp 8) 22 (by rfl) u.heap.size 29 i0 _ 2 16 Try.underlying22 hi0 hz0 hz1 hz2 (by rfl) (by decide) _ _ _ (by rfl) (own_new (by first | exact heap_newd _ _ _ rfl | exact heap_newg _ _ _ rfl | exact (Below.heap_alloc _ _ _ (by simp)).trans (heap_newg _ _ _ (by simp))) (by first | omega | exact Nat.le_refl _ | (simp; done) | (simp; omega) | (simp only [size_drew]; first | omega | (simp; done) | (simp; omega)))) _ _ _ n _ (flatD xs) (by rfl) (X.below (B := u.heap.size) (by repeat (first | exact Below.refl _ _ | assumption | (refine Below.drew ?_) | (refine Below.alloc ?_ (by first | omega | exact Nat.le_refl _ | (simp; done) | (simp; omega) | (simp only [size_drew]; first | omega | (simp; done) | (simp; omega))) _))) (by first | omega | exact Nat.le_refl _ | (simp; done) | (simp; omega) | (simp only [size_drew]; first | omega | (simp; done) | (simp; omega)))).raw (flatD_one _) (by unfold maxLen; omega) (by omega) (by first | omega | exact Nat.le_refl _ | (simp; done) | (simp; omega) | (simp only [size_drew]; first | omega | (simp; done) | (simp; omega))) ?_; intro G1 g1 u1 hown1 hgr1 _; (try simp only [List.nil_append] at hown1); have hb1 : Below u.heap.size u u1 := Below.grown (by repeat (first | exact Below.refl _ _ | assumption | (refine Below.drew ?_) | (refine Below.alloc ?_ (by first | omega | exact Nat.le_refl _ | (simp; done) | (simp; omega) | (simp only [size_drew]; first | omega | (simp; done) | (simp; omega))) _))) hgr1 (by first | omega | exact Nat.le_refl _ | (simp; done) | (simp; omega) | (simp only [size_drew]; first | omega | (simp; done) | (simp; omega))) (fun q hq => by simp [Value.ownBlock] at hq; omega); (try clear s1 s2 s3); have s1 := Below.keepCell hb1 (show w.heap.size < u.heap.size by omega) k1; have s2 := Below.keepCell hb1 (show w.heap.size < u.heap.size by omega) k2; have s3 := Below.keepCell hb1 (show w.heap.size < u.heap.size by omega) k3; have hzz1 := hb1.size; clear hgr1)
      | (refine step_append_raw (by rfl) (.tmp 9) (.tmp 10) 22 (by rfl) u.heap.size 29 i0 _ 2 16 Try.underlying22 hi0 hz0 hz1 hz2 (by rfl) (by decide) _ _ _ (by rfl) (by first | exact hown1 | exact hown1.alloc _ | exact (hown1 : World.ownsRow (World.drew _) _ _ _ _ _ _)) _ _ _ m _ (flatD ys) (by rfl) (Y.below (B := u.heap.size) (by repeat (first | exact Below.refl _ _ | assumption | (refine Below.drew ?_) | (refine Below.alloc ?_ (by first | omega | exact Nat.le_refl _ | (simp; done) | (simp; omega) | (simp only [size_drew]; first | omega | (simp; done) | (simp; omega))) _))) (by first | omega | exact Nat.le_refl _ | (simp; done) | (simp; omega) | (simp only [size_drew]; first | omega | (simp; done) | (simp; omega)))).raw (flatD_one _) (by unfold maxLen; omega) (by omega) (by first | omega | exact Nat.le_refl _ | (simp; done) | (simp; omega) | (simp only [size_drew]; first | omega | (simp; done) | (simp; omega))) ?_; intro G2 g2 u2 hown2 hgr2 _; have hb2 : Below u.heap.size u u2 := Below.grown (by repeat (first | exact Below.refl _ _ | assumption | (refine Below.drew ?_) | (refine Below.alloc ?_ (by first | omega | exact Nat.le_refl _ | (simp; done) | (simp; omega) | (simp only [size_drew]; first | omega | (simp; done) | (simp; omega))) _))) hgr2 (by first | omega | exact Nat.le_refl _ | (simp; done) | (simp; omega) | (simp only [size_drew]; first | omega | (simp; done) | (simp; omega))) (fun q hq => (hown1.lt q hq).1); (try clear s1 s2 s3); have s1 := Below.keepCell hb2 (show w.heap.size < u.heap.size by omega) k1; have s2 := Below.keepCell hb2 (show w.heap.size < u.heap.size by omega) k2; have s3 := Below.keepCell hb2 (show w.heap.size < u.heap.size by omega) k3; have hzz2 := hb2.size; have R : Descs u2 u.heap.size u2.heap.size G2 (n + m) (xs ++ ys) := (by first | exact Descs.of_own (by rw [flatD_append]; exact hown2) HWF.out (by omega) | simpa using (Descs.of_own (by rw [flatD_append]; exact hown2) HWF.out (by omega) : Descs u2 u.heap.size u2.heap.size G2 (0 + n + m) (xs ++ ys))); clear hgr2 hb1 hown1 hown2)
      | (go_at_call 83; fail))
  all_goals
    have C5 := Below.heapOf hb5 (by omega) C
    have Z5 := Below.heapOf hb5 (by omega) Z
    have hbf := hbu.trans (hb5.mono (by omega))
    have e : firsts [] (srt (others own (xs ++ ys))) = best (others own (xs ++ ys)) := rfl
    rw [e] at hD3
    have D := hD3.more (lo' := w.heap.size + 2) (hi' := u5.heap.size) (by omega) (Nat.le_refl _)
    obtain ⟨⟨p1, p2, p3⟩, p4, p5, p6⟩ := cells3 C5
    obtain ⟨⟨q1, q2, q3⟩, q4, q5, q6⟩ := cells3 Z5
    have hne1 : w.heap.size ≠ w.heap.size + 1 := by omega
    have hne2 : w.heap.size + 1 ≠ w.heap.size := by omega
    have hs5 := hb5.size
    have hlen := Lib.hid D.len
    clear s1 s2 s3 k1 k2 k3 hD1 hD2 hD3 hb2 hb3 hb4 hb5 C5 Z5 C Z X Y e R HU
    obtain ⟨cp, rfl⟩ : ∃ cp : Nat, cap = cp := ⟨cap.toNat, by omega⟩
    by_cases hmin : n3 ≤ cp
    · have hmn : min (n3 : Int) cp = n3 := by omega
      have htk : Hid (taken own ((cp : Int).toNat) (xs ++ ys) = best (others own (xs ++ ys))) := by rw [Hid, taken, List.take_of_length_le (by rw [hlen.out]; omega)]
      go_wp2
      refine bodyPost_ret (v := .agg #[.int .i64 own, .int .i64 cp, .slice A3 n3 c3]) (by simp [results, Try.results71, go_sem, q1, q2, q3]) rfl ⟨A3, n3, c3, rfl, hc3, ?_, ?_, ?_⟩
      · repeat (refine Below.setCell ?_ (by simp; try omega) _)
        exact hbf
      · simp [World.setCell]
        omega
      · rw [htk.out]
        refine Descs.more (lo := w.heap.size + 2) (hi := u5.heap.size) ?_ (by omega) (by simp [World.setCell])
        repeat (refine Descs.far ?_ (by simp; try omega) _)
        exact D
    · have hmn : min (n3 : Int) cp = cp := by omega
      have htk : Hid (taken own ((cp : Int).toNat) (xs ++ ys) = (best (others own (xs ++ ys))).take cp) := by rw [Hid, taken, Int.toNat_natCast]
      have hcc : (cp : Int) ≤ c3 := by omega
      have D5 := D.take_ (m := cp) (by omega)
      go_wp2
      refine bodyPost_ret (v := .agg #[.int .i64 own, .int .i64 cp, .slice A3 cp c3]) (by simp [results, Try.results71, go_sem, q1, q2, q3]) rfl ⟨A3, cp, c3, rfl, by omega, ?_, ?_, ?_⟩
      · repeat (refine Below.setCell ?_ (by simp; try omega) _)
        exact hbf
      · simp [World.setCell]
        omega
      · rw [htk.out]
        refine Descs.more (lo := w.heap.size + 2) (hi := u5.heap.size) ?_ (by omega) (by simp [World.setCell])
        repeat (refine Descs.far ?_ (by simp; try omega) _)
        exact D5
end De
end Go.Proofs.Ytpjomdkcckamkaa

namespace Go.Proofs.Ytpjomdkcckamkaa
open Go.RowKit Go.Sort Go.Shelf
namespace De
set_option maxHeartbeats 3200000 in
theorem MergeR_bad (w : World) (own cap : Int) (A : Option Addr) (n c : Nat) (xs : List (Int × Int)) (hX : Descs w 0 w.heap.size A n xs) (hn : n ≤ 1000) (B : Option Addr) (m d : Nat) (ys : List (Int × Int)) (hY : Descs w 0 w.heap.size B m ys)
    (r : Int) (hr : mergeC own cap xs ys = r) (hne : (r == 0) = false) :
    Calls Try.prog 38 #[.agg #[.int .i64 own, .int .i64 cap, .slice A n c], .slice B m d] w (CchPost w 0 0 [] r) := by
  have HLX := Lib.hid hX.len
  have HLY := Lib.hid hY.len
  have hne2 : (r != 0) = true := by simpa using hne
  have hbx := hX.big
  have hby := hY.big
  have hX1 := ((hX.alloc (Nat.le_refl _) (.cells #[.int .i64 own, .int .i64 cap, .slice A n c] 43)).alloc (by simp) (.cells #[.int .i64 0, .int .i64 0, .slice none 0 0] 43) |>.more (lo' := 0) (hi' := ((w.alloc (.cells #[.int .i64 own, .int .i64 cap, .slice A n c] 43)).alloc (.cells #[.int .i64 0, .int .i64 0, .slice none 0 0] 43)).heap.size) (Nat.le_refl _) (by simp; omega))
  unfold mergeC at hr
  by_cases h1 : mayC own cap xs = true
  · rw [if_pos h1] at hr
    have hl6 := ((mayC_iff own cap xs).1 h1).len
    have hn6 := ((newOk_iff own cap).1 ((mayC_iff own cap xs).1 h1).new).2.2.2
    rw [HLX.out] at hl6 hr
    rw [HLY.out] at hr
    have HCK := Lib.hid h1
    by_cases h2 : check ys = 0
    · rw [if_pos h2] at hr
      have hm64 : m ≤ 64 := by rw [← HLY.out]; exact (check_zero h2).1
      by_cases h3 : 64 < n + m
      · rw [if_pos h3] at hr
        subst hr
        have H2 := Lib.hid h2
        have h3' : (64 : Int) < (n : Int) + m := by omega
        clear h1 h2
        go_enter Try.func38, Try.ntmps38
        go_wp2_with fail
        refine (MayR_any _ own cap A n c xs hX1 (by omega) _ HCK.out).mono ?_
        rintro e w1 ⟨rfl, hb1, hp1⟩
        obtain ⟨⟨k1, k2, k3⟩, hk, hs1, hbb⟩ := box33 hb1
        clear hb1 hX1
        go_wp2_with fail
        refine (CheckR_g _ _ _ B m d ys (hY.below hbb (Nat.le_refl _)) (by omega) 0 H2.out).mono ?_
        rintro e w2 ⟨rfl, hg2⟩
        have hb2 := hg2.below
        have j3 := Below.keepCell hb2 (show w.heap.size < w1.heap.size by omega) k3
        have hk2 := (hb2.block (w.heap.size + 1) (by omega)).trans hk
        obtain ⟨⟨p1, p2, p3⟩, p4, p5, p6⟩ := cells3 hk2
        have hs2 := hb2.size
        have hbf := hbb.trans (hb2.mono (by omega))
        clear hb2 hg2 hbb hk hk2 k1 k2 k3
        go_wp2
        exact bodyPost_ret (v := .tuple #[.agg #[.int .i64 0, .int .i64 0, .slice none 0 0], .int .i64 4]) (by simp [results, Try.results38, go_sem, p1, p2, p3]) rfl
          ⟨none, 0, 0, 0, rfl, Nat.le_refl _, ((hbf.setCell (by simp) _).setCell (by simp) _).setCell (by simp) _, fun h => absurd h (by omega), by simp [World.setCell]; omega, Descs.nil_ ..⟩
      · rw [if_neg h3] at hr
        subst hr
        cases hne
    · rw [if_neg h2] at hr
      have HR := Lib.hid hr
      clear h1 h2 hr
      go_enter Try.func38, Try.ntmps38
      go_wp2_with fail
      refine (MayR_any _ own cap A n c xs hX1 (by omega) _ HCK.out).mono ?_
      rintro e w1 ⟨rfl, hb1, hp1⟩
      obtain ⟨⟨k1, k2, k3⟩, hk, hs1, hbb⟩ := box33 hb1
      clear hb1 hX1
      go_wp2_with fail
      refine (CheckR_g _ _ _ B m d ys (hY.below hbb (Nat.le_refl _)) (by omega) r HR.out).mono ?_
      rintro e w2 ⟨rfl, hg2⟩
      have hb2 := hg2.below
      have hk2 := (hb2.block (w.heap.size + 1) (by omega)).trans hk
      have hs2 := hb2.size
      have hbf := hbb.trans (hb2.mono (by omega))
      clear hb2 hg2 hbb hk k1 k2 k3
      go_wp2_with fail
      refine (CheckR_g _ _ _ B m d ys (hY.below hbf (Nat.le_refl _)) (by omega) r HR.out).mono ?_
      rintro e w3 ⟨rfl, hg3⟩
      have hb3 := hg3.below
      have hk3 := (hb3.block (w.heap.size + 1) (by omega)).trans hk2
      obtain ⟨⟨p1, p2, p3⟩, p4, p5, p6⟩ := cells3 hk3
      have hs3 := hb3.size
      have hbf := hbf.trans (hb3.mono (by omega))
      clear hb3 hg3 hk2 hk3
      go_wp2
      exact bodyPost_ret (v := .tuple #[.agg #[.int .i64 0, .int .i64 0, .slice none 0 0], .int .i64 r]) (by simp [results, Try.results38, go_sem, p1, p2, p3]) rfl
        ⟨none, 0, 0, 0, rfl, Nat.le_refl _, ((hbf.setCell (by simp) _).setCell (by simp) _).setCell (by simp) _, fun h => absurd h (by omega), by simp [World.setCell]; omega, Descs.nil_ ..⟩
  · rw [if_neg h1] at hr
    subst hr
    have hf : mayC own cap xs = false := Bool.eq_false_iff.2 h1
    have HCK := Lib.hid hf
    clear hf h1
    go_enter Try.func38, Try.ntmps38
    go_wp2_with fail
    refine (MayR_any _ own cap A n c xs hX1 (by omega) _ HCK.out).mono ?_
    rintro e w2 ⟨rfl, hb1, hp1⟩
    obtain ⟨⟨k1, k2, k3⟩, hk2, hs2, hbf⟩ := box33 hb1
    obtain ⟨⟨p1, p2, p3⟩, p4, p5, p6⟩ := cells3 hk2
    clear hb1 hk2 k1 k2 k3 hX1
    go_wp2
    exact bodyPost_ret (v := .tuple #[.agg #[.int .i64 0, .int .i64 0, .slice none 0 0], .int .i64 8]) (by simp [results, Try.results38, go_sem, p1, p2, p3]) rfl
      ⟨none, 0, 0, 0, rfl, Nat.le_refl _, ((hbf.setCell (by simp) _).setCell (by simp) _).setCell (by simp) _, fun h => absurd h (by omega), by simp [World.setCell]; omega, Descs.nil_ ..⟩

set_option maxHeartbeats 3200000 in
theorem MergeR_ok (w : World) (own cap : Int) (A : Option Addr) (n c : Nat) (xs : List (Int × Int)) (hX : Descs w 0 w.heap.size A n xs) (B : Option Addr) (m d : Nat) (ys : List (Int × Int)) (hY : Descs w 0 w.heap.size B m ys)
    (hr : mergeC own cap xs ys = 0) :
    Calls Try.prog 38 #[.agg #[.int .i64 own, .int .i64 cap, .slice A n c], .slice B m d] w (CchPost w own cap (taken own cap.toNat (xs ++ ys)) 0) := by
  have HLX := Lib.hid hX.len
  have HLY := Lib.hid hY.len
  obtain ⟨h1, h2, h3⟩ := merge_zero hr
  have hl6 := ((mayC_iff own cap xs).1 h1).len
  have hn6 := (newOk_iff own cap).1 ((mayC_iff own cap xs).1 h1).new
  have hX1 := ((hX.alloc (Nat.le_refl _) (.cells #[.int .i64 own, .int .i64 cap, .slice A n c] 43)).alloc (by simp) (.cells #[.int .i64 0, .int .i64 0, .slice none 0 0] 43) |>.more (lo' := 0) (hi' := ((w.alloc (.cells #[.int .i64 own, .int .i64 cap, .slice A n c] 43)).alloc (.cells #[.int .i64 0, .int .i64 0, .slice none 0 0] 43)).heap.size) (Nat.le_refl _) (by simp; omega))
  rw [HLX.out] at hl6 h3
  rw [HLY.out] at h3
  have HCK := Lib.hid h1
  have H2 := Lib.hid h2
  have h3' : decide ((64 : Int) < (n : Int) + m) = false := by simp; omega
  clear h1 h2 hr
  go_enter Try.func38, Try.ntmps38
  go_wp2_with fail
  refine (MayR_any _ own cap A n c xs hX1 (by omega) _ HCK.out).mono ?_
  rintro e w1 ⟨rfl, hb1, hp1⟩
  obtain ⟨⟨k1, k2, k3⟩, hk, hs1, hbb⟩ := box33 hb1
  clear hb1 hX1
  go_wp2_with fail
  refine (CheckR_g _ _ _ B m d ys (hY.below hbb (Nat.le_refl _)) (by omega) 0 H2.out).mono ?_
  rintro e w2 ⟨rfl, hg2⟩
  have hb2 := hg2.below
  have j1 := Below.keepCell hb2 (show w.heap.size < w1.heap.size by omega) k1
  have j2 := Below.keepCell hb2 (show w.heap.size < w1.heap.size by omega) k2
  have j3 := Below.keepCell hb2 (show w.heap.size < w1.heap.size by omega) k3
  have hk2 := (hb2.block (w.heap.size + 1) (by omega)).trans hk
  have hs2 := hb2.size
  have hbf := hbb.trans (hb2.mono (by omega))
  have X2 := (hX.below hbf (Nat.le_refl _)).more (lo' := 0) (hi' := w2.heap.size) (Nat.le_refl _) (by omega)
  have Y2 := (hY.below hbf (Nat.le_refl _)).more (lo' := 0) (hi' := w2.heap.size) (Nat.le_refl _) (by omega)
  clear hb2 hg2 hbb hk k1 k2 k3
  go_wp2_with fail
  refine (TakenR_any w2 own cap (by omega) (by omega) A n c xs X2 (by omega) B m d ys Y2 (by omega)).mono ?_
  rintro e w3 ⟨A3, n3, c3, rfl, hc3, hb3, hs3, D3⟩
  obtain ⟨rb, u1, u2, D4⟩ := exact_own D3 (by omega)
  have hk3 := (hb3.block (w.heap.size + 1) (by omega)).trans hk2
  obtain ⟨⟨p1, p2, p3⟩, p4, p5, p6⟩ := cells3 hk3
  have hbf := hbf.trans (hb3.mono (by omega))
  have hu : 0 < n3 → w.heap.size ≤ rb := fun h => by have := u1 h; omega
  obtain ⟨rb', v1, v2, v3⟩ : ∃ rb', w.heap.size + 2 ≤ rb' ∧ rb' < w3.heap.size ∧ Descs w3 rb' (rb' + 1) A3 n3 (taken own cap.toNat (xs ++ ys)) := by
    by_cases h : 0 < n3
    · have := u1 h
      exact ⟨rb, by omega, u2, D4⟩
    · obtain rfl : n3 = 0 := by omega
      rw [D4.zero rfl]
      exact ⟨w3.heap.size - 1, by omega, by omega, Descs.nil_ ..⟩
  clear hb3 D3 D4 hk3 hk2 j1 j2 j3 u1 u2 hu X2 Y2
  go_wp2
  refine bodyPost_ret (v := .tuple #[.agg #[.int .i64 own, .int .i64 cap, .slice A3 n3 c3], .int .i64 0]) (by simp [results, Try.results38, go_sem, p1, p2, p3]) rfl
    ⟨A3, n3, c3, rb', rfl, hc3, ?_, fun _ => by omega, ?_, ?_⟩
  · repeat (refine Below.setCell ?_ (by simp; try omega) _)
    exact hbf
  · simp [World.setCell]
    omega
  · repeat (refine Descs.far ?_ (by simp; omega) _)
    exact v3
/-- headcountref08.Merge. -/
theorem MergeR_any (w : World) (own cap : Int) (A : Option Addr) (n c : Nat) (xs : List (Int × Int)) (hX : Descs w 0 w.heap.size A n xs) (hn : n ≤ 1000) (B : Option Addr) (m d : Nat) (ys : List (Int × Int)) (hY : Descs w 0 w.heap.size B m ys)
    (r : Int) (hr : mergeC own cap xs ys = r) :
    Calls Try.prog 38 #[.agg #[.int .i64 own, .int .i64 cap, .slice A n c], .slice B m d] w (CchPost w (mergeO own cap xs ys) (mergeP own cap xs ys) (mergeL own cap xs ys) r) := by
  by_cases h : r = 0
  · subst h
    have := MergeR_ok w own cap A n c xs hX B m d ys hY hr
    rw [mergeO, mergeP, mergeL, if_pos hr, if_pos hr, if_pos hr]
    exact this
  · have := MergeR_bad w own cap A n c xs hX hn B m d ys hY r hr (by simpa using h)
    rw [mergeO, mergeP, mergeL, if_neg (by rw [hr]; exact h), if_neg (by rw [hr]; exact h), if_neg (by rw [hr]; exact h)]
    exact this
end De
end Go.Proofs.Ytpjomdkcckamkaa
