/- Caches: what is offered, copies, whether two are the same: walks. -/
import Derived.Test.YtpjomdkcckamkaaCaWalks4
namespace Go.Proofs.Ytpjomdkcckamkaa
open Go.RowKit Go.Sort Go.Shelf
namespace De
def mergeL (own cap : Int) (xs ys : List (Int × Int)) : List (Int × Int) := if mergeC own cap xs ys = 0 then taken own cap.toNat (xs ++ ys) else []
def mergeO (own cap : Int) (xs ys : List (Int × Int)) : Int := if mergeC own cap xs ys = 0 then own else 0
def mergeP (own cap : Int) (xs ys : List (Int × Int)) : Int := if mergeC own cap xs ys = 0 then cap else 0
/-- cache.Merge. -/
theorem MergeC_any (w : World) (own cap : Int) (A : Option Addr) (n c : Nat) (xs : List (Int × Int)) (hX : Descs w 0 w.heap.size A n xs) (B : Option Addr) (m d : Nat) (ys : List (Int × Int)) (hY : Descs w 0 w.heap.size B m ys)
    (r : Int) (hr : mergeC own cap xs ys = r) :
    Calls Try.prog 31 #[.agg #[.int .i64 own, .int .i64 cap, .slice A n c], .slice B m d] w (CchPost w (mergeO own cap xs ys) (mergeP own cap xs ys) (mergeL own cap xs ys) r) := by
  by_cases h : r = 0
  · subst h
    have := MergeC_ok w own cap A n c xs hX B m d ys hY hr
    rw [mergeO, mergeP, mergeL, if_pos hr, if_pos hr, if_pos hr]
    exact this
  · have := MergeC_bad w own cap A n c xs hX B m d ys hY r hr (by simpa using h)
    rw [mergeO, mergeP, mergeL, if_neg (by rw [hr]; exact h), if_neg (by rw [hr]; exact h), if_neg (by rw [hr]; exact h)]
    exact this

/-- The error of an offer. -/
def offerC (own cap : Int) (xs : List (Int × Int)) (now : Int) : Int := if mayC own cap xs = true then (if now < 0 ∨ 2147483647 < now then 2 else 0) else 8
def offerL (own cap : Int) (xs : List (Int × Int)) (now : Int) : List (Int × Int) := if offerC own cap xs now = 0 then told own now xs else []
theorem own_one {w : World} {base g : Nat} {t : TypeId} {x y : Int} (h : w.heap[g]? = some (.cells #[.int .i64 x, .int .i64 y] t (0, 0))) (hb : base ≤ g) : w.ownsRow base t 2 (.slice (some ⟨g, 0, none⟩) 1 1) 1 (flatD [(x, y)]) :=
  ⟨rfl, .inr ⟨g, 1, _, rfl, hb, h, by simp, by simp [maxLen], by simp, by simp [flatD]⟩⟩
theorem offer_zero {own cap now : Int} {xs : List (Int × Int)} (h : offerC own cap xs now = 0) : MayC own cap xs ∧ 0 ≤ now ∧ now ≤ 2147483647 := by
  unfold offerC at h
  split at h
  · rename_i h1
    split at h
    · cases h
    · exact ⟨(mayC_iff _ _ _).1 h1, by omega, by omega⟩
  · cases h
theorem told_check {own cap now : Int} {xs : List (Int × Int)} (h : MayC own cap xs) (h1 : 0 ≤ now) (h2 : now ≤ 2147483647) : check ((own, now) :: xs) = 0 := by
  obtain ⟨q1, q2⟩ := check_zero h.chk
  have hl := h.len
  have hn := (newOk_iff own cap).1 h.new
  refine check_ok (by simp; omega) ?_
  rw [List.all_cons, q2, Bool.and_true, may_iff]
  exact ⟨hn.1, hn.2.1, h1, h2⟩

set_option maxHeartbeats 1600000 in
set_option maxRecDepth 100000 in
/-- cache.Offer. -/
theorem Offer_any (w : World) (own cap now : Int) (A : Option Addr) (n c : Nat) (xs : List (Int × Int)) (hX : Descs w 0 w.heap.size A n xs) (r : Int) (hr : offerC own cap xs now = r) :
    Calls Try.prog 33 #[.agg #[.int .i64 own, .int .i64 cap, .slice A n c], .int .i64 now] w (LstPost w (offerL own cap xs now) r) := by
  have HL := Lib.hid hX.len
  have HR := Lib.hid hr
  by_cases hz : r = 0
  · subst hz
    obtain ⟨hm, hn1, hn2⟩ := offer_zero hr
    have hck : (if mayC own cap xs = true then (0 : Int) else 8) = 0 := if_pos ((mayC_iff _ _ _).2 hm)
    have HCK := Lib.hid hck
    have HT := Lib.hid (told_check hm hn1 hn2)
    have hl6 := hm.len
    have hn6 := ((newOk_iff own cap).1 hm.new).2.2.2
    rw [HL.out] at hl6
    have hof : Hid (offerL own cap xs now = srt ((own, now) :: xs)) := by rw [Hid, offerL, if_pos hr]; rfl
    have hxw := Lib.hid hX.wf
    have hrg : Rng (own, now) := by
      have := (newOk_iff own cap).1 hm.new
      exact ⟨⟨by simp only; omega, by simp only; omega⟩, by simp only; omega, by simp only; omega⟩
    have hrg' := Lib.hid hrg
    obtain ⟨i0, hi0, hz0, hz1, hz2⟩ := info_parts Try.info29
    clear hr hck hm hrg
    go_enter Try.func33, Try.ntmps33
    go_wp2_with fail
    refine (CheckC_any _ own cap A n c xs ((hX.alloc (Nat.le_refl _) _).more (Nat.le_refl _) (by simp)) 0 HCK.out).mono ?_
    rintro e w1 ⟨rfl, hb1, hp1⟩
    obtain ⟨⟨k1, k2, k3⟩, hs1, hbb⟩ := box3 hb1
    have hX1 := hX.below hbb (Nat.le_refl _)
    have k3a : ∀ o, (w1.alloc o).cell? ⟨w.heap.size, 2, none⟩ = some (.slice A n c) := fun o => (World.cell?_alloc_lt _ _ _ (show w.heap.size < w1.heap.size by omega)).trans k3
    clear hb1
    go_wp2_with (first
      | (at_builtin; refine wpList_append_raw _ rfl (.tmp 22) (.tmp 24) 22 rfl w1.heap.size 29 i0 _ 2 16 Try.underlying22 hi0 hz0 hz1 hz2 rfl (by decide) _ _ _ rfl (own_one (heap_newg _ _ _ rfl) (Nat.le_refl _)) _ _ _ n _ _ rfl (hX1.alloc (by omega) _).raw (flatD_one _) ?c2 ?c3 ?c4 ?_))
    case c2 => unfold maxLen; omega
    case c3 => omega
    case c4 => simp
    intro A2 c2 w2 hown2 hg2 _
    rw [← flatD_append] at hown2
    have hb2 : Below w1.heap.size w1 w2 := ((Below.refl _ w1).alloc (Nat.le_refl _) _).grown hg2 (by simp) (fun q hq => by simp [Value.ownBlock] at hq; omega)
    have hs2 := hb2.size
    have hD2 := Descs.of_own hown2 (fun x hx => by
      rcases List.mem_cons.1 hx with rfl | hx
      · exact hrg'.out
      · exact hxw.out x hx) (by omega)
    have hc2 := hbb.trans (hb2.mono (by omega))
    clear hown2 hg2 hb2 k1 k2 k3 k3a hbb hX1
    go_wp2_with fail
    refine (Order_any _ _ _ A2 (1 + n) c2 ((own, now) :: xs) hD2 (Nat.le_refl _) (by omega) 0 HT.out).mono ?_
    rintro e w3 ⟨A3, n3, c3, rb, rfl, hc3, hb3, hr3, hr3', hD3⟩
    rw [resO, if_pos HT.out] at hD3
    have hcf := hc2.trans (hb3.mono (by omega))
    clear hb3 hD2 hc2
    go_wp2
    go_ret2
    exact ⟨A3, n3, c3, rb, rfl, hc3, hcf, fun h => by have := hr3 h; omega, hr3', by rw [hof.out]; exact hD3⟩
  · have hof : Hid (offerL own cap xs now = []) := by rw [Hid, offerL, if_neg (by rw [hr]; exact hz)]
    unfold offerC at hr
    by_cases h1 : mayC own cap xs = true
    · rw [if_pos h1] at hr
      have hck : (if mayC own cap xs = true then (0 : Int) else 8) = 0 := if_pos h1
      have HCK := Lib.hid hck
      by_cases hnow : now < 0
      · rw [if_pos (.inl hnow)] at hr
        subst hr
        clear h1 hck hz
        go_enter Try.func33, Try.ntmps33
        go_wp2_with fail
        refine (CheckC_any _ own cap A n c xs ((hX.alloc (Nat.le_refl _) _).more (Nat.le_refl _) (by simp)) 0 HCK.out).mono ?_
        rintro e w1 ⟨rfl, hb1, hp1⟩
        obtain ⟨_, hs1, hbb⟩ := box3 hb1
        clear hb1
        go_wp2
        go_ret2
        exact ⟨none, 0, 0, 0, rfl, Nat.le_refl _, hbb, fun h => absurd h (by omega), hp1, by rw [hof.out]; exact Descs.nil_ ..⟩
      · by_cases hnow2 : 2147483647 < now
        · rw [if_pos (.inr hnow2)] at hr
          subst hr
          clear h1 hck hz
          go_enter Try.func33, Try.ntmps33
          go_wp2_with fail
          refine (CheckC_any _ own cap A n c xs ((hX.alloc (Nat.le_refl _) _).more (Nat.le_refl _) (by simp)) 0 HCK.out).mono ?_
          rintro e w1 ⟨rfl, hb1, hp1⟩
          obtain ⟨_, hs1, hbb⟩ := box3 hb1
          clear hb1
          go_wp2
          go_ret2
          exact ⟨none, 0, 0, 0, rfl, Nat.le_refl _, hbb, fun h => absurd h (by omega), hp1, by rw [hof.out]; exact Descs.nil_ ..⟩
        · rw [if_neg (by omega)] at hr
          exact absurd hr.symm hz
    · rw [if_neg h1] at hr
      subst hr
      have hck : (if mayC own cap xs = true then (0 : Int) else 8) = 8 := if_neg h1
      have HCK := Lib.hid hck
      clear h1 hck hz
      go_enter Try.func33, Try.ntmps33
      go_wp2_with fail
      refine (CheckC_any _ own cap A n c xs ((hX.alloc (Nat.le_refl _) _).more (Nat.le_refl _) (by simp)) 8 HCK.out).mono ?_
      rintro e w1 ⟨rfl, hb1, hp1⟩
      obtain ⟨_, hs1, hbb⟩ := box3 hb1
      clear hb1
      go_wp2
      go_ret2
      exact ⟨none, 0, 0, 0, rfl, Nat.le_refl _, hbb, fun h => absurd h (by omega), hp1, by rw [hof.out]; exact Descs.nil_ ..⟩

/-- Are two caches the same? -/
def sameC (o1 p1 : Int) (xs : List (Int × Int)) (o2 p2 : Int) (ys : List (Int × Int)) : Bool := o1 == o2 && (p1 == p2 && Sm xs ys)
set_option maxHeartbeats 800000 in
/-- cache.Same. -/
theorem SameC_any (w : World) (o1 p1 o2 p2 : Int) (lo hi lo' hi' : Nat) (A A' : Option Addr) (n c n' c' : Nat) (xs ys : List (Int × Int)) (hX : Descs w lo hi A n xs) (hY : Descs w lo' hi' A' n' ys) (hhi : hi ≤ w.heap.size) (hhi' : hi' ≤ w.heap.size) (r : Bool) (hr : sameC o1 p1 xs o2 p2 ys = r) :
    Calls Try.prog 32 #[.agg #[.int .i64 o1, .int .i64 p1, .slice A n c], .agg #[.int .i64 o2, .int .i64 p2, .slice A' n' c']] w fun e w' => e = .returned (.bool r) ∧ Below w.heap.size w w' := by
  have HR := Lib.hid hr
  have fin := ((Below.refl w.heap.size w).alloc (Nat.le_refl _) (.cells #[.int .i64 o1, .int .i64 p1, .slice A n c] 43)).alloc (by simp) (.cells #[.int .i64 o2, .int .i64 p2, .slice A' n' c'] 43)
  have hX2 := (hX.alloc hhi (.cells #[.int .i64 o1, .int .i64 p1, .slice A n c] 43)).alloc (by simp; omega) (.cells #[.int .i64 o2, .int .i64 p2, .slice A' n' c'] 43)
  have hY2 := (hY.alloc hhi' (.cells #[.int .i64 o1, .int .i64 p1, .slice A n c] 43)).alloc (by simp; omega) (.cells #[.int .i64 o2, .int .i64 p2, .slice A' n' c'] 43)
  clear hr
  by_cases h1 : o1 = o2
  · subst h1
    by_cases h2 : p1 = p2
    · subst h2
      have hs : Sm xs ys = r := by rw [← HR.out]; simp [sameC]
      have HS := Lib.hid hs
      clear hs
      go_enter Try.func32, Try.ntmps32
      go_wp2_with fail
      refine (Same_b _ _ _ _ _ A A' n c n' c' xs ys hX2 hY2 r HS.out).mono ?_
      rintro e w1 ⟨rfl, hb⟩
      have hf := fin.trans (hb.mono (by simp; omega))
      clear hb
      go_wp2
      go_ret
      exact ⟨rfl, hf⟩
    · have e : r = false := by rw [← HR.out]; simp [sameC, h2]
      subst e
      have h2' : (p1 == p2) = false := by simpa using h2
      go_enter Try.func32, Try.ntmps32
      go_wp2
      go_ret
      exact ⟨rfl, fin⟩
  · have e : r = false := by rw [← HR.out]; simp [sameC, h1]
    subst e
    have h1' : (o1 == o2) = false := by simpa using h1
    go_enter Try.func32, Try.ntmps32
    go_wp2
    go_ret
    exact ⟨rfl, fin⟩

set_option maxHeartbeats 800000 in
/-- cache.Twin. -/
theorem TwinC_any (w : World) (own cap : Int) (lo hi : Nat) (A : Option Addr) (n c : Nat) (xs : List (Int × Int)) (hX : Descs w lo hi A n xs) (hhi : hi ≤ w.heap.size) (hn : n ≤ 1000000) :
    Calls Try.prog 36 #[.agg #[.int .i64 own, .int .i64 cap, .slice A n c]] w fun e w' => ∃ A' c', e = .returned (.agg #[.int .i64 own, .int .i64 cap, .slice A' n c']) ∧ n ≤ c' ∧ Below w.heap.size w w' ∧ w.heap.size < w'.heap.size ∧ Descs w' (w.heap.size + 2) w'.heap.size A' n xs := by
  have hxw := Lib.hid hX.wf
  have hbig := hX.big
  have hX2 := (hX.alloc hhi (.cells #[.int .i64 own, .int .i64 cap, .slice A n c] 43)).alloc (by simp; omega) (.cells #[.int .i64 0, .int .i64 0, .slice none 0 0] 43)
  go_enter Try.func36, Try.ntmps36
  go_wp2_with fail
  refine (Clone_any _ _ _ A n c xs hX2 (by simp; omega) hn).mono ?_
  rintro e w1 ⟨A2, c2, rfl, hc2, hb1, hown1⟩
  simp at hown1
  have hD := Descs.of_own hown1 hxw.out hbig
  obtain ⟨⟨k1, k2, k3⟩, hk, hs1, hbb⟩ := box33 hb1
  have hkf : w1.frozen? ⟨w.heap.size, 2, none⟩ = false := (hb1.frozen (p := ⟨w.heap.size, 2, none⟩) (by simp; omega)).trans (by simp [go_sem])
  obtain ⟨⟨p1, p2, p3⟩, p4, p5, p6⟩ := cells3 hk
  clear hb1 hown1 hk
  go_wp2
  refine bodyPost_ret (v := .agg #[.int .i64 own, .int .i64 cap, .slice A2 n c2]) (by simp [results, Try.results36, go_sem, p1, p2, p3]) rfl ⟨A2, c2, rfl, hc2, ?_, ?_, ?_⟩
  · repeat (refine Below.setCell ?_ (by simp; try omega) _)
    exact hbb
  · simp [World.setCell]
    omega
  · refine Descs.more (lo := w.heap.size + 2) (hi := w1.heap.size) ?_ (Nat.le_refl _) (by simp [World.setCell])
    repeat (refine Descs.far ?_ (by simp; try omega) _)
    exact hD
end De
end Go.Proofs.Ytpjomdkcckamkaa
