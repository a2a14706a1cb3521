/- By which draws neighbours are chosen: a walk. -/
import Derived.Test.YtpjomdkcckamkaaChWalks4
import Derived.Test.YtpjomdkcckamkaaChPure2
namespace Go.Proofs.Ytpjomdkcckamkaa
open Go.RowKit Go.Sort Go.Shelf
namespace De
/-- What Draws answers. -/
def drawsC (own cap : Int) (xs ys : List (Int × Int)) : Int := if mayC own cap xs = true then (if (drw xs ys).isSome = true then 0 else 6) else 8
def drawsL (own cap : Int) (xs ys : List (Int × Int)) : List Int := if mayC own cap xs = true then (drw xs ys).getD [] else []
/-- A list of numbers and a code are handed back, in memory of the call's own. -/
def NumPost (w : World) (ys : List Int) (r : Int) (e : Ending) (w' : World) : Prop :=
  ∃ A' n' c', e = .returned (.tuple #[.slice A' n' c', .int .i64 r]) ∧ n' ≤ c' ∧ Below w.heap.size w w' ∧ 0 < w'.heap.size ∧ Ints w' w.heap.size w'.heap.size .u64 A' n' ys
theorem info63 : (Try.prog.info? 63).map (fun i => (i.zero, i.size, i.bytes)) = some (some (.int .u64 0), 1, 8) := by kernel_rfl

theorem own_belowB {base : Nat} {e : TypeId} {size n : Nat} {v : Value} {xs : List Value} {w w' : World} {B : Nat} (h : w.ownsRow base e size v n xs) (hb : Below B w w') (hB : w.heap.size ≤ B) : w'.ownsRow base e size v n xs := by
  refine ⟨h.1, ?_⟩
  rcases h.2 with hn | ⟨q, cap, cur, hv, hg, hh, rest⟩
  · exact .inl hn
  · exact .inr ⟨q, cap, cur, hv, hg, (hb.block q (by have := lt_of_heap hh; omega)).trans hh, rest⟩
theorem raw_oneg (w : World) (k : IntKind) (x : Int) (t : TypeId) (g : Nat) (hg : g = w.heap.size) : Raw (w.alloc (.cells #[.int k x] t)) g (g + 1) (some ⟨g, 0, none⟩) (1 * 1) [.int k x] := by
  subst hg
  exact raw_one w k x t
set_option maxRecDepth 100000 in
set_option maxHeartbeats 3200000 in
theorem Draws_ok (w : World) (own cap : Int) (A : Option Addr) (n c : Nat) (xs : List (Int × Int)) (hX : Descs w 0 w.heap.size A n xs) (hc : n ≤ c) (B : Option Addr) (m d : Nat) (ys : List (Int × Int)) (hY : Descs w 0 w.heap.size B m ys) (hm : mayC own cap xs = true) (r : Int) (hr : drawsC own cap xs ys = r) :
    Calls Try.prog 47 #[.agg #[.int .i64 own, .int .i64 cap, .slice A n c], .slice B m d] w (NumPost w (drawsL own cap xs ys) r) := by
  have hck : (if mayC own cap xs = true then (0 : Int) else 8) = 0 := if_pos hm
  have HCK := Lib.hid hck
  have hms := (may_six ((mayC_iff _ _ _).1 hm)).1
  have hlx := Lib.hid hX.len
  have hly := Lib.hid hY.len
  have hn6 : n ≤ 6 := by rw [← hlx.out]; exact hms
  obtain ⟨i0, hi0, hz0, hz1, hz2⟩ := info_parts info63
  obtain ⟨rb, x0, x1, X⟩ := Descs.block hX
  have HR := Lib.hid hr
  have HM := Lib.hid hm
  have hbm := hY.big
  clear hck hm hms hr
  go_enter Try.func47, Try.ntmps47
  go_wp2_with fail
  go_step3
  go_wp2_with fail
  refine (CheckC_any _ own cap A n c xs ((hX.alloc (Nat.le_refl _) _).more (Nat.le_refl _) (by simp)) 0 HCK.out).mono ?_
  rintro e w1 ⟨rfl, hb1, hp1⟩
  obtain ⟨⟨k1, k2, k3⟩, hs1, hbb⟩ := box3 hb1
  have X1 := keepD_of (W' := w1) X fun _ _ hc => hbb.block rb (World.block_lt_of_cell? _ _ hc)
  have Y1 := hY.below hbb (Nat.le_refl _)
  have hY0 := hY
  clear hb1 X hX hY
  go_wp2_with fail
  go_step3
  go_wp2_with fail
  go_loopw [4, 7, 21] (fun ov lv iv wr => ∃ (k : Nat) (left : List (Int × Int)) (outs : List Int) (AL : Option Addr) (nL cL rbL : Nat), iv = .int .i64 k ∧ k ≤ m ∧ Hid (DrwAt xs ys k left outs) ∧ lv = .slice AL nL cL ∧ nL ≤ cL ∧ nL ≤ 6 ∧ Descs wr rbL (rbL + 1) AL nL left ∧ rbL < wr.heap.size ∧
      wr.ownsRow w.heap.size 63 1 ov outs.length (outs.map (Value.int .u64)) ∧ ov.ownBlock ≠ some rbL ∧ Below w.heap.size w wr ∧ w1.heap.size ≤ wr.heap.size) (fun _ _ iv _ => m - (intOf iv).toNat)
  case atStart => exact ⟨0, xs, [], A, n, c, rb, rfl, Nat.zero_le _, DrwAt.start xs ys, rfl, hc, hn6, X1, by omega, World.ownsRow_nil .., by simp [Value.ownBlock], hbb, Nat.le_refl _⟩
  case round =>
    obtain ⟨k, left, outs, AL, nL, cL, rbL, rfl, hk, hdr, rfl, hcL, hnL, hL, hrL, hown, hne, hbw, hsw⟩ := hrel
    obtain ⟨Ao, co, rfl, hoc, _⟩ := own_shape hown
    clear X1 k1 k2 k3
    obtain ⟨wo, rfl⟩ : ∃ wo : World, wo = wr := ⟨_, rfl⟩
    by_cases hlt : k < m
    · have hD := Y1.below (Below.refl _ _) (Nat.le_refl _)
      have hDr := (hY0.below hbw (Nat.le_refl _))
      obtain ⟨b, off, rfl, hb1', hb2', hcell⟩ := hDr.row (by omega)
      obtain ⟨⟨g1, _⟩, g3, _⟩ := hcell k hlt
      have hyk : Hid (ys[k]? = some (ys[k]?.getD (0, 0))) := by
        rw [Hid, List.getElem?_eq_getElem (by rw [hly.out]; exact hlt)]
        rfl
      generalize ys[k]?.getD (0, 0) = y at g1 g3 hyk
      obtain ⟨y1, y2⟩ := y
      have hkm : (k : Int) < m := by omega
      have hk0 : (0 : Int) ≤ k := by omega
      clear hcell hD hDr
      have hL1 : Descs (wo.alloc (.cells #[.int .i64 y1, .int .i64 y2] 29)) rbL (rbL + 1) AL nL left := hL.alloc (by omega) _
      have hlen := Lib.hid hL.len
      go_wp2_with fail
      go_loopw [4, 7, 27] (fun ov lv jv wr => ∃ j : Nat, jv = .int .i64 j ∧ ov = .slice Ao outs.length co ∧ lv = .slice AL nL cL ∧ j ≤ nL ∧ Hid (∀ i, i < j → left[i]? ≠ some (y1, y2)) ∧ Gr (wo.alloc (.cells #[.int .i64 y1, .int .i64 y2] 29)) wr) (fun _ _ jv _ => nL - (intOf jv).toNat)
      case atStart => exact ⟨0, rfl, rfl, rfl, Nat.zero_le _, fun i hi => absurd hi (Nat.not_lt_zero _), Gr.refl _⟩
      case round =>
        obtain ⟨j, rfl, rfl, rfl, hj, hno, hg⟩ := hrel
        have hgb := hg.below
        have hgs := hgb.size
        simp at hgs
        have q1 : wr.cell? ⟨wo.heap.size, 0, none⟩ = some (.int .i64 y1) := Below.keepCell hgb (by simp) (by simp [go_sem])
        have q2 : wr.cell? ⟨wo.heap.size, 1, none⟩ = some (.int .i64 y2) := Below.keepCell hgb (by simp) (by simp [go_sem])
        by_cases hjn : j < nL
        · have hLr := hL1.gr hg (by simp; omega)
          obtain ⟨bL, oL, rfl, hb3, hb4, hcellL⟩ := hLr.row (by omega)
          obtain rfl : bL = rbL := by omega
          obtain ⟨⟨p1, _⟩, p3, _⟩ := hcellL j hjn
          have hxj : Hid (left[j]? = some (left[j]?.getD (0, 0))) := by
            rw [Hid, List.getElem?_eq_getElem (by rw [hlen.out]; exact hjn)]
            rfl
          generalize left[j]?.getD (0, 0) = x at p1 p3 hxj
          obtain ⟨z1, z2⟩ := x
          have hql := fun W => eqlD W z1 z2 y1 y2
          have hgd := guardD
          have q1a : ∀ o, (wr.alloc o).cell? ⟨wo.heap.size, 0, none⟩ = some (.int .i64 y1) := fun o => (World.cell?_alloc_lt _ _ _ (show wo.heap.size < wr.heap.size by omega)).trans q1
          have q2a : ∀ o, (wr.alloc o).cell? ⟨wo.heap.size, 1, none⟩ = some (.int .i64 y2) := fun o => (World.cell?_alloc_lt _ _ _ (show wo.heap.size < wr.heap.size by omega)).trans q2
          have hj0 : (0 : Int) ≤ j := by omega
          have hjN : (j : Int) < nL := by omega
          have hownr := own_belowB (hown.alloc (.cells #[.int .i64 y1, .int .i64 y2] 29)) hgb (Nat.le_refl _)
          clear hcellL g1 g3
          by_cases hxy : z1 = y1 ∧ z2 = y2
          · obtain ⟨rfl, rfl⟩ := hxy
            rw [show (z1 == z1 && z2 == z2) = true by simp] at hql
            have hwh := Lib.hid (where_first hno.out hxj.out)
            have hrg := Lib.hid hdr.out.len
            have hko : outs.length = k := hrg.out
            have hk64 : k ≤ 6 := by have := hdr.out.le; rw [hlx.out, hlen.out] at this; omega
            have hol : outs.length ≤ 6 := by omega
            clear hko
            have hLr1 := hLr.alloc (by omega) (.cells #[.int .i64 z1, .int .i64 z2] 29)
            have hrl : bL < wr.heap.size := by omega
            go_wp2_with (first
              | (at_builtin; refine wpList_append_raw _ rfl (.tmp 35) (.tmp 38) 66 rfl w.heap.size 63 i0 (.int .u64 0) 1 8 Try.underlying66 hi0 hz0 hz1 hz2 rfl (by decide) _ _ _ rfl ((hownr.alloc _).alloc _) _ _ _ 1 1 [.int .u64 (j : Int)] rfl (raw_oneg _ _ _ _ _ (by simp)) ?c1 ?c2 ?c3 ?c4 ?_))
            case c1 => first | rfl | (intro u hu; simp at hu; subst hu; rfl)
            case c2 => unfold maxLen; omega
            case c3 => omega
            case c4 => have := hbw.size; simp; omega
            intro A2 c2 w2 hown2 hgrow2 hob
            have HG2 := Lib.hid hgrow2
            have HOB := Lib.hid hob
            have hLr2 := hLr1.alloc (by simp; omega) (.cells #[.int .u64 (j : Int)] 63)
            have hL2 := keepD_of (W' := w2) hLr2 fun _ _ hc => hgrow2.block bL (World.block_lt_of_cell? _ _ hc) hne.symm
            have hs2 := hgrow2.size
            simp at hs2
            clear hgrow2 hob hLr2 hLr1
            have hob2 : (Value.slice A2 (outs.length + 1) c2).ownBlock = (Value.slice Ao outs.length co).ownBlock ∨ (Value.slice A2 (outs.length + 1) c2).ownBlock = some (wr.heap.size + 1 + 1) := HOB.out
            have hob3 : (Value.slice A2 (outs.length + 1) c2).ownBlock ≠ some bL := fun e => by
              rcases hob2 with h | h
              · exact hne (by rw [← h, e])
              · rw [e] at h
                injection h with h
                omega
            have hob4 := fun q hq => (hown2.lt q hq).2
            have hbn := ((((hbw.alloc (by omega) (.cells #[.int .i64 z1, .int .i64 z2] 29)).trans (hgb.mono (by simp; omega))).alloc (by omega) (.cells #[.int .i64 z1, .int .i64 z2] 29)).alloc (by simp; omega) (.cells #[.int .u64 (j : Int)] 63)).grown HG2.out (by simp; omega) (fun q hq => (hown.lt q hq).1)
            have hH2 := Lib.hid hob2
            have hH3 := Lib.hid hob3
            have hH4 := Lib.hid hob4
            have hdr2 := Lib.hid (hdr.out.step hyk.out hwh.out)
            clear hob2 hob3 hob4 p1 p3 q1 q2 q1a q2a hql
            go_wp2_with fail
            refine (without_any w2 bL _ nL cL left hL2 (by omega) hcL j hjn (by omega)).mono ?_
            rintro e w4 ⟨A4, c4, rb4, rfl, hc4, hb4, hg4, hrb4, hrb4', hD4⟩
            have hs4 := hb4.size
            have hown4 := hown2.kept hg4 (by cases hv : (Value.slice A2 (outs.length + 1) c2).ownBlock <;> simp)
            have hown5 : w4.ownsRow w.heap.size 63 1 (.slice A2 (outs.length + 1) c2) (outs ++ [(j : Int)]).length ((outs ++ [(j : Int)]).map (Value.int .u64)) := by simpa using hown4
            have hne5 : (Value.slice A2 (outs.length + 1) c2).ownBlock ≠ some rb4 := fun e => by
              rcases hrb4 with h | h
              · exact hH3.out (by rw [e, h])
              · have := hH4.out _ e
                omega
            have hbf := hbn.trans (hb4.mono (by omega))
            clear hown4 hown2 hown hownr hL2
            go_wp2
            go_roundw
            case rel => exact ⟨k + 1, left.eraseIdx j, outs ++ [(j : Int)], A4, nL - 1, c4, rb4, by go_num, by omega, hdr2, rfl, hc4, by omega, hD4, hrb4', by simpa using hown5, hne5, hbf, by omega⟩
            case measure => simp [intOf]; omega
          · have hf : (z1 == y1 && z2 == y2) = false := by
              by_cases e1 : z1 = y1
              · have e2 : z2 ≠ y2 := fun h => hxy ⟨e1, h⟩
                simp [e2]
              · simp [e1]
            rw [hf] at hql
            have hno2 : Hid (∀ i, i < j + 1 → left[i]? ≠ some (y1, y2)) := fun i hi => by
              by_cases e : i = j
              · subst e
                rw [hxj.out]
                exact fun h => hxy (by injection h with h; exact Prod.mk.inj h)
              · exact hno.out i (by omega)
            clear hf
            go_wp2
            go_roundw
            case rel => exact ⟨j + 1, by go_num, rfl, rfl, by omega, hno2, hg.alloc _⟩
            case measure => simp [intOf]; omega
        · obtain rfl : j = nL := by omega
          have hnn : Hid (drw xs ys = none) := hdr.out.none_ hyk.out (where_no fun i hi => hno.out i (by rw [← hlen.out]; exact hi))
          have e : r = 6 := by rw [← HR.out, drawsC, if_pos HM.out, hnn.out]; rfl
          subst e
          have e2 : Hid (drawsL own cap xs ys = []) := by rw [Hid, drawsL, if_pos HM.out, hnn.out]; rfl
          clear g1 g3
          go_wp2
          rw [Exit.noGoto_ret]
          go_ret2
          rw [e2.out]
          exact ⟨none, 0, 0, rfl, Nat.le_refl _, (hbw.alloc (by omega) _).trans (hgb.mono (by simp; omega)), by omega, Ints.nil_ ..⟩
    · obtain rfl : k = m := by omega
      have hdd := Lib.hid (hdr.out.done (by rw [hly.out]; exact Nat.le_refl _))
      have e : r = 0 := by rw [← HR.out, drawsC, if_pos HM.out, hdd.out]; rfl
      subst e
      have e2 : Hid (drawsL own cap xs ys = outs) := by rw [Hid, drawsL, if_pos HM.out, hdd.out]; rfl
      have hrg := hdr.out.rng
      rw [hlx.out] at hrg
      have hHR := Lib.hid hrg
      have hlo := Lib.hid hdr.out.len
      clear hrg
      go_wp2
      rw [Exit.noGoto_ret]
      go_ret2
      rw [e2.out]
      refine ⟨Ao, _, co, rfl, hoc, hbw, by omega, Ints.of_own hown (fun x hx => ?_) (by rw [hlo.out]; exact hbm)⟩
      have := hHR.out x hx
      simp [IntKind.min, IntKind.max, IntKind.signed, IntKind.bits]
      omega

set_option maxHeartbeats 800000 in
theorem Draws_bad (w : World) (own cap : Int) (A : Option Addr) (n c : Nat) (xs : List (Int × Int)) (hX : Descs w 0 w.heap.size A n xs) (B : Option Addr) (m d : Nat) (hm : ¬ mayC own cap xs = true) :
    Calls Try.prog 47 #[.agg #[.int .i64 own, .int .i64 cap, .slice A n c], .slice B m d] w (NumPost w [] 8) := by
  have hck : (if mayC own cap xs = true then (0 : Int) else 8) = 8 := if_neg hm
  have HCK := Lib.hid hck
  clear hck hm
  go_enter Try.func47, Try.ntmps47
  go_wp2_with fail
  go_step3
  go_wp2_with fail
  refine (CheckC_any _ own cap A n c xs ((hX.alloc (Nat.le_refl _) _).more (Nat.le_refl _) (by simp)) 8 HCK.out).mono ?_
  rintro e w1 ⟨rfl, hb1, hp1⟩
  obtain ⟨_, hs1, hbb⟩ := box3 hb1
  clear hb1
  go_wp2
  (try rw [Exit.noGoto_ret])
  go_ret2
  exact ⟨none, 0, 0, rfl, Nat.le_refl _, hbb, hp1, Ints.nil_ ..⟩
/-- choose.Draws. -/
theorem Draws_any (w : World) (own cap : Int) (A : Option Addr) (n c : Nat) (xs : List (Int × Int)) (hX : Descs w 0 w.heap.size A n xs) (hc : n ≤ c) (B : Option Addr) (m d : Nat) (ys : List (Int × Int)) (hY : Descs w 0 w.heap.size B m ys) (r : Int) (hr : drawsC own cap xs ys = r) :
    Calls Try.prog 47 #[.agg #[.int .i64 own, .int .i64 cap, .slice A n c], .slice B m d] w (NumPost w (drawsL own cap xs ys) r) := by
  by_cases hm : mayC own cap xs = true
  · exact Draws_ok w own cap A n c xs hX hc B m d ys hY hm r hr
  · rw [drawsC, if_neg hm] at hr
    subst hr
    rw [drawsL, if_neg hm]
    exact Draws_bad w own cap A n c xs hX B m d hm
/-- choose.Some. -/
theorem Some_any (w : World) (own cap : Int) (A : Option Addr) (n c : Nat) (xs : List (Int × Int)) (hX : Descs w 0 w.heap.size A n xs) (hc : n ≤ c) (B : Option Addr) (m d : Nat) (ds : List Int) (hD : Ints w 0 w.heap.size .u64 B m ds) (r : Int) (hr : someC own cap xs ds = r) :
    Calls Try.prog 45 #[.agg #[.int .i64 own, .int .i64 cap, .slice A n c], .slice B m d] w (LstPost w (someL own cap xs ds) r) := by
  by_cases h0 : r = 0
  · subst h0
    rw [someL, if_pos hr]
    exact Some_ok w own cap A n c xs hX hc B m d ds hD hr
  · rw [someL, if_neg (by rw [hr]; exact h0)]
    exact Some_bad w own cap A n c xs hX B m d ds hD r hr h0
end De
end Go.Proofs.Ytpjomdkcckamkaa
