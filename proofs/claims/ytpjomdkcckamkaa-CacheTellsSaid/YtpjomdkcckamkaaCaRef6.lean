/- The reference's choice: by which draws neighbours are chosen: a walk. -/
import Derived.Test.YtpjomdkcckamkaaCaRef5
namespace Go.Proofs.Ytpjomdkcckamkaa
open Go.RowKit Go.Sort Go.Shelf
namespace De
theorem where_snoc (x z : D) : ∀ l : List D, where_ x (l ++ [z]) = match where_ x l with
    | some i => some i
    | none => if z = x then some l.length else none
  | [] => by
    by_cases h : z = x <;> simp [where_, h]
  | y :: l => by
    by_cases h : y = x
    · simp [where_, h]
    · simp only [List.cons_append, where_, if_neg h, where_snoc x z l]
      cases where_ x l with
      | some i => rfl
      | none => by_cases hz : z = x <;> simp [hz]
/-- Where one stands; -1: nowhere. -/
def whI (x : D) (l : List D) : Int := match where_ x l with
  | none => -1
  | some i => i
theorem whI_step {l : List D} (h : Apt l) (x : D) {j : Nat} (hj : j < l.length) : whI x (l.take (j + 1)) = if l[j]?.getD (0, 0) = x then (j : Int) else whI x (l.take j) := by
  rw [List.take_succ_eq_append_getElem hj, List.getElem?_eq_getElem hj]
  simp only [Option.getD_some]
  unfold whI
  rw [where_snoc]
  cases hw : where_ x (l.take j) with
  | none =>
    by_cases hz : l[j] = x
    · simp [hz]
      omega
    · simp [hz]
  | some i =>
    obtain ⟨h1, h2⟩ := where_lt hw
    have hne : l[j] ≠ x := fun e => by
      have hi : i < j := by
        rw [List.length_take] at h1
        omega
      rw [List.getElem?_take_of_lt hi, List.getElem?_eq_getElem (by omega)] at h2
      injection h2 with h2
      unfold Apt at h
      rw [List.pairwise_iff_getElem] at h
      exact h i j (by omega) hj hi (by rw [h2, e])
    simp [hne]

set_option maxHeartbeats 6400000 in
set_option maxRecDepth 100000 in
/-- headcountref09.Draws, of a cache that may be. -/
theorem DrawsR_ok (w : World) (own cap : Int) (A : Option Addr) (n c : Nat) (xs : List (Int × Int)) (hX : Descs w 0 w.heap.size A n xs) (hc : n ≤ c) (B : Option Addr) (m d : Nat) (ys : List (Int × Int)) (hY : Descs w 0 w.heap.size B m ys) (hm : mayC own cap xs = true) (r : Int) (hr : drawsC own cap xs ys = r) :
    Calls Try.prog 52 #[.agg #[.int .i64 own, .int .i64 cap, .slice A n c], .slice B m d] w (NumPost w (drawsL own cap xs ys) r) := by
  have hms := (may_six ((mayC_iff _ _ _).1 hm)).1
  have hap := mayC_apt hm
  have hlx := Lib.hid hX.len
  have hly := Lib.hid hY.len
  have hn6 : n ≤ 6 := by rw [← hlx.out]; exact hms
  have mixed : Try.prog.follows .mixedOrders = true := by kernel_rfl
  obtain ⟨i1, hj0, hk0, hk1, hk2⟩ := info_parts info63
  obtain ⟨i0, hi0, hz0, hz1, hz2⟩ := info_parts Try.info29
  obtain ⟨rb, x0, x1, X⟩ := Descs.block hX
  have HR := Lib.hid hr
  have HM := Lib.hid hm
  have HAP := Lib.hid hap
  have hbm := hY.big
  have hwx := Lib.hid hX.wf
  have hX1 : Descs (w.alloc (.cells #[.int .i64 own, .int .i64 cap, .slice A n c] 43)) 0 (w.alloc (.cells #[.int .i64 own, .int .i64 cap, .slice A n c] 43)).heap.size A n xs := (hX.alloc (Nat.le_refl _) _).more (Nat.le_refl _) (by simp)
  clear hm hms hr hap
  go_enter Try.func52, Try.ntmps52
  go_wp2_with fail
  refine (MayR_any _ own cap A n c xs hX1 (by omega) true HM.out).mono ?_
  rintro e w1 ⟨rfl, hb1, hp1⟩
  obtain ⟨⟨k1, k2, k3⟩, hs1, hbb⟩ := box3 hb1
  have X1 := keepD_of (W' := w1) X fun _ _ hc => hbb.block rb (World.block_lt_of_cell? _ _ hc)
  have hY0 := hY
  clear hb1 X hX hY hX1
  go_wp2_with fail
  go_loopw [6, 7, 8] (fun lv ov iv wr => ∃ (k : Nat) (left : List (Int × Int)) (outs : List Int) (AL : Option Addr) (nL cL rbL : Nat), iv = .int .i64 k ∧ k ≤ m ∧ Hid (DrwAt xs ys k left outs) ∧ Hid (Apt left) ∧ lv = .slice AL nL cL ∧ nL ≤ cL ∧ nL ≤ 6 ∧ Descs wr rbL (rbL + 1) AL nL left ∧ rbL < wr.heap.size ∧
      wr.ownsRow w.heap.size 63 1 ov outs.length (outs.map (Value.int .u64)) ∧ ov.ownBlock ≠ some rbL ∧ Below w.heap.size w wr ∧ w1.heap.size ≤ wr.heap.size) (fun _ _ iv _ => m - (intOf iv).toNat)
  case atStart => exact ⟨0, xs, [], A, n, c, rb, rfl, Nat.zero_le _, DrwAt.start xs ys, HAP.out, rfl, hc, hn6, X1, by omega, World.ownsRow_nil .., by simp [Value.ownBlock], hbb, Nat.le_refl _⟩
  case round =>
    obtain ⟨k, left, outs, AL, nL, cL, rbL, rfl, hk, hdr, hapt, rfl, hcL, hnL, hL, hrL, hown, hne, hbw, hsw⟩ := hrel
    obtain ⟨Ao, co, rfl, hoc, _⟩ := own_shape hown
    clear X1 k1 k2 k3
    obtain ⟨wo, rfl⟩ : ∃ wo : World, wo = wr := ⟨_, rfl⟩
    by_cases hlt : k < m
    · have hDr := (hY0.below hbw (Nat.le_refl _))
      obtain ⟨b, off, rfl, hb1', hb2', hcell⟩ := hDr.row (by omega)
      obtain ⟨⟨g1, _⟩, g3, _⟩ := hcell k hlt
      have hyk : Hid (ys[k]? = some (ys[k]?.getD (0, 0))) := by
        rw [Hid, List.getElem?_eq_getElem (by rw [hly.out]; exact hlt)]
        rfl
      generalize ys[k]?.getD (0, 0) = y at g1 g3 hyk
      have hkm : (k : Int) < m := by omega
      have hk0' : (0 : Int) ≤ k := by omega
      have hlen := Lib.hid hL.len
      have hst := fun (j : Nat) (hj : j < left.length) => whI_step hapt.out y hj
      rw [hlen.out] at hst
      have HST := Lib.hid hst
      have hw0 : Hid (whI y (left.take 0) = -1) := by rw [Hid, List.take_zero]; rfl
      have hwa : Hid (left.take nL = left) := List.take_of_length_le (by rw [hlen.out]; exact Nat.le_refl _)
      obtain ⟨y1, y2⟩ := y
      simp only at g1 g3
      clear hcell hDr hst
      go_wp2_with fail
      go_loopw [9, 10] (fun av jv wr => ∃ j q : Nat, jv = .int .i64 j ∧ j ≤ nL ∧ (∃ z : Int, av = .int .i64 z ∧ Hid (whI (y1, y2) (left.take j) = z)) ∧ wr = wo.drewN q) (fun _ jv _ => nL - (intOf jv).toNat)
      case atStart => exact ⟨0, 0, rfl, Nat.zero_le _, ⟨-1, rfl, hw0.out⟩, rfl⟩
      case round =>
        obtain ⟨j, q, rfl, hj, ⟨z, rfl, hz⟩, rfl⟩ := hrel
        by_cases hjn : j < nL
        · obtain ⟨bL, oL, rfl, hb3, hb4, hcellL⟩ := hL.row (by omega)
          obtain rfl : bL = rbL := by omega
          obtain ⟨⟨p1, _⟩, p3, _⟩ := hcellL j hjn
          have hsj := HST.out j hjn
          generalize left[j]?.getD (0, 0) = x at p1 p3 hsj
          obtain ⟨z1, z2⟩ := x
          simp only at p1 p3
          have hql := fun W => eqlD W z1 z2 y1 y2
          have hgd := guardD
          have hj0' : (0 : Int) ≤ j := by omega
          have hjN : (j : Int) < nL := by omega
          clear hcellL
          by_cases hxy : z1 = y1 ∧ z2 = y2
          · obtain ⟨rfl, rfl⟩ := hxy
            rw [show (z1 == z1 && z2 == z2) = true by simp] at hql
            rw [if_pos rfl] at hsj
            have HSJ := Lib.hid hsj
            clear hsj
            go_wp2
            go_quiet (fail)
            go_wp2
            go_roundw
            case rel => exact ⟨j + 1, _, by go_num, by omega, ⟨_, rfl, HSJ.out⟩, by first | rfl | exact World.drewN_drewN _ _ _⟩
            case measure => simp [intOf]; omega
          · have hf : (z1 == y1 && z2 == y2) = false := by
              by_cases e1 : z1 = y1
              · have e2 : z2 ≠ y2 := fun h => hxy ⟨e1, h⟩
                simp [e2]
              · simp [e1]
            rw [hf] at hql
            rw [if_neg (fun e => hxy (Prod.mk.inj e)), hz.out] at hsj
            have HSJ := Lib.hid hsj
            clear hsj hf
            go_wp2
            go_quiet (fail)
            go_wp2
            go_roundw
            case rel => exact ⟨j + 1, _, by go_num, by omega, ⟨_, rfl, HSJ.out⟩, by first | rfl | exact World.drewN_drewN _ _ _⟩
            case measure => simp [intOf]; omega
        · obtain rfl : nL = j := by omega
          have hz' : whI (y1, y2) left = z := by rw [← hwa.out]; exact hz.out
          have hbq : Below w.heap.size w (wo.drewN q) := below_drewN hbw q
          have hLq := hL.drewN q
          have hownq : (wo.drewN q).ownsRow w.heap.size 63 1 (.slice Ao outs.length co) outs.length (outs.map (Value.int .u64)) := hown
          have hsq : wo.heap.size ≤ (wo.drewN q).heap.size := Nat.le_refl _
          clear hL hown hbw g1 g3
          generalize wo.drewN q = ww at *
          cases hwy : where_ (y1, y2) left with
          | none =>
            have e : z = -1 := by rw [← hz', whI, hwy]
            subst e
            have hnn : Hid (drw xs ys = none) := hdr.out.none_ hyk.out hwy
            have e : r = 6 := by rw [← HR.out, drawsC, if_pos HM.out, hnn.out]; rfl
            subst e
            have e2 : Hid (drawsL own cap xs ys = []) := by rw [Hid, drawsL, if_pos HM.out, hnn.out]; rfl
            clear hz' hwy hz
            go_wp2
            go_ret2
            rw [e2.out]
            exact ⟨none, 0, 0, rfl, Nat.le_refl _, hbq, by omega, Ints.nil_ ..⟩
          | some i =>
            have e : z = i := by rw [← hz', whI, hwy]
            subst e
            obtain ⟨hil, _⟩ := where_lt hwy
            rw [hlen.out] at hil
            have hwh := Lib.hid hwy
            have hdr2 := Lib.hid (hdr.out.step hyk.out hwy)
            have hap2 := Lib.hid (hapt.out.erase i)
            have hko : outs.length = k := hdr.out.len
            have hk64 : k ≤ 6 := by have := hdr.out.le; rw [hlx.out, hlen.out] at this; omega
            have hol : outs.length ≤ 6 := by omega
            have hi0' : (0 : Int) ≤ i := by omega
            have hge : decide ((i : Int) < 0) = false := by simp
            clear hz' hwy hz hko
            obtain ⟨bL, oL, rfl, hb3, hb4, _⟩ := hLq.row (by omega)
            obtain rfl : bL = rbL := by omega
            go_wp2_with (first
              | (at_builtin; refine wpList_append_raw _ rfl (.tmp 40) (.tmp 43) 66 rfl w.heap.size 63 i1 (.int .u64 0) 1 8 Try.underlying66 hj0 hk0 hk1 hk2 rfl (by decide) _ _ _ rfl (hownq.alloc _) _ _ _ 1 1 [.int .u64 (i : Int)] rfl (raw_oneg _ _ _ _ _ (by simp)) ?c1 ?c2 ?c3 ?c4 ?_))
            case c1 => first | rfl | (intro u hu; simp at hu; subst hu; rfl)
            case c2 => unfold maxLen; omega
            case c3 => omega
            case c4 => have := hbq.size; simp; omega
            intro A3 c3 w3 hown3 hg3 hob
            have hsb := hbq.size
            have hb3' := (hbq.alloc hsb (.cells #[.int .u64 (i : Int)] 63)).grown hg3 (by simp; omega) (fun q hq => (hownq.lt q hq).1)
            have hs3 := hg3.size
            simp at hs3
            have hL3 := keepD_of (W' := w3) (hLq.alloc (by omega) (.cells #[.int .u64 (i : Int)] 63)) fun _ _ hc => hg3.block bL (World.block_lt_of_cell? _ _ hc) hne.symm
            have hlt3 := fun q hq => (hown3.lt q hq).2
            have hown4 : w3.ownsRow w.heap.size 63 1 (.slice A3 (outs.length + 1) c3) (outs ++ [(i : Int)]).length ((outs ++ [(i : Int)]).map (Value.int .u64)) := by simpa using hown3
            have HL3 := Lib.hid hlt3
            have hwl := Lib.hid hL3.wf
            have hT1 : Descs w3 bL (bL + 1) (some ⟨bL, oL, none⟩) i (left.take i) := hL3.take_ (by omega)
            have hT2 := hL3.dropAt (k := i + 1) (by omega) hcL
            have q5 : IntKind.i64.wrap ((i : Int) + 1) = (i : Int) + 1 := IntWalk.i64_in _ (by omega)
            have q6 : (0 : Int) ≤ (i : Int) + 1 := by omega
            have q7 : ((i : Int) + 1).toNat = i + 1 := by omega
            have q8 : (i : Int) + 1 ≤ nL := by omega
            have q9 : i ≤ cL := by omega
            have q10 : i + 1 ≤ nL := by omega
            have q11 : (i : Int) ≤ (i : Int) + 1 := by omega
            have q12 : (i : Int) ≤ cL := by omega
            clear hob hg3 hLq hL3 hownq hown3 hbq hlt3
            by_cases hce : cL = i + 1
            · rw [if_pos hce] at hT2
              go_wp2_with fail
              go_region_law (first
              | (refine step_append_raw (by rfl) (.tmp 45) (.tmp 48) 22 (by rfl) w3.heap.size 29 i0 _ 2 16 Try.underlying22 hi0 hz0 hz1 hz2 (by rfl) (by decide) _ _ _ (by rfl) (own_new (by first | exact heap_newg _ _ _ (by simp) | exact (Below.heap_alloc _ _ _ (by simp)).trans (heap_newg _ _ _ (by simp))) (by first | omega | exact Nat.le_refl _ | (simp; done) | (simp; omega))) _ _ _ i _ (flatD (left.take i)) (by rfl) (hT1.below (B := w3.heap.size) (by repeat (first | exact Below.refl _ _ | assumption | (refine Below.drew ?_) | (refine Below.alloc ?_ (by first | omega | exact Nat.le_refl _ | (simp; done) | (simp; omega)) _))) (by first | omega | exact Nat.le_refl _ | (simp; done) | (simp; omega))).raw (flatD_one _) (by unfold maxLen; omega) (by omega) (by first | omega | exact Nat.le_refl _ | (simp; done) | (simp; omega)) ?_; intro E1 d1 u1 hown1 hgr1 _; (try simp only [Nat.zero_add, List.nil_append] at hown1); have hb1 : Below w3.heap.size w3 u1 := Below.grown (by repeat (first | exact Below.refl _ _ | assumption | (refine Below.drew ?_) | (refine Below.alloc ?_ (by first | omega | exact Nat.le_refl _ | (simp; done) | (simp; omega)) _))) hgr1 (by first | omega | exact Nat.le_refl _ | (simp; done) | (simp; omega)) (fun q hq => by simp [Value.ownBlock] at hq; omega); have hs1 := hb1.size; have hx1 : w3.heap.size < u1.heap.size := (by have := hgr1.size; (try simp at this); omega); clear hgr1)
              | (refine step_append_raw (by rfl) (.tmp 49) (.tmp 53) 22 (by rfl) w3.heap.size 29 i0 _ 2 16 Try.underlying22 hi0 hz0 hz1 hz2 (by rfl) (by decide) _ _ _ (by rfl) (by first | exact hown1 | exact hown1.alloc _) _ _ _ (nL - (i + 1)) _ (flatD (left.drop (i + 1))) (by rfl) (hT2.below (B := w3.heap.size) (by repeat (first | exact Below.refl _ _ | assumption | (refine Below.drew ?_) | (refine Below.alloc ?_ (by first | omega | exact Nat.le_refl _ | (simp; done) | (simp; omega)) _))) (by first | omega | exact Nat.le_refl _ | (simp; done) | (simp; omega))).raw (flatD_one _) (by unfold maxLen; omega) (by omega) (by first | omega | exact Nat.le_refl _ | (simp; done) | (simp; omega)) ?_; intro E2 d2 u2 hown2 hgr2 _; have hb2 : Below w3.heap.size w3 u2 := Below.grown (by repeat (first | exact Below.refl _ _ | assumption | (refine Below.drew ?_) | (refine Below.alloc ?_ (by first | omega | exact Nat.le_refl _ | (simp; done) | (simp; omega)) _))) hgr2 (by first | omega | exact Nat.le_refl _ | (simp; done) | (simp; omega)) (fun q hq => (hown1.lt q hq).1); have hs2 := hb2.size; have hx2 : w3.heap.size < u2.heap.size := (by have h5 := hgr2.size; (try simp at h5); omega); clear hgr2 hb1 hs1 hown1))
              all_goals
                have hb4' := hb3'.trans (hb2.mono (by omega))
                obtain ⟨rb4, e1, e2, e3, e4⟩ := erased (w := w3) (i := i) hlen.out hil (by omega) hwl.out hown2 (by omega) hx2
                have hownF := own_belowB hown4 hb2 (Nat.le_refl _)
                have hneF : (Value.slice A3 (outs.length + 1) c3).ownBlock ≠ some rb4 := fun e => by
                  have := HL3.out _ e
                  omega
                go_wp2
                go_roundw
                case rel => exact ⟨k + 1, left.eraseIdx i, outs ++ [(i : Int)], E2, i + (nL - (i + 1)), d2, rb4, by go_num, by omega, hdr2, hap2, rfl, e4, by omega, e3, e2, by simpa using hownF, by simpa using hneF, hb4', by omega⟩
                case measure => simp [intOf]; omega
            · rw [if_neg hce] at hT2
              go_wp2_with fail
              go_region_law (first
              | (refine step_append_raw (by rfl) (.tmp 45) (.tmp 48) 22 (by rfl) w3.heap.size 29 i0 _ 2 16 Try.underlying22 hi0 hz0 hz1 hz2 (by rfl) (by decide) _ _ _ (by rfl) (own_new (by first | exact heap_newg _ _ _ (by simp) | exact (Below.heap_alloc _ _ _ (by simp)).trans (heap_newg _ _ _ (by simp))) (by first | omega | exact Nat.le_refl _ | (simp; done) | (simp; omega))) _ _ _ i _ (flatD (left.take i)) (by rfl) (hT1.below (B := w3.heap.size) (by repeat (first | exact Below.refl _ _ | assumption | (refine Below.drew ?_) | (refine Below.alloc ?_ (by first | omega | exact Nat.le_refl _ | (simp; done) | (simp; omega)) _))) (by first | omega | exact Nat.le_refl _ | (simp; done) | (simp; omega))).raw (flatD_one _) (by unfold maxLen; omega) (by omega) (by first | omega | exact Nat.le_refl _ | (simp; done) | (simp; omega)) ?_; intro E1 d1 u1 hown1 hgr1 _; (try simp only [Nat.zero_add, List.nil_append] at hown1); have hb1 : Below w3.heap.size w3 u1 := Below.grown (by repeat (first | exact Below.refl _ _ | assumption | (refine Below.drew ?_) | (refine Below.alloc ?_ (by first | omega | exact Nat.le_refl _ | (simp; done) | (simp; omega)) _))) hgr1 (by first | omega | exact Nat.le_refl _ | (simp; done) | (simp; omega)) (fun q hq => by simp [Value.ownBlock] at hq; omega); have hs1 := hb1.size; have hx1 : w3.heap.size < u1.heap.size := (by have := hgr1.size; (try simp at this); omega); clear hgr1)
              | (refine step_append_raw (by rfl) (.tmp 49) (.tmp 53) 22 (by rfl) w3.heap.size 29 i0 _ 2 16 Try.underlying22 hi0 hz0 hz1 hz2 (by rfl) (by decide) _ _ _ (by rfl) (by first | exact hown1 | exact hown1.alloc _) _ _ _ (nL - (i + 1)) _ (flatD (left.drop (i + 1))) (by rfl) (hT2.below (B := w3.heap.size) (by repeat (first | exact Below.refl _ _ | assumption | (refine Below.drew ?_) | (refine Below.alloc ?_ (by first | omega | exact Nat.le_refl _ | (simp; done) | (simp; omega)) _))) (by first | omega | exact Nat.le_refl _ | (simp; done) | (simp; omega))).raw (flatD_one _) (by unfold maxLen; omega) (by omega) (by first | omega | exact Nat.le_refl _ | (simp; done) | (simp; omega)) ?_; intro E2 d2 u2 hown2 hgr2 _; have hb2 : Below w3.heap.size w3 u2 := Below.grown (by repeat (first | exact Below.refl _ _ | assumption | (refine Below.drew ?_) | (refine Below.alloc ?_ (by first | omega | exact Nat.le_refl _ | (simp; done) | (simp; omega)) _))) hgr2 (by first | omega | exact Nat.le_refl _ | (simp; done) | (simp; omega)) (fun q hq => (hown1.lt q hq).1); have hs2 := hb2.size; have hx2 : w3.heap.size < u2.heap.size := (by have h5 := hgr2.size; (try simp at h5); omega); clear hgr2 hb1 hs1 hown1))
              all_goals
                have hb4' := hb3'.trans (hb2.mono (by omega))
                obtain ⟨rb4, e1, e2, e3, e4⟩ := erased (w := w3) (i := i) hlen.out hil (by omega) hwl.out hown2 (by omega) hx2
                have hownF := own_belowB hown4 hb2 (Nat.le_refl _)
                have hneF : (Value.slice A3 (outs.length + 1) c3).ownBlock ≠ some rb4 := fun e => by
                  have := HL3.out _ e
                  omega
                go_wp2
                go_roundw
                case rel => exact ⟨k + 1, left.eraseIdx i, outs ++ [(i : Int)], E2, i + (nL - (i + 1)), d2, rb4, by go_num, by omega, hdr2, hap2, rfl, e4, by omega, e3, e2, by simpa using hownF, by simpa using hneF, hb4', by omega⟩
                case measure => simp [intOf]; omega
    · obtain rfl : k = m := by omega
      have hdd := Lib.hid (hdr.out.done (by rw [hly.out]; exact Nat.le_refl _))
      have e : r = 0 := by rw [← HR.out, drawsC, if_pos HM.out, hdd.out]; rfl
      subst e
      have e2 : Hid (drawsL own cap xs ys = outs) := by rw [Hid, drawsL, if_pos HM.out, hdd.out]; rfl
      have hrg := hdr.out.rng
      rw [hlx.out] at hrg
      have hHR := Lib.hid hrg
      have hlo := Lib.hid hdr.out.len
      clear hrg
      go_wp2
      go_ret2
      rw [e2.out]
      refine ⟨Ao, _, co, rfl, hoc, hbw, by omega, Ints.of_own hown (fun x hx => ?_) (by rw [hlo.out]; exact hbm)⟩
      have := hHR.out x hx
      simp [IntKind.min, IntKind.max, IntKind.signed, IntKind.bits]
      omega
end De
end Go.Proofs.Ytpjomdkcckamkaa
