/- DescBest: the walk. -/
import Derived.Test.YtpjomdkcckamkaaDeRef4
import Derived.Test.YtpjomdkcckamkaaCaPure
namespace Go.Proofs.Ytpjomdkcckamkaa
open Go.RowKit Go.Sort Go.Shelf
namespace De
theorem cntId_snoc (xs : List (Int × Int)) {k : Nat} (hk : k < xs.length) (y : Int) : (xs.take (k + 1)).countP (fun x => x.1 == y) = (xs.take k).countP (fun x => x.1 == y) + if (xs[k]?.getD (0, 0)).1 = y then 1 else 0 := by
  rw [List.take_succ_eq_append_getElem hk, List.countP_append, List.getElem?_eq_getElem hk]
  simp only [Option.getD_some, List.countP_singleton]
  by_cases h : xs[k].1 = y <;> simp [h]
theorem getD_mem {xs : List (Int × Int)} {k : Nat} (hk : k < xs.length) : xs[k]?.getD (0, 0) ∈ xs := by rw [List.getElem?_eq_getElem hk]; exact List.getElem_mem _

theorem Sm_refl (xs : List (Int × Int)) : Sm xs xs = true := beq_self_eq_true _
theorem resB_len (l : List (Int × Int)) : (resB l).length ≤ l.length := by
  unfold resB
  split
  · exact best_len l
  · simp

set_option maxHeartbeats 6400000 in
set_option maxRecDepth 100000 in
theorem descBest_any (w : World) (A0 : Option Addr) (n0 c0 : Nat) (xs : List (Int × Int)) (hX : Descs w 0 w.heap.size A0 n0 xs) (A1 : Option Addr) (n1 c1 : Nat) (ys : List (Int × Int)) (hY : Descs w 0 w.heap.size A1 n1 ys) :
    Calls Try.prog 3 #[.slice A0 n0 c0, .slice A1 n1 c1] w fun e w' => e = .returned (.bool true) ∧ Below w.heap.size w w' := by
  have hb0 := hX.big
  have hb1 := hY.big
  by_cases h64 : n0 > 64
  · go_enter Try.func3, Try.ntmps3
    go_wp2_with fail
    refine (alive_p _).mono ?_
    rintro e w1 ⟨rfl, hb, _⟩
    go_wp2
    go_ret
    exact ⟨rfl, hb⟩
  · by_cases h65 : (n1 : Int) > 64 - n0
    · go_enter Try.func3, Try.ntmps3
      go_wp2_with fail
      refine (alive_p _).mono ?_
      rintro e w1 ⟨rfl, hb, _⟩
      go_wp2
      go_ret
      exact ⟨rfl, hb⟩
    · obtain ⟨i0, hi0, hz0, hz1, hz2⟩ := info_parts Try.info29
      have hd0 : decide ((64 : Int) < n0) = false := by simp; omega
      have hd1 : decide ((64 : Int) - n0 < n1) = false := by simp; omega
      have hn : n0 + n1 ≤ 64 := by omega
      obtain ⟨r, hr⟩ : ∃ r, check (xs ++ ys) = r := ⟨_, rfl⟩
      have hr2 : check (ys ++ xs) = r := by rw [← hr]; exact check_perm List.perm_append_comm
      have HR := Lib.hid hr
      have HR2 := Lib.hid hr2
      have hLX := Lib.hid hX.len
      have hLY := Lib.hid hY.len
      have hwx := Lib.hid hX.wf
      have hwy := Lib.hid hY.wf
      clear hr hr2
      go_enter Try.func3, Try.ntmps3
      go_wp2_with fail
      refine (alive_p _).mono ?_
      rintro e w1 ⟨rfl, hb, hp1⟩
      have hs1 := hb.size
      have X := hX.below hb (Nat.le_refl _)
      have Y := hY.below hb (Nat.le_refl _)
      have hc := hb
      clear hb hX hY
      go_wp2_with (first
        | (at_builtin; refine wpList_append_raw _ rfl (.tmp 38) (.tmp 39) 22 rfl w1.heap.size 29 i0 _ 2 16 Try.underlying22 hi0 hz0 hz1 hz2 rfl (by decide) _ _ _ rfl (own_new (heap_newg _ _ _ rfl) (Nat.le_refl _)) _ _ _ n0 _ _ rfl (X.alloc (by omega) _).raw (flatD_one _) ?c2 ?c3 ?c4 ?_))
      case c2 => unfold maxLen; omega
      case c3 => omega
      case c4 => simp
      intro A2 c2 w2 hown2 hg2 _
      (try simp only [Nat.zero_add, List.nil_append] at hown2)
      have hb2 : Below w1.heap.size w1 w2 := ((Below.refl _ w1).alloc (Nat.le_refl _) _).grown hg2 (by simp) (fun q hq => by simp [Value.ownBlock] at hq; omega)
      have hs2 := hb2.size
      clear hg2
      go_wp2_with (first
        | (at_builtin; refine wpList_append_raw _ rfl (.tmp 40) (.tmp 41) 22 rfl w1.heap.size 29 i0 _ 2 16 Try.underlying22 hi0 hz0 hz1 hz2 rfl (by decide) _ _ _ rfl hown2 _ _ _ n1 _ _ rfl (Y.below hb2 (by omega)).raw (flatD_one _) ?d2 ?d3 ?d4 ?_))
      case d2 => unfold maxLen; omega
      case d3 => omega
      case d4 => omega
      intro A3 c3 w3 hown3 hg3 _
      have hb3 : Below w1.heap.size w1 w3 := hb2.grown hg3 (by omega) (fun q hq => (hown2.lt q hq).1)
      rw [← flatD_append] at hown3
      have hwf3 : ∀ x ∈ xs ++ ys, Rng x := fun x hx => by
        rcases List.mem_append.1 hx with h | h
        · exact hwx.out x h
        · exact hwy.out x h
      have B3 := Descs.of_own hown3 hwf3 (by omega)
      have hs3 := hb3.size
      have X := X.below hb3 (by omega)
      have Y := Y.below hb3 (by omega)
      have hc := hc.trans (hb3.mono (by omega))
      clear hb2 hg3 hown2 hown3 hb3 hs2
      -- SECOND
      go_wp2_with (first
        | (at_builtin; refine wpList_append_raw _ rfl (.tmp 43) (.tmp 44) 22 rfl w3.heap.size 29 i0 _ 2 16 Try.underlying22 hi0 hz0 hz1 hz2 rfl (by decide) _ _ _ rfl (own_new (heap_newg _ _ _ rfl) (Nat.le_refl _)) _ _ _ n1 _ _ rfl (Y.alloc (by omega) _).raw (flatD_one _) ?pa ?pb ?pc ?_))
      case pa => unfold maxLen; omega
      case pb => omega
      case pc => simp
      intro Ai ci u4 howni hgi _
      (try simp only [Nat.zero_add, List.nil_append] at howni)
      have hbi : Below w3.heap.size w3 u4 := ((Below.refl _ w3).alloc (Nat.le_refl _) _).grown hgi (by simp) (fun q hq => by simp [Value.ownBlock] at hq; omega)
      have hsi := hbi.size
      clear hgi
      go_wp2_with (first
        | (at_builtin; refine wpList_append_raw _ rfl (.tmp 45) (.tmp 46) 22 rfl w3.heap.size 29 i0 _ 2 16 Try.underlying22 hi0 hz0 hz1 hz2 rfl (by decide) _ _ _ rfl howni _ _ _ n0 _ _ rfl (X.below hbi (by omega)).raw (flatD_one _) ?pd ?pe ?pf ?_))
      case pd => unfold maxLen; omega
      case pe => omega
      case pf => omega
      intro At ct w4 hownj hgj _
      have hbj : Below w3.heap.size w3 w4 := hbi.grown hgj (by omega) (fun q hq => (howni.lt q hq).1)
      rw [← flatD_append] at hownj
      have hwfj : ∀ x ∈ ys ++ xs, Rng x := fun x hx => by
        rcases List.mem_append.1 hx with h | h
        · exact hwy.out x h
        · exact hwx.out x h
      have Dt := Descs.of_own hownj hwfj (by omega)
      have hs_w4 := hbj.size
      have B3 := B3.below hbj (by omega)
      have X := X.below hbj (by omega)
      have Y := Y.below hbj (by omega)
      have hc := hc.trans (hbj.mono (by omega))
      clear hbi hgj howni hownj hbj hsi hwfj
      by_cases hz : r = 0
      · subst hz
        have hrb : Hid (resB (xs ++ ys) = best (xs ++ ys)) := by rw [Hid, resB, if_pos HR.out]
        have hrb2 : Hid (resB (ys ++ xs) = best (xs ++ ys)) := by rw [Hid, resB, if_pos HR2.out, best_swap]
        go_wp2_with fail
        refine (Best_any _ _ _ A3 (n0 + n1) c3 (xs ++ ys) B3 (by omega) (by omega) 0 HR.out).mono ?_
        rintro e w5 ⟨Ax, nx, cx, rx, rfl, hccx, hb, hRx, hR2x, Dx⟩
        have hs_w5 := hb.size
        have B3 := B3.below hb (by omega)
        have X := X.below hb (by omega)
        have Y := Y.below hb (by omega)
        have Dt := Dt.below hb (by omega)
        have hc := hc.trans (hb.mono (by omega))
        clear hb
        go_wp2_with fail
        refine (Best_any _ _ _ At (n1 + n0) ct (ys ++ xs) Dt (by omega) (by omega) 0 HR2.out).mono ?_
        rintro e w6 ⟨Ay, ny, cy, ry, rfl, hccy, hb, hRy, hR2y, Dy⟩
        have hs_w6 := hb.size
        have B3 := B3.below hb (by omega)
        have X := X.below hb (by omega)
        have Y := Y.below hb (by omega)
        have Dt := Dt.below hb (by omega)
        have Dx := Dx.below hb (by omega)
        have hc := hc.trans (hb.mono (by omega))
        clear hb
        have hz1' : check (resB (xs ++ ys)) = 0 := by rw [hrb.out]; exact check_best HR.out
        have HZ := Lib.hid hz1'
        clear hz1'
        have hp0 := Lib.hid (check_left HR.out)
        have hq0 : check (resB xs ++ ys) = 0 := by rw [resB, if_pos hp0.out]; exact check_best_app HR.out
        have HQ := Lib.hid hq0
        clear hq0
        have hrz : Hid (resB (resB (xs ++ ys)) = best (xs ++ ys)) := by rw [Hid, resB, if_pos HZ.out, hrb.out, best_best]
        have hrq : Hid (resB (resB xs ++ ys) = best (xs ++ ys)) := by rw [Hid, resB, if_pos HQ.out, resB, if_pos hp0.out, best_step]
        go_wp2_with fail
        refine (Best_any _ _ _ Ax nx cx _ Dx (by omega) (by omega) 0 HZ.out).mono ?_
        rintro e w7 ⟨Az, nz, cz, rz, rfl, hccz, hb, hRz, hR2z, Dz⟩
        have hs_w7 := hb.size
        have B3 := B3.below hb (by omega)
        have X := X.below hb (by omega)
        have Y := Y.below hb (by omega)
        have Dt := Dt.below hb (by omega)
        have Dx := Dx.below hb (by omega)
        have Dy := Dy.below hb (by omega)
        have hc := hc.trans (hb.mono (by omega))
        clear hb
        go_wp2_with fail
        refine (Best_any _ _ _ A0 n0 c0 xs X (by omega) (by omega) 0 hp0.out).mono ?_
        rintro e w8 ⟨Ap, np, cp, rp, rfl, hccp, hb, hRp, hR2p, Dp⟩
        have hs_w8 := hb.size
        have B3 := B3.below hb (by omega)
        have X := X.below hb (by omega)
        have Y := Y.below hb (by omega)
        have Dt := Dt.below hb (by omega)
        have Dx := Dx.below hb (by omega)
        have Dy := Dy.below hb (by omega)
        have Dz := Dz.below hb (by omega)
        have hc := hc.trans (hb.mono (by omega))
        clear hb
        have hnp : np ≤ n0 := by have h1 := Dp.len; have h2 := resB_len xs; have h3 := hLX.out; omega
        have hwp := Lib.hid Dp.wf
        go_wp2_with (first
          | (at_builtin; refine wpList_append_raw _ rfl (.tmp 69) (.tmp 70) 22 rfl w8.heap.size 29 i0 _ 2 16 Try.underlying22 hi0 hz0 hz1 hz2 rfl (by decide) _ _ _ rfl (own_new (heap_newg _ _ _ rfl) (Nat.le_refl _)) _ _ _ np _ _ rfl (Dp.alloc (by omega) _).raw (flatD_one _) ?qa ?qb ?qc ?_))
        case qa => unfold maxLen; omega
        case qb => omega
        case qc => simp
        intro Ai ci u9 howni hgi _
        (try simp only [Nat.zero_add, List.nil_append] at howni)
        have hbi : Below w8.heap.size w8 u9 := ((Below.refl _ w8).alloc (Nat.le_refl _) _).grown hgi (by simp) (fun q hq => by simp [Value.ownBlock] at hq; omega)
        have hsi := hbi.size
        clear hgi
        go_wp2_with (first
          | (at_builtin; refine wpList_append_raw _ rfl (.tmp 71) (.tmp 72) 22 rfl w8.heap.size 29 i0 _ 2 16 Try.underlying22 hi0 hz0 hz1 hz2 rfl (by decide) _ _ _ rfl howni _ _ _ n1 _ _ rfl (Y.below hbi (by omega)).raw (flatD_one _) ?qd ?qe ?qf ?_))
        case qd => unfold maxLen; omega
        case qe => omega
        case qf => omega
        intro As cs w9 hownj hgj _
        have hbj : Below w8.heap.size w8 w9 := hbi.grown hgj (by omega) (fun q hq => (howni.lt q hq).1)
        rw [← flatD_append] at hownj
        have hwfj : ∀ x ∈ resB xs ++ ys, Rng x := fun x hx => by
          rcases List.mem_append.1 hx with h | h
          · exact hwp.out x h
          · exact hwy.out x h
        have Ds := Descs.of_own hownj hwfj (by omega)
        have hs_w9 := hbj.size
        have B3 := B3.below hbj (by omega)
        have X := X.below hbj (by omega)
        have Y := Y.below hbj (by omega)
        have Dt := Dt.below hbj (by omega)
        have Dx := Dx.below hbj (by omega)
        have Dy := Dy.below hbj (by omega)
        have Dz := Dz.below hbj (by omega)
        have Dp := Dp.below hbj (by omega)
        have hc := hc.trans (hbj.mono (by omega))
        clear hbi hgj howni hownj hbj hsi hwfj
        go_wp2_with fail
        refine (Best_any _ _ _ As (np + n1) cs (resB xs ++ ys) Ds (by omega) (by omega) 0 HQ.out).mono ?_
        rintro e w10 ⟨Aq, nq, cq, rq, rfl, hccq, hb, hRq, hR2q, Dq⟩
        have hs_w10 := hb.size
        have B3 := B3.below hb (by omega)
        have X := X.below hb (by omega)
        have Y := Y.below hb (by omega)
        have Dt := Dt.below hb (by omega)
        have Dx := Dx.below hb (by omega)
        have Dy := Dy.below hb (by omega)
        have Dz := Dz.below hb (by omega)
        have Dp := Dp.below hb (by omega)
        have hc := hc.trans (hb.mono (by omega))
        clear hb
        rw [hrb.out] at Dx
        rw [hrb2.out] at Dy
        rw [hrz.out] at Dz
        rw [hrq.out] at Dq
        clear HZ HQ hrb hrb2 hrz hrq hp0 X Y Dt Dp Ds hwp
        go_wp2_with fail
        refine (Same_b _ _ _ _ _ Ax Ay nx cx ny cy _ _ Dx Dy true (Sm_refl _)).mono ?_
        rintro e w11 ⟨rfl, hb⟩
        have hs_w11 := hb.size
        have B3 := B3.below hb (by omega)
        have Dx := Dx.below hb (by omega)
        have Dz := Dz.below hb (by omega)
        have Dq := Dq.below hb (by omega)
        have hc := hc.trans (hb.mono (by omega))
        clear hb
        go_wp2_with fail
        refine (Same_b _ _ _ _ _ Ax Az nx cx nz cz _ _ Dx Dz true (Sm_refl _)).mono ?_
        rintro e w12 ⟨rfl, hb⟩
        have hs_w12 := hb.size
        have B3 := B3.below hb (by omega)
        have Dx := Dx.below hb (by omega)
        have Dq := Dq.below hb (by omega)
        have hc := hc.trans (hb.mono (by omega))
        clear hb
        go_wp2_with fail
        refine (Same_b _ _ _ _ _ Ax Aq nx cx nq cq _ _ Dx Dq true (Sm_refl _)).mono ?_
        rintro e w13 ⟨rfl, hb⟩
        have hs_w13 := hb.size
        have B3 := B3.below hb (by omega)
        have Dx := Dx.below hb (by omega)
        have hc := hc.trans (hb.mono (by omega))
        clear hb
        have hBI := Lib.hid (best_is (xs ++ ys))
        have mixed : Try.prog.follows .mixedOrders = true := by kernel_rfl
        have hLB := Lib.hid B3.len
        have hLx := Lib.hid Dx.len
        have hbx := Dx.big
        clear Dy Dz Dq
        generalize hB : best (xs ++ ys) = B at Dx hBI hLx
        clear hB
        generalize hS : xs ++ ys = S at B3 hBI hLB HR
        clear hS HR2
        go_wp2
        go_loopw [18, 19, 20] (fun kv _ _ wr => ∃ k : Nat, kv = .int .i64 k ∧ k ≤ n0 + n1 ∧ Gr w13 wr) (fun kv _ _ _ => n0 + n1 - (intOf kv).toNat)
        case atStart => exact ⟨0, rfl, Nat.zero_le _, Gr.refl _⟩
        case round =>
          obtain ⟨k, rfl, hk, hg⟩ := hrel
          by_cases hlt : k < n0 + n1
          · obtain ⟨b, off, rfl, hb1', hb2', hcell⟩ := (B3.gr hg (by omega)).row (by omega)
            obtain ⟨⟨g1, _⟩, g3, _⟩ := hcell k hlt
            have hdm : S[k]?.getD (0, 0) ∈ S := getD_mem (by rw [hLB.out]; exact hlt)
            have hone := hBI.out.one hdm
            have hmx : ∀ x ∈ B, x.1 = (S[k]?.getD (0, 0)).1 → (S[k]?.getD (0, 0)).2 ≤ x.2 := fun x hx e => ((hBI.out.mem_iff x).1 hx).2 _ hdm e.symm
            generalize S[k]?.getD (0, 0) = d at g1 g3 hdm hone hmx
            obtain ⟨d1, d2⟩ := d
            have HD1 := Lib.hid hone
            have HM := Lib.hid hmx
            have hk0 : (0 : Int) ≤ k := by omega
            have hkN : (k : Int) < (n0 : Int) + n1 := by omega
            have hsr := hg.below.size
            obtain ⟨wo, rfl⟩ : ∃ wo : World, wo = wr := ⟨_, rfl⟩
            clear hcell hdm hone hmx
            go_wp2
            go_loopw [19, 20] (fun mv nv wr => ∃ j m : Nat, nv = .int .i64 j ∧ mv = .int .i64 m ∧ j ≤ nx ∧ m ≤ j ∧ Hid ((B.take j).countP (fun x => x.1 == d1) = m) ∧ Gr wo wr) (fun _ nv _ => nx - (intOf nv).toNat)
            case atStart => exact ⟨0, 0, rfl, rfl, Nat.zero_le _, Nat.le_refl _, by simp [Hid], Gr.refl _⟩
            case round =>
              obtain ⟨j, m, rfl, rfl, hj, hmj, hcnt, hg2⟩ := hrel
              have hg3 := hg.trans hg2
              have hsr2 := hg3.below.size
              by_cases hjl : j < nx
              · obtain ⟨b', off', rfl, _, hb3', hcell⟩ := (Dx.gr hg3 (by omega)).row (by omega)
                obtain ⟨⟨x1', _⟩, x3', _⟩ := hcell j hjl
                have k1 := Below.keepCell hg2.below (show b < wo.heap.size by omega) g1
                have k2 := Below.keepCell hg2.below (show b < wo.heap.size by omega) g3
                have hsn := cntId_snoc B (k := j) (by rw [hLx.out]; exact hjl) d1
                have hxm : B[j]?.getD (0, 0) ∈ B := getD_mem (by rw [hLx.out]; exact hjl)
                rw [hcnt.out] at hsn
                generalize B[j]?.getD (0, 0) = y at x1' x3' hsn hxm
                obtain ⟨y1, y2⟩ := y
                have hj0 : (0 : Int) ≤ j := by omega
                have hjn : (j : Int) < nx := by omega
                clear hcell
                by_cases hy : y1 = d1
                · subst hy
                  rw [if_pos rfl] at hsn
                  have hle : ¬ y2 < d2 := by have := HM.out _ hxm rfl; simp only at this; omega
                  have hle2 : decide (y2 < d2) = false := by simpa using hle
                  obtain ⟨q, hq⟩ : ∃ q, S.count (y1, y2) = q := ⟨_, rfl⟩
                  have hq0 : 0 < q := by rw [← hq]; exact List.count_pos_iff.2 (hBI.out.sub _ hxm)
                  have hqz : ((q : Int) == 0) = false := by rw [beq_eq_false_iff_ne]; omega
                  have HQ := Lib.hid hq
                  have HSN := Lib.hid hsn
                  clear hsn hcnt hq hxm
                  go_wp2
                  go_quiet (fail)
                  go_wp2_with fail
                  have hg4 := hg3.drewN nq
                  have hgo := hg2.drewN nq
                  have hBr : Hid (∀ m os, Descs (grow ((wr.drewN nq).drewN m) os) w1.heap.size w3.heap.size (some ⟨b, off, none⟩) (n0 + n1) S) := fun m os => (B3.gr hg4 (by omega)).gr ⟨m, os, rfl⟩ (by have := hg4.below.size; omega)
                  generalize hww : wr.drewN nq = ww at hg4 hgo hBr
                  have hsw : wr.heap.size = ww.heap.size := by rw [← hww]; rfl
                  have f1 : ∀ m os, (grow (ww.drewN m) os).cell? ⟨b', off' + j * 2, none⟩ = some (.int .i64 y1) := fun m os => cell_grown (by show b' < ww.heap.size; omega) (by rw [← hww]; exact x1') m os
                  have f2 : ∀ m os, (grow (ww.drewN m) os).cell? ⟨b', off' + j * 2 + 1, none⟩ = some (.int .i64 y2) := fun m os => cell_grown (by show b' < ww.heap.size; omega) (by rw [← hww]; exact x3') m os
                  have f3 : ∀ m os, (grow (ww.drewN m) os).cell? ⟨b, off + k * 2 + 1, none⟩ = some (.int .i64 d2) := fun m os => cell_grown (by show b < ww.heap.size; omega) (by rw [← hww]; exact k2) m os
                  have HSW := Lib.hid hsw
                  clear hww hsw x1' x3' k1 k2
                  go_quiet_grown ((go_at_call 21; with_reducible exact Calls.gr (count_g _ _ _ _ (n0 + n1) _ _ (hBr.out _ _) (by simp; have := HSW.out; omega) y1 y2 q HQ.out)))
                  dsimp only
                  generalize hw : grow (ww.drewN nq) osq = wr2
                  have hg5 : Gr wo wr2 := hgo.trans ⟨nq, osq, hw.symm⟩
                  clear hw f1 f2 f3
                  go_wp2
                  go_roundw
                  case rel => exact ⟨j + 1, m + 1, by go_num, by go_num, by omega, by omega, HSN, hg5⟩
                  case measure => simp [intOf]; omega
                · have hyb : (y1 == d1) = false := by simpa using hy
                  rw [if_neg hy, Nat.add_zero] at hsn
                  have HSN := Lib.hid hsn
                  clear hsn hcnt hxm
                  go_wp2
                  go_quiet (fail)
                  go_wp2
                  go_roundw
                  case rel => exact ⟨j + 1, m, by go_num, rfl, by omega, by omega, HSN, hg2.drewN _⟩
                  case measure => simp [intOf]; omega
              · obtain rfl : j = nx := by omega
                have hm1 := hcnt.out
                rw [List.take_of_length_le (by rw [hLx.out]; exact Nat.le_refl _), HD1.out] at hm1
                subst hm1
                clear hcnt
                go_wp2
                go_roundw
                case rel => exact ⟨k + 1, by go_num, by omega, hg3⟩
                case measure => simp [intOf]; omega
          · obtain rfl : k = n0 + n1 := by omega
            go_wp2
            go_ret
            exact ⟨rfl, hc.trans (hg.below.mono (by omega))⟩
      · have hne : (r == 0) = false := by simpa using hz
        have hne2 : (r != 0) = true := by simpa using hz
        have hrr : (r == r) = true := by simp
        have hrb : Hid (resB (xs ++ ys) = []) := by rw [Hid, resB, if_neg (by rw [HR.out]; exact hz)]
        have hrb2 : Hid (resB (ys ++ xs) = []) := by rw [Hid, resB, if_neg (by rw [HR2.out]; exact hz)]
        go_wp2_with fail
        refine (Best_any _ _ _ A3 (n0 + n1) c3 (xs ++ ys) B3 (by omega) (by omega) r HR.out).mono ?_
        rintro e w5 ⟨Ax, nx, cx, rx, rfl, hccx, hb, hRx, hR2x, Dx⟩
        have hs_w5 := hb.size
        have B3 := B3.below hb (by omega)
        have X := X.below hb (by omega)
        have Y := Y.below hb (by omega)
        have Dt := Dt.below hb (by omega)
        have hc := hc.trans (hb.mono (by omega))
        clear hb
        go_wp2_with fail
        refine (Best_any _ _ _ At (n1 + n0) ct (ys ++ xs) Dt (by omega) (by omega) r HR2.out).mono ?_
        rintro e w6 ⟨Ay, ny, cy, ry, rfl, hccy, hb, hRy, hR2y, Dy⟩
        have hs_w6 := hb.size
        have B3 := B3.below hb (by omega)
        have X := X.below hb (by omega)
        have Y := Y.below hb (by omega)
        have Dt := Dt.below hb (by omega)
        have Dx := Dx.below hb (by omega)
        have hc := hc.trans (hb.mono (by omega))
        clear hb
        obtain ⟨rz', hz1'⟩ : ∃ q, check (resB (xs ++ ys)) = q := ⟨_, rfl⟩
        have HZ := Lib.hid hz1'
        clear hz1'
        obtain ⟨rp', hp1'⟩ : ∃ q, check xs = q := ⟨_, rfl⟩
        have HP := Lib.hid hp1'
        clear hp1'
        obtain ⟨rq', hq1'⟩ : ∃ q, check (resB xs ++ ys) = q := ⟨_, rfl⟩
        have HQ := Lib.hid hq1'
        clear hq1'
        go_wp2_with fail
        refine (Best_any _ _ _ Ax nx cx _ Dx (by omega) (by omega) rz' HZ.out).mono ?_
        rintro e w7 ⟨Az, nz, cz, rz, rfl, hccz, hb, hRz, hR2z, Dz⟩
        have hs_w7 := hb.size
        have B3 := B3.below hb (by omega)
        have X := X.below hb (by omega)
        have Y := Y.below hb (by omega)
        have Dt := Dt.below hb (by omega)
        have Dx := Dx.below hb (by omega)
        have Dy := Dy.below hb (by omega)
        have hc := hc.trans (hb.mono (by omega))
        clear hb
        go_wp2_with fail
        refine (Best_any _ _ _ A0 n0 c0 xs X (by omega) (by omega) rp' HP.out).mono ?_
        rintro e w8 ⟨Ap, np, cp, rp, rfl, hccp, hb, hRp, hR2p, Dp⟩
        have hs_w8 := hb.size
        have B3 := B3.below hb (by omega)
        have X := X.below hb (by omega)
        have Y := Y.below hb (by omega)
        have Dt := Dt.below hb (by omega)
        have Dx := Dx.below hb (by omega)
        have Dy := Dy.below hb (by omega)
        have Dz := Dz.below hb (by omega)
        have hc := hc.trans (hb.mono (by omega))
        clear hb
        have hnp : np ≤ n0 := by have h1 := Dp.len; have h2 := resB_len xs; have h3 := hLX.out; omega
        have hwp := Lib.hid Dp.wf
        go_wp2_with (first
          | (at_builtin; refine wpList_append_raw _ rfl (.tmp 69) (.tmp 70) 22 rfl w8.heap.size 29 i0 _ 2 16 Try.underlying22 hi0 hz0 hz1 hz2 rfl (by decide) _ _ _ rfl (own_new (heap_newg _ _ _ rfl) (Nat.le_refl _)) _ _ _ np _ _ rfl (Dp.alloc (by omega) _).raw (flatD_one _) ?qa ?qb ?qc ?_))
        case qa => unfold maxLen; omega
        case qb => omega
        case qc => simp
        intro Ai ci u9 howni hgi _
        (try simp only [Nat.zero_add, List.nil_append] at howni)
        have hbi : Below w8.heap.size w8 u9 := ((Below.refl _ w8).alloc (Nat.le_refl _) _).grown hgi (by simp) (fun q hq => by simp [Value.ownBlock] at hq; omega)
        have hsi := hbi.size
        clear hgi
        go_wp2_with (first
          | (at_builtin; refine wpList_append_raw _ rfl (.tmp 71) (.tmp 72) 22 rfl w8.heap.size 29 i0 _ 2 16 Try.underlying22 hi0 hz0 hz1 hz2 rfl (by decide) _ _ _ rfl howni _ _ _ n1 _ _ rfl (Y.below hbi (by omega)).raw (flatD_one _) ?qd ?qe ?qf ?_))
        case qd => unfold maxLen; omega
        case qe => omega
        case qf => omega
        intro As cs w9 hownj hgj _
        have hbj : Below w8.heap.size w8 w9 := hbi.grown hgj (by omega) (fun q hq => (howni.lt q hq).1)
        rw [← flatD_append] at hownj
        have hwfj : ∀ x ∈ resB xs ++ ys, Rng x := fun x hx => by
          rcases List.mem_append.1 hx with h | h
          · exact hwp.out x h
          · exact hwy.out x h
        have Ds := Descs.of_own hownj hwfj (by omega)
        have hs_w9 := hbj.size
        have B3 := B3.below hbj (by omega)
        have X := X.below hbj (by omega)
        have Y := Y.below hbj (by omega)
        have Dt := Dt.below hbj (by omega)
        have Dx := Dx.below hbj (by omega)
        have Dy := Dy.below hbj (by omega)
        have Dz := Dz.below hbj (by omega)
        have Dp := Dp.below hbj (by omega)
        have hc := hc.trans (hbj.mono (by omega))
        clear hbi hgj howni hownj hbj hsi hwfj
        go_wp2_with fail
        refine (Best_any _ _ _ As (np + n1) cs (resB xs ++ ys) Ds (by omega) (by omega) rq' HQ.out).mono ?_
        rintro e w10 ⟨Aq, nq, cq, rq, rfl, hccq, hb, hRq, hR2q, Dq⟩
        have hs_w10 := hb.size
        have B3 := B3.below hb (by omega)
        have X := X.below hb (by omega)
        have Y := Y.below hb (by omega)
        have Dt := Dt.below hb (by omega)
        have Dx := Dx.below hb (by omega)
        have Dy := Dy.below hb (by omega)
        have Dz := Dz.below hb (by omega)
        have Dp := Dp.below hb (by omega)
        have hc := hc.trans (hb.mono (by omega))
        clear hb
        have hnx : nx = 0 := by rw [← Dx.len, hrb.out]; rfl
        subst hnx
        clear HZ HP HQ hrb hrb2 B3 X Y Dt Dx Dy Dz Dp Ds Dq
        go_wp2
        go_ret
        exact ⟨rfl, hc⟩
theorem descBest_row (w : World) (A0 : Option Addr) (n0 c0 : Nat) (xs : List (Int × Int)) (hX : Descs w 0 w.heap.size A0 n0 xs) (_ : n0 ≤ c0) (A1 : Option Addr) (n1 c1 : Nat) (ys : List (Int × Int)) (hY : Descs w 0 w.heap.size A1 n1 ys) (_ : n1 ≤ c1) :
    Calls Try.prog 3 #[.slice A0 n0 c0, .slice A1 n1 c1] w fun e w' => e = .returned (.bool true) ∧ Below w.heap.size w w' := descBest_any w A0 n0 c0 xs hX A1 n1 c1 ys hY
end De
end Go.Proofs.Ytpjomdkcckamkaa
