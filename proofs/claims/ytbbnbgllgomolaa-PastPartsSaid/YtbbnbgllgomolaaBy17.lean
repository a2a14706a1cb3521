/- headcountlaw20.part and alive: walks (printed by a program of mine). -/
/- The law PastParts: a walk (printed by a program of mine). -/
import Derived.Deep.CutRange
import Derived.Test.YtbbnbgllgomolaaBy16
namespace Go.Proofs.Ytbbnbgllgomolaa
open Go.RowKit
namespace Ma
open Dp Dy
theorem row_two {w : World} {g : Nat} {t : TypeId} (h : w.heap[g]? = some (.cells #[.int .u32 1, .int .u32 2] t (0, 0))) : Ints w g (g + 1) .u32 (some ⟨g, 0, none⟩) 2 [1, 2] := by
 refine ⟨rfl, fun y hy => ?_, by decide, fun _ => ⟨g, 0, rfl, Nat.le_refl _, Nat.lt_succ_self _, fun j hj => ?_⟩⟩
 · have hy' : y = 1 ∨ y = 2 := by simpa using hy
   rcases hy' with rfl | rfl <;> decide
 · have hj' : j = 0 ∨ j = 1 := by omega
   rcases hj' with rfl | rfl
   · exact ⟨cell_of_row w g 0 _ _ _ h, frozen_of_row w g 0 _ _ h⟩
   · exact ⟨cell_of_row w g 1 _ _ _ h, frozen_of_row w g 1 _ _ h⟩
set_option maxHeartbeats 6400000 in
set_option maxRecDepth 100000 in
/-- headcountlaw20.part. -/
theorem part20_any (w : World) (x : Int) (v : Nat) (hx : x = (v : Int)) (hv : v < 1000) :
  Calls Try.prog 85 #[.int .i64 x] w fun e w' => ∃ q : Pv, e = .returned (.agg #[.bool q.M.S.s, .slice q.M.S.A q.M.S.n q.M.S.c, .int .i64 q.M.S.e, .bool q.M.W.s, .slice q.M.W.A q.M.W.n q.M.W.c, .int .i64 q.M.W.e, .bool q.M.C.s, .slice q.M.C.A q.M.C.n q.M.C.c, .int .i64 q.M.C.e, .bool q.M.A.s, .slice q.M.A.A q.M.A.n q.M.A.c, .int .i64 q.M.A.e, .bool q.h, .int .i64 q.mn, .int .i64 q.mx, .slice q.A q.n q.c]) ∧ PartOf v q ∧ Below w.heap.size w w' ∧ PRows w' w.heap.size w'.heap.size q := by
 obtain ⟨w1, hw, bZ, j1, S1⟩ := alloc_zp w
 have lw1 := j1.size
 have HX := Lib.hid hx
 clear hx
 go_enter Try.func85, Try.ntmps85
 go_wp2_with fail
 refine (Of_any w1 x (by have := HX.out; omega) (by have := HX.out; omega) false v (decide_eq_false (by have := HX.out; omega)) (by have := HX.out; omega)).mono ?_
 rintro e' w2 ⟨A1, n1, rfl, j2, I1⟩
 go_wp2_with fail
 refine (Of_any w2 1 (by decide) (by decide) false 1 rfl rfl).mono ?_
 rintro e' w3 ⟨A2, n2, rfl, j3, I2⟩
 have s2 := j2.size
 have s3 := j3.size
 obtain ⟨w4, hw4⟩ : ∃ U, w3.alloc (.cells #[.int .u32 1, .int .u32 2] 70) = U := ⟨_, rfl⟩
 have j4 : Below w3.heap.size w3 w4 := by rw [← hw4]; exact (Below.refl _ _).alloc (Nat.le_refl _) _
 have s4 : w3.heap.size < w4.heap.size := by rw [← hw4]; simp
 have I3 : Ints w4 w3.heap.size (w3.heap.size + 1) .u32 (some ⟨w3.heap.size, 0, none⟩) 2 [1, 2] := by rw [← hw4]; exact row_two (heap_alloc_last _ _)
 have bz : PBox w4 w.heap.size ZPv := (j4.block _ (by omega)).trans ((j3.block _ (by omega)).trans ((j2.block _ S1).trans bZ))
 obtain ⟨U, hU, bU, hb, hf, l5, l6⟩ := part_into bz ⟨⟨⟨false, A1, n1, n1, 0, canon 4294967296 v⟩, ⟨false, A2, n2, n2, 0, canon 4294967296 1⟩, ZM.C, ZM.A⟩, true, x, x, some ⟨w3.heap.size, 0, none⟩, 2, 2, [1, 2]⟩
 have th := bz.there
 replace hU : w4.setCells w.heap.size 0 (#[.bool false, .slice A1 n1 n1, .int .i64 0, .bool false, .slice A2 n2 n2, .int .i64 0, .bool false, .slice none 0 0, .int .i64 0, .bool false, .slice none 0 0, .int .i64 0, .bool true, .int .i64 x, .int .i64 x, .slice (some ⟨w3.heap.size, 0, none⟩) 2 2] : Array Value).toList = U := hU
 have HU := Lib.hid hU
 clear hU
 have fin := hb _ _ (((j1.trans (j2.mono lw1)).trans (j3.mono (by omega))).trans (j4.mono (by omega))) (Nat.le_refl _)
 obtain ⟨Q, hQ⟩ : ∃ q : Pv, q = ⟨⟨⟨false, A1, n1, n1, 0, canon 4294967296 v⟩, ⟨false, A2, n2, n2, 0, canon 4294967296 1⟩, ZM.C, ZM.A⟩, true, x, x, some ⟨w3.heap.size, 0, none⟩, 2, 2, [1, 2]⟩ := ⟨_, rfl⟩
 rw [← hQ] at bU
 have RQ : PRows w4 (w.heap.size + 1) w4.heap.size Q := by
  rw [hQ]
  exact ⟨⟨((I1.below j3 (Nat.le_refl _)).below j4 (by omega)).more (by omega) (by omega), (I2.below j4 (Nat.le_refl _)).more (by omega) (by omega), Ints.nil_ .., Ints.nil_ ..⟩, I3.more (by omega) (by omega)⟩
 have l1 : n1 ≤ 1000000 := by
  have := I1.len
  have := canon_len_le (M := v) (k := 1) (by rw [Nat.pow_one]; omega)
  omega
 have l2 : n2 ≤ 1000000 := by
  have := I2.len
  have := canon_len_le (M := 1) (k := 1) (by decide)
  omega
 have PO : PartOf v Q := by
  rw [hQ]
  exact ⟨twoR_is ⟨rfl, rfl, rfl⟩ ⟨rfl, rfl, rfl⟩, rfl, HX.out, HX.out, rfl, ⟨four (p := fun y => (Mv.get ⟨⟨false, A1, n1, n1, 0, canon 4294967296 v⟩, ⟨false, A2, n2, n2, 0, canon 4294967296 1⟩, ZM.C, ZM.A⟩ y).n ≤ 1000000) l1 l2 (Nat.zero_le _) (Nat.zero_le _), (show 2 ≤ 1000000 by decide)⟩⟩
 have RU := (prows_far RQ (offP_of RQ (.inl (Nat.lt_succ_self _))) hf).more (lo' := w.heap.size) (hi' := U.heap.size) (Nat.le_succ _) l6
 clear I1 I2 I3 hQ RQ bz
 go_wp2_with (first
  | ((refine wpList_store_mid rfl 31 (.tmp 2) (.tmp 11) rfl w.heap.size 0 #[.bool false, .slice A1 n1 n1, .int .i64 0, .bool false, .slice A2 n2 n2, .int .i64 0, .bool false, .slice none 0 0, .int .i64 0, .bool false, .slice none 0 0, .int .i64 0, .bool true, .int .i64 x, .int .i64 x, .slice (some ⟨w3.heap.size, 0, none⟩) 2 2] rfl rfl th (by kernel_rfl) (all_oneCell_toArray (cells16_one ⟨⟨⟨false, A1, n1, n1, 0, canon 4294967296 v⟩, ⟨false, A2, n2, n2, 0, canon 4294967296 1⟩, ZM.C, ZM.A⟩, true, x, x, some ⟨w3.heap.size, 0, none⟩, 2, 2, [1, 2]⟩)) ?_); rw [HU.out]))
 exact bodyPost_ret (results_cell_row Try.results85 _ _ w.heap.size 31 #[.bool Q.M.S.s, .slice Q.M.S.A Q.M.S.n Q.M.S.c, .int .i64 Q.M.S.e, .bool Q.M.W.s, .slice Q.M.W.A Q.M.W.n Q.M.W.c, .int .i64 Q.M.W.e, .bool Q.M.C.s, .slice Q.M.C.A Q.M.C.n Q.M.C.c, .int .i64 Q.M.C.e, .bool Q.M.A.s, .slice Q.M.A.A Q.M.A.n Q.M.A.c, .int .i64 Q.M.A.e, .bool Q.h, .int .i64 Q.mn, .int .i64 Q.mx, .slice Q.A Q.n Q.c] (0, 0) _ rfl bU Try.underlying31 rfl (by kernel_rfl)) rfl ⟨Q, rfl, PO, fin, RU⟩
set_option maxHeartbeats 51200000 in
set_option maxRecDepth 100000 in
/-- headcountlaw20.alive. -/
theorem alive20_any (w : World) : Calls Try.prog 44 #[] w fun e w' => e = .returned (.bool true) ∧ Below w.heap.size w w' := by
 have j0 : Below w.heap.size w w := Below.refl _ _
 have n28 : 1 ≤ 1028 := by decide
 go_enter Try.func44, Try.ntmps44
 go_wp2_with fail
 refine (part20_any w 7 7 rfl (by decide)).mono ?_
 rintro e' v1 ⟨q7, rfl, Pq7, j2, Rq7⟩
 try clear hw
 replace Pq7 := Lib.hid Pq7
 have Mq7 : Hid (mayP q7 = true) := Lib.hid (partOf_may Rq7 Pq7.out (by decide) (by decide))
 have hRq7 := Rq7.more (Nat.zero_le _) (Nat.le_refl _)
 go_wp2_with fail
 refine (Freeze_any v1 none 0 0 [] (LFs.nil_ _ _ _ _) 2 q7 hRq7 (by decide) (fun _ h => absurd h (Nat.not_lt_zero _)) Pq7.out.2.2.2.2.2 0 (al_1 Mq7.out)).mono ?_
 rintro e' v3 ⟨Aa, na, ca, ga, rfl, ta, j4, Oa, ra⟩
 try clear hw
 replace ta : Hid (TwinF [⟨2, q7⟩] ga) := Lib.hid (by rw [frozenF_zero] at ta; exact ta)
 obtain rfl : na = 1 := Oa.len.symm.trans ta.out.1
 have LA := Oa.lfs
 have SA : Hid (SmallF ga) := Lib.hid (twinF_small ta.out (by rw [← List.nil_append [(⟨2, q7⟩ : Fv)], ← frozenF_zero]; exact small_frozen (fun _ h => absurd h (Nat.not_lt_zero _)) Pq7.out.2.2.2.2.2))
 go_wp2_with fail
 refine (part20_any v3 9 9 rfl (by decide)).mono ?_
 rintro e' v5 ⟨q9, rfl, Pq9, j6, Rq9⟩
 try clear hw
 replace Pq9 := Lib.hid Pq9
 have Mq9 : Hid (mayP q9 = true) := Lib.hid (partOf_may Rq9 Pq9.out (by decide) (by decide))
 have hRq9 := Rq9.more (Nat.zero_le _) (Nat.le_refl _)
 go_wp2_with fail
 refine (Freeze_any v5 Aa 1 ca ga (LFs.on LA j6) 5 q9 hRq9 n28 SA.out Pq9.out.2.2.2.2.2 0 ((freezeF_list ta.out).trans (al_2 Mq7.out Mq9.out))).mono ?_
 rintro e' v7 ⟨Ab, nb, cb, gb, rfl, tb, j8, Ob, rb⟩
 try clear hw
 have SB : Hid (SmallF gb) := Lib.hid (twinF_small tb (small_frozen SA.out Pq9.out.2.2.2.2.2))
 replace tb : Hid (TwinF [⟨2, q7⟩, ⟨5, q9⟩] gb) := Lib.hid (by rw [frozenF_zero] at tb; exact twinF_snoc ta.out tb)
 obtain rfl : nb = 2 := Ob.len.symm.trans tb.out.1
 have LB := Ob.lfs
 have hcap : 2 ≤ cb := by
  obtain ⟨A', c', e, h1, _⟩ := Ob.shape
  injection e with _ _ e3
  omega
 go_wp2_with fail
 refine (part20_any v7 8 8 rfl (by decide)).mono ?_
 rintro e' v9 ⟨q8, rfl, Pq8, j10, Rq8⟩
 try clear hw
 replace Pq8 := Lib.hid Pq8
 have Mq8 : Hid (mayP q8 = true) := Lib.hid (partOf_may Rq8 Pq8.out (by decide) (by decide))
 have hRq8 := Rq8.more (Nat.zero_le _) (Nat.le_refl _)
 go_wp2_with fail
 refine (Freeze_any v9 Ab 2 cb gb (LFs.on LB j10) 3 q8 hRq8 (by decide) SB.out Pq8.out.2.2.2.2.2 12 ((freezeF_list tb.out).trans (al_3 Mq7.out Mq9.out Mq8.out))).mono ?_
 rintro e' v11 ⟨Ac, nc, cc, gc, rfl, tc, j12, Oc, rc⟩
 try clear hw
 clear tc Oc rc
 go_wp2_with fail
 refine (Get_any v11 Ab 2 cb gb (LFs.on LB (later j10 j12)) 3 SB.out 6 ((getF_twin tb.out).trans (al_4 Mq7.out Mq9.out))).mono ?_
 rintro e' v13 ⟨qX, rfl, tX, j14, RX⟩
 try clear hw
 replace tX := Lib.hid tX
 obtain ⟨uX, hu_, b4, jX, sX⟩ := alloc_p v13 qX
 go_upto_region 5 with (first
  | (refine wpList_store_new rfl 31 (.tmp 7) (.tmp 33) rfl _ #[.bool qX.M.S.s, .slice qX.M.S.A qX.M.S.n qX.M.S.c, .int .i64 qX.M.S.e, .bool qX.M.W.s, .slice qX.M.W.A qX.M.W.n qX.M.W.c, .int .i64 qX.M.W.e, .bool qX.M.C.s, .slice qX.M.C.A qX.M.C.n qX.M.C.c, .int .i64 qX.M.C.e, .bool qX.M.A.s, .slice qX.M.A.A qX.M.A.n qX.M.A.c, .int .i64 qX.M.A.e, .bool qX.h, .int .i64 qX.mn, .int .i64 qX.mx, .slice qX.A qX.n qX.c] rfl rfl (by kernel_rfl) rfl (all_oneCell_toArray (cells16_one qX)) ?_))
 try rw [hu_]
 try clear hu_
 have hRX : PRows uX 0 uX.heap.size qX := (RX.below jX (Nat.le_refl _)).more (Nat.zero_le _) (Below.size jX)
 go_wp2_with fail
 refine (Get_any uX Ab 2 cb gb (LFs.on LB (later j10 (later j12 (later j14 jX)))) 5 SB.out 0 ((getF_twin tb.out).trans (al_5 Mq7.out Mq9.out))).mono ?_
 rintro e' v15 ⟨qY, rfl, tY, j16, RY⟩
 try clear hw
 replace tY := Lib.hid tY
 obtain ⟨uY, hu_, b5, jY, sY⟩ := alloc_p v15 qY
 go_upto_region 6 with (first
  | (refine wpList_store_new rfl 31 (.tmp 9) (.tmp 38) rfl _ #[.bool qY.M.S.s, .slice qY.M.S.A qY.M.S.n qY.M.S.c, .int .i64 qY.M.S.e, .bool qY.M.W.s, .slice qY.M.W.A qY.M.W.n qY.M.W.c, .int .i64 qY.M.W.e, .bool qY.M.C.s, .slice qY.M.C.A qY.M.C.n qY.M.C.c, .int .i64 qY.M.C.e, .bool qY.M.A.s, .slice qY.M.A.A qY.M.A.n qY.M.A.c, .int .i64 qY.M.A.e, .bool qY.h, .int .i64 qY.mn, .int .i64 qY.mx, .slice qY.A qY.n qY.c] rfl rfl (by kernel_rfl) rfl (all_oneCell_toArray (cells16_one qY)) ?_))
 try rw [hu_]
 try clear hu_
 have hRY : PRows uY 0 uY.heap.size qY := (RY.below jY (Nat.le_refl _)).more (Nat.zero_le _) (Below.size jY)
 have tY2 : Hid (TwinP q9 qY) := Lib.hid (by
  have h := twinP_trans (gotF_twin (k := 0) (z := 5) tb.out) tY.out
  rw [al_6] at h
  exact h)
 go_wp2_with fail
 refine (Before_any uY Ab 2 cb gb (LFs.on LB (later j10 (later j12 (later j14 (later jX (later j16 jY)))))) hcap 5 SB.out 0 ((askF_twin tb.out).trans (al_a2 Mq7.out Mq9.out 5 (by decide) (by decide)))).mono ?_
 rintro e' v17 ⟨Ad, nd, cd, gd, rfl, td, j18, Od, rd⟩
 try clear hw
 replace td : Hid (TwinF [⟨2, q7⟩] gd) := Lib.hid (by
  have h := twinF_trans (beforeF_twin (k := 0) (z := 5) tb.out) td
  rw [al_7] at h
  exact h)
 obtain rfl : nd = 1 := Od.len.symm.trans td.out.1
 have LD := Od.lfs
 obtain ⟨bd, od, hAd, _, lbd, hcd⟩ := LD.row (by decide)
 have hld : 0 < gd.length := by rw [td.out.1]; simp
 have hcd0 := Lib.hid (hcd 0 hld).1
 have hed : gd[0].e = 2 := (td.out.2 0 (by simp) hld).1
 rw [hed, Nat.zero_mul, Nat.add_zero] at hcd0
 have e1 := Lib.hid (sameF_two td.out ta.out)
 clear hcd hed
 subst hAd
 go_upto_region 7 with fail
 try clear hw
 refine region_E (Keeps v17) [] (m := 56) (L := #[zF,zF,zF,zF,zF,zF,zF,zF,zF,zF,zF,zF,zF,zF,zF,zF,zF,zF,zF,zF,zF,zF,zF,zF,zF,zF,zF,zF,zF,zF,zF,zF,zF,zF,zF,zF,zF,zF,zF,zF,zF,zF,zF,zF,zF,zF,zF,zF,zF,zF,zF,zF,zF,zF,zF,zF]) (by kernel_rfl) (by rfl) (by rfl) ?_
 have j20 : Below v17.heap.size v17 v17.drew := (Below.refl _ _).drew
 generalize v17.drew = v19 at *
 refine zE 0 #[zT,zF,zF,zF,zF,zF,zF,zF,zF,zF,zF,zF,zF,zF,zF,zF,zF,zF,zF,zF,zF,zF,zF,zF,zF,zF,zF,zF,zF,zF,zF,zF,zF,zF,zF,zF,zF,zF,zF,zF,zF,zF,zF,zF,zF,zF,zF,zF,zF,zF,zF,zF,zF,zF,zF,zF] ?_ rfl ?hy1 ?rest1
 case hy1 => intro w; go_simp; (try with_reducible rfl)
 try simp only [Act.put, zp]
 refine zE 1 #[zT,zT,zF,zF,zF,zF,zF,zF,zF,zF,zF,zF,zF,zF,zF,zF,zF,zF,zF,zF,zF,zF,zF,zF,zF,zF,zF,zF,zF,zF,zF,zF,zF,zF,zF,zF,zF,zF,zF,zF,zF,zF,zF,zF,zF,zF,zF,zF,zF,zF,zF,zF,zF,zF,zF,zF] ?_ rfl ?hy2 ?rest2
 case hy2 => intro w; go_simp; (try with_reducible rfl)
 try simp only [Act.put, zp]
 refine zE 2 #[zT,zT,zT,zF,zF,zF,zF,zF,zF,zF,zF,zF,zF,zF,zF,zF,zF,zF,zF,zF,zF,zF,zF,zF,zF,zF,zF,zF,zF,zF,zF,zF,zF,zF,zF,zF,zF,zF,zF,zF,zF,zF,zF,zF,zF,zF,zF,zF,zF,zF,zF,zF,zF,zF,zF,zF] ?_ rfl ?hy3 ?rest3
 case hy3 => intro w; go_simp; (try with_reducible rfl)
 try simp only [Act.put, zp]
 refine zE 3 #[zT,zT,zT,zT,zF,zF,zF,zF,zF,zF,zF,zF,zF,zF,zF,zF,zF,zF,zF,zF,zF,zF,zF,zF,zF,zF,zF,zF,zF,zF,zF,zF,zF,zF,zF,zF,zF,zF,zF,zF,zF,zF,zF,zF,zF,zF,zF,zF,zF,zF,zF,zF,zF,zF,zF,zF] ?_ rfl ?hy4 ?rest4
 case hy4 => intro w; go_simp; (try with_reducible rfl)
 try simp only [Act.put, zp]
 refine zE 4 #[zT,zT,zT,zT,zT,zF,zF,zF,zF,zF,zF,zF,zF,zF,zF,zF,zF,zF,zF,zF,zF,zF,zF,zF,zF,zF,zF,zF,zF,zF,zF,zF,zF,zF,zF,zF,zF,zF,zF,zF,zF,zF,zF,zF,zF,zF,zF,zF,zF,zF,zF,zF,zF,zF,zF,zF] ?_ rfl ?hy5 ?rest5
 case hy5 => intro w; go_simp; (try with_reducible rfl)
 try simp only [Act.put, zp]
 refine zE 5 #[zT,zT,zT,zT,zT,zT,zF,zF,zF,zF,zF,zF,zF,zF,zF,zF,zF,zF,zF,zF,zF,zF,zF,zF,zF,zF,zF,zF,zF,zF,zF,zF,zF,zF,zF,zF,zF,zF,zF,zF,zF,zF,zF,zF,zF,zF,zF,zF,zF,zF,zF,zF,zF,zF,zF,zF] ?_ rfl ?hy6 ?rest6
 case hy6 => intro w; go_simp; (try with_reducible rfl)
 try simp only [Act.put, zp]
 refine zE 6 #[zT,zT,zT,zT,zT,zT,zT,zF,zF,zF,zF,zF,zF,zF,zF,zF,zF,zF,zF,zF,zF,zF,zF,zF,zF,zF,zF,zF,zF,zF,zF,zF,zF,zF,zF,zF,zF,zF,zF,zF,zF,zF,zF,zF,zF,zF,zF,zF,zF,zF,zF,zF,zF,zF,zF,zF] ?_ rfl ?hy7 ?rest7
 case hy7 => intro w; go_simp; (try with_reducible rfl)
 try simp only [Act.put, zp]
 refine zE 7 #[zT,zT,zT,zT,zT,zT,zT,zT,zF,zF,zF,zF,zF,zF,zF,zF,zF,zF,zF,zF,zF,zF,zF,zF,zF,zF,zF,zF,zF,zF,zF,zF,zF,zF,zF,zF,zF,zF,zF,zF,zF,zF,zF,zF,zF,zF,zF,zF,zF,zF,zF,zF,zF,zF,zF,zF] ?_ rfl ?hy8 ?rest8
 case hy8 => intro w; go_simp; (try with_reducible rfl)
 try simp only [Act.put, zp]
 refine zE 8 #[zT,zT,zT,zT,zT,zT,zT,zT,zT,zF,zF,zF,zF,zF,zF,zF,zF,zF,zF,zF,zF,zF,zF,zF,zF,zF,zF,zF,zF,zF,zF,zF,zF,zF,zF,zF,zF,zF,zF,zF,zF,zF,zF,zF,zF,zF,zF,zF,zF,zF,zF,zF,zF,zF,zF,zF] ?_ rfl ?hy9 ?rest9
 case hy9 => intro w; go_simp; (try with_reducible rfl)
 try simp only [Act.put, zp]
 refine zE 9 #[zT,zT,zT,zT,zT,zT,zT,zT,zT,zT,zF,zF,zF,zF,zF,zF,zF,zF,zF,zF,zF,zF,zF,zF,zF,zF,zF,zF,zF,zF,zF,zF,zF,zF,zF,zF,zF,zF,zF,zF,zF,zF,zF,zF,zF,zF,zF,zF,zF,zF,zF,zF,zF,zF,zF,zF] ?_ rfl ?hy10 ?rest10
 case hy10 => intro w; go_simp; (try with_reducible rfl)
 try simp only [Act.put, zp]
 refine zE 10 #[zT,zT,zT,zT,zT,zT,zT,zT,zT,zT,zT,zF,zF,zF,zF,zF,zF,zF,zF,zF,zF,zF,zF,zF,zF,zF,zF,zF,zF,zF,zF,zF,zF,zF,zF,zF,zF,zF,zF,zF,zF,zF,zF,zF,zF,zF,zF,zF,zF,zF,zF,zF,zF,zF,zF,zF] ?_ rfl ?hy11 ?rest11
 case hy11 => intro w; go_simp; (try with_reducible rfl)
 try simp only [Act.put, zp]
 refine zE 11 #[zT,zT,zT,zT,zT,zT,zT,zT,zT,zT,zT,zT,zF,zF,zF,zF,zF,zF,zF,zF,zF,zF,zF,zF,zF,zF,zF,zF,zF,zF,zF,zF,zF,zF,zF,zF,zF,zF,zF,zF,zF,zF,zF,zF,zF,zF,zF,zF,zF,zF,zF,zF,zF,zF,zF,zF] ?_ rfl ?hy12 ?rest12
 case hy12 => intro w; go_simp; (try with_reducible rfl)
 try simp only [Act.put, zp]
 refine zE 12 #[zT,zT,zT,zT,zT,zT,zT,zT,zT,zT,zT,zT,zT,zF,zF,zF,zF,zF,zF,zF,zF,zF,zF,zF,zF,zF,zF,zF,zF,zF,zF,zF,zF,zF,zF,zF,zF,zF,zF,zF,zF,zF,zF,zF,zF,zF,zF,zF,zF,zF,zF,zF,zF,zF,zF,zF] ?_ rfl ?hy13 ?rest13
 case hy13 => intro w; go_simp; (try with_reducible rfl)
 try simp only [Act.put, zp]
 refine zE 13 #[zT,zT,zT,zT,zT,zT,zT,zT,zT,zT,zT,zT,zT,zT,zF,zF,zF,zF,zF,zF,zF,zF,zF,zF,zF,zF,zF,zF,zF,zF,zF,zF,zF,zF,zF,zF,zF,zF,zF,zF,zF,zF,zF,zF,zF,zF,zF,zF,zF,zF,zF,zF,zF,zF,zF,zF] ?_ rfl ?hy14 ?rest14
 case hy14 => intro w; go_simp; (try with_reducible rfl)
 try simp only [Act.put, zp]
 refine zE 14 #[zT,zT,zT,zT,zT,zT,zT,zT,zT,zT,zT,zT,zT,zT,zT,zF,zF,zF,zF,zF,zF,zF,zF,zF,zF,zF,zF,zF,zF,zF,zF,zF,zF,zF,zF,zF,zF,zF,zF,zF,zF,zF,zF,zF,zF,zF,zF,zF,zF,zF,zF,zF,zF,zF,zF,zF] ?_ rfl ?hy15 ?rest15
 case hy15 => intro w; go_simp; (try with_reducible rfl)
 try simp only [Act.put, zp]
 refine zE 15 #[zT,zT,zT,zT,zT,zT,zT,zT,zT,zT,zT,zT,zT,zT,zT,zT,zF,zF,zF,zF,zF,zF,zF,zF,zF,zF,zF,zF,zF,zF,zF,zF,zF,zF,zF,zF,zF,zF,zF,zF,zF,zF,zF,zF,zF,zF,zF,zF,zF,zF,zF,zF,zF,zF,zF,zF] ?_ rfl ?hy16 ?rest16
 case hy16 => intro w; go_simp; (try with_reducible rfl)
 try simp only [Act.put, zp]
 refine zE 16 #[zT,zT,zT,zT,zT,zT,zT,zT,zT,zT,zT,zT,zT,zT,zT,zT,zT,zF,zF,zF,zF,zF,zF,zF,zF,zF,zF,zF,zF,zF,zF,zF,zF,zF,zF,zF,zF,zF,zF,zF,zF,zF,zF,zF,zF,zF,zF,zF,zF,zF,zF,zF,zF,zF,zF,zF] ?_ rfl ?hy17 ?rest17
 case hy17 => intro w; go_simp; (try with_reducible rfl)
 try simp only [Act.put, zp]
 refine zE 17 #[zT,zT,zT,zT,zT,zT,zT,zT,zT,zT,zT,zT,zT,zT,zT,zT,zT,zT,zF,zF,zF,zF,zF,zF,zF,zF,zF,zF,zF,zF,zF,zF,zF,zF,zF,zF,zF,zF,zF,zF,zF,zF,zF,zF,zF,zF,zF,zF,zF,zF,zF,zF,zF,zF,zF,zF] ?_ rfl ?hy18 ?rest18
 case hy18 => intro w; go_simp; (try with_reducible rfl)
 try simp only [Act.put, zp]
 refine zE 18 #[zT,zT,zT,zT,zT,zT,zT,zT,zT,zT,zT,zT,zT,zT,zT,zT,zT,zT,zT,zF,zF,zF,zF,zF,zF,zF,zF,zF,zF,zF,zF,zF,zF,zF,zF,zF,zF,zF,zF,zF,zF,zF,zF,zF,zF,zF,zF,zF,zF,zF,zF,zF,zF,zF,zF,zF] ?_ rfl ?hy19 ?rest19
 case hy19 => intro w; go_simp; (try with_reducible rfl)
 try simp only [Act.put, zp]
 have kpy21 : Keeps v17 v19 := fun p hp => Below.block j20 p hp
 refine readE (i := 19) (L := #[zT,zT,zT,zT,zT,zT,zT,zT,zT,zT,zT,zT,zT,zT,zT,zT,zT,zT,zT,zT,zF,zF,zF,zF,zF,zF,zF,zF,zF,zF,zF,zF,zF,zF,zF,zF,zF,zF,zF,zF,zF,zF,zF,zF,zF,zF,zF,zF,zF,zF,zF,zF,zF,zF,zF,zF]) (v := .agg #[.bool qY.M.S.s, .slice qY.M.S.A qY.M.S.n qY.M.S.c, .int .i64 qY.M.S.e, .bool qY.M.W.s, .slice qY.M.W.A qY.M.W.n qY.M.W.c, .int .i64 qY.M.W.e, .bool qY.M.C.s, .slice qY.M.C.A qY.M.C.n qY.M.C.c, .int .i64 qY.M.C.e, .bool qY.M.A.s, .slice qY.M.A.A qY.M.A.n qY.M.A.c, .int .i64 qY.M.A.e, .bool qY.h, .int .i64 qY.mn, .int .i64 qY.mx, .slice qY.A qY.n qY.c]) rfl (by rfl) (by kernel_rfl) (by kernel_rfl) (by kernel_rfl) (fun _ _ _ h => h) (by assumption) (by rfl) ?y21 ?z22
 case y21 =>
  intro w' h1
  exact run_load_op 31 (.tmp 9) rfl (v15.heap.size) 0 rfl (cells16 qY) _ (PBox.range ((h1 _ (Nat.lt_of_lt_of_le sY (Below.size j18))).trans (box_later b5 j18 sY))) Try.underlying31 rfl (by kernel_rfl)
 try simp only [Act.put, zp]
 refine stepK (i := 20) (L := #[zT,zT,zT,zT,zT,zT,zT,zT,zT,zT,zT,zT,zT,zT,zT,zT,zT,zT,zT,zT,zT,zF,zF,zF,zF,zF,zF,zF,zF,zF,zF,zF,zF,zF,zF,zF,zF,zF,zF,zF,zF,zF,zF,zF,zF,zF,zF,zF,zF,zF,zF,zF,zF,zF,zF,zF]) rfl (by rfl) (by kernel_rfl) (by rfl) (fun K hK => ?_)
 go_simp
 go_at_call 85
 refine (part20_any v19 9 9 rfl (by decide)).mono ?_
 rintro e' v23 ⟨r9, rfl, Pr9, j24, Rr9⟩
 replace Pr9 := Lib.hid Pr9
 have hRr9 := Rr9.more (Nat.zero_le _) (Nat.le_refl _)
 have e9 := Lib.hid ((twinP_left (r := r9) tY2.out).trans (partOf_same Pq9.out Pr9.out))
 refine hK _ _ ⟨fun _ _ => fun p hp => Below.block (later j20 j24) p hp, ?_⟩
 clear hK K
 try simp only []
 refine stepK (i := 21) (L := #[zT,zT,zT,zT,zT,zT,zT,zT,zT,zT,zT,zT,zT,zT,zT,zT,zT,zT,zT,zT,zT,zT,zF,zF,zF,zF,zF,zF,zF,zF,zF,zF,zF,zF,zF,zF,zF,zF,zF,zF,zF,zF,zF,zF,zF,zF,zF,zF,zF,zF,zF,zF,zF,zF,zF,zF]) rfl (by rfl) (by kernel_rfl) (by rfl) (fun K hK => ?_)
 go_simp
 go_at_call 21
 refine (SamePart_any v23 qY r9 (PRows.on hRY (later j18 (later j20 j24))) hRr9 true e9.out).mono ?_
 rintro e' v25 ⟨rfl, j26⟩
 refine hK _ _ ⟨fun _ _ => fun p hp => Below.block (later j20 (later j24 j26)) p hp, ?_⟩
 clear hK K
 try simp only []
 refine zE 22 #[zT,zT,zT,zT,zT,zT,zT,zT,zT,zT,zT,zT,zT,zT,zT,zT,zT,zT,zT,zT,zT,zT,zT,zF,zF,zF,zF,zF,zF,zF,zF,zF,zF,zF,zF,zF,zF,zF,zF,zF,zF,zF,zF,zF,zF,zF,zF,zF,zF,zF,zF,zF,zF,zF,zF,zF] ?_ rfl ?hy23 ?rest23
 case hy23 => intro w; go_simp; (try with_reducible rfl)
 try simp only [Act.put, zp]
 refine zE 23 #[zT,zT,zT,zT,zT,zT,zT,zT,zT,zT,zT,zT,zT,zT,zT,zT,zT,zT,zT,zT,zT,zT,zT,zT,zF,zF,zF,zF,zF,zF,zF,zF,zF,zF,zF,zF,zF,zF,zF,zF,zF,zF,zF,zF,zF,zF,zF,zF,zF,zF,zF,zF,zF,zF,zF,zF] ?_ rfl ?hy24 ?rest24
 case hy24 => intro w; go_simp; (try with_reducible rfl)
 try simp only [Act.put, zp]
 have kpy27 : Keeps v17 v25 := fun p hp => Below.block (later j20 (later j24 j26)) p hp
 refine readE (i := 24) (L := #[zT,zT,zT,zT,zT,zT,zT,zT,zT,zT,zT,zT,zT,zT,zT,zT,zT,zT,zT,zT,zT,zT,zT,zT,zT,zF,zF,zF,zF,zF,zF,zF,zF,zF,zF,zF,zF,zF,zF,zF,zF,zF,zF,zF,zF,zF,zF,zF,zF,zF,zF,zF,zF,zF,zF,zF]) (v := .agg #[.bool qY.M.S.s, .slice qY.M.S.A qY.M.S.n qY.M.S.c, .int .i64 qY.M.S.e, .bool qY.M.W.s, .slice qY.M.W.A qY.M.W.n qY.M.W.c, .int .i64 qY.M.W.e, .bool qY.M.C.s, .slice qY.M.C.A qY.M.C.n qY.M.C.c, .int .i64 qY.M.C.e, .bool qY.M.A.s, .slice qY.M.A.A qY.M.A.n qY.M.A.c, .int .i64 qY.M.A.e, .bool qY.h, .int .i64 qY.mn, .int .i64 qY.mx, .slice qY.A qY.n qY.c]) rfl (by rfl) (by kernel_rfl) (by kernel_rfl) (by kernel_rfl) (fun _ _ _ h => h) (by assumption) (by rfl) ?y27 ?z28
 case y27 =>
  intro w' h1
  exact run_load_op 31 (.tmp 9) rfl (v15.heap.size) 0 rfl (cells16 qY) _ (PBox.range ((h1 _ (Nat.lt_of_lt_of_le sY (Below.size j18))).trans (box_later b5 j18 sY))) Try.underlying31 rfl (by kernel_rfl)
 try simp only [Act.put, zp]
 refine stepK (i := 25) (L := #[zT,zT,zT,zT,zT,zT,zT,zT,zT,zT,zT,zT,zT,zT,zT,zT,zT,zT,zT,zT,zT,zT,zT,zT,zT,zT,zF,zF,zF,zF,zF,zF,zF,zF,zF,zF,zF,zF,zF,zF,zF,zF,zF,zF,zF,zF,zF,zF,zF,zF,zF,zF,zF,zF,zF,zF]) rfl (by rfl) (by kernel_rfl) (by rfl) (fun K hK => ?_)
 go_simp
 go_at_call 85
 refine (part20_any v25 7 7 rfl (by decide)).mono ?_
 rintro e' v29 ⟨r7, rfl, Pr7, j30, Rr7⟩
 replace Pr7 := Lib.hid Pr7
 have hRr7 := Rr7.more (Nat.zero_le _) (Nat.le_refl _)
 have e7 := Lib.hid ((twinP_left (r := r7) tY2.out).trans (partOf_diff Pq9.out Pr7.out (by decide)))
 refine hK _ _ ⟨fun _ _ => fun p hp => Below.block (later j20 (later j24 (later j26 j30))) p hp, ?_⟩
 clear hK K
 try simp only []
 refine stepK (i := 26) (L := #[zT,zT,zT,zT,zT,zT,zT,zT,zT,zT,zT,zT,zT,zT,zT,zT,zT,zT,zT,zT,zT,zT,zT,zT,zT,zT,zT,zF,zF,zF,zF,zF,zF,zF,zF,zF,zF,zF,zF,zF,zF,zF,zF,zF,zF,zF,zF,zF,zF,zF,zF,zF,zF,zF,zF,zF]) rfl (by rfl) (by kernel_rfl) (by rfl) (fun K hK => ?_)
 go_simp
 go_at_call 21
 refine (SamePart_any v29 qY r7 (PRows.on hRY (later j18 (later j20 (later j24 (later j26 j30))))) hRr7 false e7.out).mono ?_
 rintro e' v31 ⟨rfl, j32⟩
 refine hK _ _ ⟨fun _ _ => fun p hp => Below.block (later j20 (later j24 (later j26 (later j30 j32)))) p hp, ?_⟩
 clear hK K
 try simp only []
 refine zE 27 #[zT,zT,zT,zT,zT,zT,zT,zT,zT,zT,zT,zT,zT,zT,zT,zT,zT,zT,zT,zT,zT,zT,zT,zT,zT,zT,zT,zT,zF,zF,zF,zF,zF,zF,zF,zF,zF,zF,zF,zF,zF,zF,zF,zF,zF,zF,zF,zF,zF,zF,zF,zF,zF,zF,zF,zF] ?_ rfl ?hy28 ?rest28
 case hy28 => intro w; go_simp; (try with_reducible rfl)
 try simp only [Act.put, zp]
 refine zE 28 #[zT,zT,zT,zT,zT,zT,zT,zT,zT,zT,zT,zT,zT,zT,zT,zT,zT,zT,zT,zT,zT,zT,zT,zT,zT,zT,zT,zT,zT,zF,zF,zF,zF,zF,zF,zF,zF,zF,zF,zF,zF,zF,zF,zF,zF,zF,zF,zF,zF,zF,zF,zF,zF,zF,zF,zF] ?_ rfl ?hy29 ?rest29
 case hy29 => intro w; go_simp; (try with_reducible rfl)
 try simp only [Act.put, zp]
 refine zE 29 #[zT,zT,zT,zT,zT,zT,zT,zT,zT,zT,zT,zT,zT,zT,zT,zT,zT,zT,zT,zT,zT,zT,zT,zT,zT,zT,zT,zT,zT,zT,zF,zF,zF,zF,zF,zF,zF,zF,zF,zF,zF,zF,zF,zF,zF,zF,zF,zF,zF,zF,zF,zF,zF,zF,zF,zF] ?_ rfl ?hy30 ?rest30
 case hy30 => intro w; go_simp; (try with_reducible rfl)
 try simp only [Act.put, zp]
 refine zE 30 #[zT,zT,zT,zT,zT,zT,zT,zT,zT,zT,zT,zT,zT,zT,zT,zT,zT,zT,zT,zT,zT,zT,zT,zT,zT,zT,zT,zT,zT,zT,zT,zF,zF,zF,zF,zF,zF,zF,zF,zF,zF,zF,zF,zF,zF,zF,zF,zF,zF,zF,zF,zF,zF,zF,zF,zF] ?_ rfl ?hy31 ?rest31
 case hy31 => intro w; go_simp; (try with_reducible rfl)
 try simp only [Act.put, zp]
 refine zE 31 #[zT,zT,zT,zT,zT,zT,zT,zT,zT,zT,zT,zT,zT,zT,zT,zT,zT,zT,zT,zT,zT,zT,zT,zT,zT,zT,zT,zT,zT,zT,zT,zT,zF,zF,zF,zF,zF,zF,zF,zF,zF,zF,zF,zF,zF,zF,zF,zF,zF,zF,zF,zF,zF,zF,zF,zF] ?_ rfl ?hy32 ?rest32
 case hy32 => intro w; go_simp; (try with_reducible rfl)
 try simp only [Act.put, zp]
 refine zE 32 #[zT,zT,zT,zT,zT,zT,zT,zT,zT,zT,zT,zT,zT,zT,zT,zT,zT,zT,zT,zT,zT,zT,zT,zT,zT,zT,zT,zT,zT,zT,zT,zT,zT,zF,zF,zF,zF,zF,zF,zF,zF,zF,zF,zF,zF,zF,zF,zF,zF,zF,zF,zF,zF,zF,zF,zF] ?_ rfl ?hy33 ?rest33
 case hy33 => intro w; go_simp; (try with_reducible rfl)
 try simp only [Act.put, zp]
 refine zE 33 #[zT,zT,zT,zT,zT,zT,zT,zT,zT,zT,zT,zT,zT,zT,zT,zT,zT,zT,zT,zT,zT,zT,zT,zT,zT,zT,zT,zT,zT,zT,zT,zT,zT,zT,zF,zF,zF,zF,zF,zF,zF,zF,zF,zF,zF,zF,zF,zF,zF,zF,zF,zF,zF,zF,zF,zF] ?_ rfl ?hy34 ?rest34
 case hy34 => intro w; go_simp; (try with_reducible rfl)
 try simp only [Act.put, zp]
 refine zE 34 #[zT,zT,zT,zT,zT,zT,zT,zT,zT,zT,zT,zT,zT,zT,zT,zT,zT,zT,zT,zT,zT,zT,zT,zT,zT,zT,zT,zT,zT,zT,zT,zT,zT,zT,zT,zF,zF,zF,zF,zF,zF,zF,zF,zF,zF,zF,zF,zF,zF,zF,zF,zF,zF,zF,zF,zF] ?_ rfl ?hy35 ?rest35
 case hy35 => intro w; go_simp; (try with_reducible rfl)
 try simp only [Act.put, zp]
 refine zE 35 #[zT,zT,zT,zT,zT,zT,zT,zT,zT,zT,zT,zT,zT,zT,zT,zT,zT,zT,zT,zT,zT,zT,zT,zT,zT,zT,zT,zT,zT,zT,zT,zT,zT,zT,zT,zT,zF,zF,zF,zF,zF,zF,zF,zF,zF,zF,zF,zF,zF,zF,zF,zF,zF,zF,zF,zF] ?_ rfl ?hy36 ?rest36
 case hy36 => intro w; go_simp; (try with_reducible rfl)
 try simp only [Act.put, zp]
 refine zE 36 #[zT,zT,zT,zT,zT,zT,zT,zT,zT,zT,zT,zT,zT,zT,zT,zT,zT,zT,zT,zT,zT,zT,zT,zT,zT,zT,zT,zT,zT,zT,zT,zT,zT,zT,zT,zT,zT,zF,zF,zF,zF,zF,zF,zF,zF,zF,zF,zF,zF,zF,zF,zF,zF,zF,zF,zF] ?_ rfl ?hy37 ?rest37
 case hy37 => intro w; go_simp; (try with_reducible rfl)
 try simp only [Act.put, zp]
 refine zE 37 #[zT,zT,zT,zT,zT,zT,zT,zT,zT,zT,zT,zT,zT,zT,zT,zT,zT,zT,zT,zT,zT,zT,zT,zT,zT,zT,zT,zT,zT,zT,zT,zT,zT,zT,zT,zT,zT,zT,zF,zF,zF,zF,zF,zF,zF,zF,zF,zF,zF,zF,zF,zF,zF,zF,zF,zF] ?_ rfl ?hy38 ?rest38
 case hy38 => intro w; go_simp; (try with_reducible rfl)
 try simp only [Act.put, zp]
 refine zE 38 #[zT,zT,zT,zT,zT,zT,zT,zT,zT,zT,zT,zT,zT,zT,zT,zT,zT,zT,zT,zT,zT,zT,zT,zT,zT,zT,zT,zT,zT,zT,zT,zT,zT,zT,zT,zT,zT,zT,zT,zF,zF,zF,zF,zF,zF,zF,zF,zF,zF,zF,zF,zF,zF,zF,zF,zF] ?_ rfl ?hy39 ?rest39
 case hy39 => intro w; go_simp; (try with_reducible rfl)
 try simp only [Act.put, zp]
 refine zE 39 #[zT,zT,zT,zT,zT,zT,zT,zT,zT,zT,zT,zT,zT,zT,zT,zT,zT,zT,zT,zT,zT,zT,zT,zT,zT,zT,zT,zT,zT,zT,zT,zT,zT,zT,zT,zT,zT,zT,zT,zT,zF,zF,zF,zF,zF,zF,zF,zF,zF,zF,zF,zF,zF,zF,zF,zF] ?_ rfl ?hy40 ?rest40
 case hy40 => intro w; go_simp; (try with_reducible rfl)
 try simp only [Act.put, zp]
 refine zE 40 #[zT,zT,zT,zT,zT,zT,zT,zT,zT,zT,zT,zT,zT,zT,zT,zT,zT,zT,zT,zT,zT,zT,zT,zT,zT,zT,zT,zT,zT,zT,zT,zT,zT,zT,zT,zT,zT,zT,zT,zT,zT,zF,zF,zF,zF,zF,zF,zF,zF,zF,zF,zF,zF,zF,zF,zF] ?_ rfl ?hy41 ?rest41
 case hy41 => intro w; go_simp; (try with_reducible rfl)
 try simp only [Act.put, zp]
 refine zE 41 #[zT,zT,zT,zT,zT,zT,zT,zT,zT,zT,zT,zT,zT,zT,zT,zT,zT,zT,zT,zT,zT,zT,zT,zT,zT,zT,zT,zT,zT,zT,zT,zT,zT,zT,zT,zT,zT,zT,zT,zT,zT,zT,zF,zF,zF,zF,zF,zF,zF,zF,zF,zF,zF,zF,zF,zF] ?_ rfl ?hy42 ?rest42
 case hy42 => intro w; go_simp; (try with_reducible rfl)
 try simp only [Act.put, zp]
 have kpd_ : Keeps v17 v31 := fun p hp => Below.block (later j20 (later j24 (later j26 (later j30 j32)))) p hp
 refine readE (i := 42) (L := #[zT,zT,zT,zT,zT,zT,zT,zT,zT,zT,zT,zT,zT,zT,zT,zT,zT,zT,zT,zT,zT,zT,zT,zT,zT,zT,zT,zT,zT,zT,zT,zT,zT,zT,zT,zT,zT,zT,zT,zT,zT,zT,zT,zF,zF,zF,zF,zF,zF,zF,zF,zF,zF,zF,zF,zF]) (v := .int .i64 2) rfl (by rfl) (by kernel_rfl) (by kernel_rfl) (by kernel_rfl) (fun _ _ _ h => h) (by assumption) (by rfl) ?yd_ ?zd_
 case yd_ =>
  intro w' h1
  have k_ := (World.cell?_of_block (h1 _ lbd)).trans hcd0.out
  go_simp
 try simp only [Act.put, zp]
 refine zE 43 #[zT,zT,zT,zT,zT,zT,zT,zT,zT,zT,zT,zT,zT,zT,zT,zT,zT,zT,zT,zT,zT,zT,zT,zT,zT,zT,zT,zT,zT,zT,zT,zT,zT,zT,zT,zT,zT,zT,zT,zT,zT,zT,zT,zT,zF,zF,zF,zF,zF,zF,zF,zF,zF,zF,zF,zF] ?_ rfl ?hy44 ?rest44
 case hy44 => intro w; go_simp; (try with_reducible rfl)
 try simp only [Act.put, zp]
 refine zE 44 #[zT,zT,zT,zT,zT,zT,zT,zT,zT,zT,zT,zT,zT,zT,zT,zT,zT,zT,zT,zT,zT,zT,zT,zT,zT,zT,zT,zT,zT,zT,zT,zT,zT,zT,zT,zT,zT,zT,zT,zT,zT,zT,zT,zT,zT,zF,zF,zF,zF,zF,zF,zF,zF,zF,zF,zF] ?_ rfl ?hy45 ?rest45
 case hy45 => intro w; go_simp; (try with_reducible rfl)
 try simp only [Act.put, zp]
 refine zE 45 #[zT,zT,zT,zT,zT,zT,zT,zT,zT,zT,zT,zT,zT,zT,zT,zT,zT,zT,zT,zT,zT,zT,zT,zT,zT,zT,zT,zT,zT,zT,zT,zT,zT,zT,zT,zT,zT,zT,zT,zT,zT,zT,zT,zT,zT,zT,zF,zF,zF,zF,zF,zF,zF,zF,zF,zF] ?_ rfl ?hy46 ?rest46
 case hy46 => intro w; go_simp; (try with_reducible rfl)
 try simp only [Act.put, zp]
 refine zE 46 #[zT,zT,zT,zT,zT,zT,zT,zT,zT,zT,zT,zT,zT,zT,zT,zT,zT,zT,zT,zT,zT,zT,zT,zT,zT,zT,zT,zT,zT,zT,zT,zT,zT,zT,zT,zT,zT,zT,zT,zT,zT,zT,zT,zT,zT,zT,zT,zF,zF,zF,zF,zF,zF,zF,zF,zF] ?_ rfl ?hy47 ?rest47
 case hy47 => intro w; go_simp; (try with_reducible rfl)
 try simp only [Act.put, zp]
 refine zE 47 #[zT,zT,zT,zT,zT,zT,zT,zT,zT,zT,zT,zT,zT,zT,zT,zT,zT,zT,zT,zT,zT,zT,zT,zT,zT,zT,zT,zT,zT,zT,zT,zT,zT,zT,zT,zT,zT,zT,zT,zT,zT,zT,zT,zT,zT,zT,zT,zT,zF,zF,zF,zF,zF,zF,zF,zF] ?_ rfl ?hy48 ?rest48
 case hy48 => intro w; go_simp; (try with_reducible rfl)
 try simp only [Act.put, zp]
 refine stepK (i := 48) (L := #[zT,zT,zT,zT,zT,zT,zT,zT,zT,zT,zT,zT,zT,zT,zT,zT,zT,zT,zT,zT,zT,zT,zT,zT,zT,zT,zT,zT,zT,zT,zT,zT,zT,zT,zT,zT,zT,zT,zT,zT,zT,zT,zT,zT,zT,zT,zT,zT,zT,zF,zF,zF,zF,zF,zF,zF]) rfl (by rfl) (by kernel_rfl) (by rfl) (fun K hK => ?_)
 go_simp
 go_at_call 20
 refine (SameF_any v31 _ Aa 1 cd 1 ca gd ga (LFs.on LD (later j20 (later j24 (later j26 (later j30 j32))))) (LFs.on LA (later j6 (later j8 (later j10 (later j12 (later j14 (later jX (later j16 (later jY (later j18 (later j20 (later j24 (later j26 (later j30 j32)))))))))))))) true e1.out).mono ?_
 rintro e' v33 ⟨rfl, j34⟩
 refine hK _ _ ⟨fun _ _ => fun p hp => Below.block (later j20 (later j24 (later j26 (later j30 (later j32 j34))))) p hp, ?_⟩
 clear hK K
 try simp only []
 refine zE 49 #[zT,zT,zT,zT,zT,zT,zT,zT,zT,zT,zT,zT,zT,zT,zT,zT,zT,zT,zT,zT,zT,zT,zT,zT,zT,zT,zT,zT,zT,zT,zT,zT,zT,zT,zT,zT,zT,zT,zT,zT,zT,zT,zT,zT,zT,zT,zT,zT,zT,zT,zF,zF,zF,zF,zF,zF] ?_ rfl ?hy50 ?rest50
 case hy50 => intro w; go_simp; (try with_reducible rfl)
 try simp only [Act.put, zp]
 refine zE 50 #[zT,zT,zT,zT,zT,zT,zT,zT,zT,zT,zT,zT,zT,zT,zT,zT,zT,zT,zT,zT,zT,zT,zT,zT,zT,zT,zT,zT,zT,zT,zT,zT,zT,zT,zT,zT,zT,zT,zT,zT,zT,zT,zT,zT,zT,zT,zT,zT,zT,zT,zT,zF,zF,zF,zF,zF] ?_ rfl ?hy51 ?rest51
 case hy51 => intro w; go_simp; (try with_reducible rfl)
 try simp only [Act.put, zp]
 refine zE 51 #[zT,zT,zT,zT,zT,zT,zT,zT,zT,zT,zT,zT,zT,zT,zT,zT,zT,zT,zT,zT,zT,zT,zT,zT,zT,zT,zT,zT,zT,zT,zT,zT,zT,zT,zT,zT,zT,zT,zT,zT,zT,zT,zT,zT,zT,zT,zT,zT,zT,zT,zT,zT,zF,zF,zF,zF] ?_ rfl ?hy52 ?rest52
 case hy52 => intro w; go_simp; (try with_reducible rfl)
 try simp only [Act.put, zp]
 refine zE 52 #[zT,zT,zT,zT,zT,zT,zT,zT,zT,zT,zT,zT,zT,zT,zT,zT,zT,zT,zT,zT,zT,zT,zT,zT,zT,zT,zT,zT,zT,zT,zT,zT,zT,zT,zT,zT,zT,zT,zT,zT,zT,zT,zT,zT,zT,zT,zT,zT,zT,zT,zT,zT,zT,zF,zF,zF] ?_ rfl ?hy53 ?rest53
 case hy53 => intro w; go_simp; (try with_reducible rfl)
 try simp only [Act.put, zp]
 refine zE 53 #[zT,zT,zT,zT,zT,zT,zT,zT,zT,zT,zT,zT,zT,zT,zT,zT,zT,zT,zT,zT,zT,zT,zT,zT,zT,zT,zT,zT,zT,zT,zT,zT,zT,zT,zT,zT,zT,zT,zT,zT,zT,zT,zT,zT,zT,zT,zT,zT,zT,zT,zT,zT,zT,zT,zF,zF] ?_ rfl ?hy54 ?rest54
 case hy54 => intro w; go_simp; (try with_reducible rfl)
 try simp only [Act.put, zp]
 refine zE 54 #[zT,zT,zT,zT,zT,zT,zT,zT,zT,zT,zT,zT,zT,zT,zT,zT,zT,zT,zT,zT,zT,zT,zT,zT,zT,zT,zT,zT,zT,zT,zT,zT,zT,zT,zT,zT,zT,zT,zT,zT,zT,zT,zT,zT,zT,zT,zT,zT,zT,zT,zT,zT,zT,zT,zT,zF] ?_ rfl ?hy55 ?rest55
 case hy55 => intro w; go_simp; (try with_reducible rfl)
 try simp only [Act.put, zp]
 refine zE 55 #[zT,zT,zT,zT,zT,zT,zT,zT,zT,zT,zT,zT,zT,zT,zT,zT,zT,zT,zT,zT,zT,zT,zT,zT,zT,zT,zT,zT,zT,zT,zT,zT,zT,zT,zT,zT,zT,zT,zT,zT,zT,zT,zT,zT,zT,zT,zT,zT,zT,zT,zT,zT,zT,zT,zT,zT] ?_ rfl ?hy56 ?rest56
 case hy56 => intro w; go_simp; (try with_reducible rfl)
 try simp only [Act.put, zp]
 refine doneE (by kernel_rfl) ?_ _
 go_wp2
 go_ret
 exact ⟨rfl, (later j2 (later j4 (later j6 (later j8 (later j10 (later j12 (later j14 (later jX (later j16 (later jY (later j18 (later j20 (later j24 (later j26 (later j30 (later j32 j34))))))))))))))))⟩
end Ma
end Go.Proofs.Ytbbnbgllgomolaa
namespace Go.Proofs.Ytbbnbgllgomolaa
open Go.RowKit
namespace Ma
open Dp Dy
theorem beforeF_len {n : Nat} {fs gs : List Fv} {z : Int} (h : TwinF (beforeF 0 fs z) gs) (hn : fs.length = n) : gs.length = aheadF fs z := by
 have hl := aheadF_le fs z
 rw [h.1]
 unfold beforeF
 rw [if_pos rfl]
 simp
 omega
set_option maxHeartbeats 51200000 in
set_option maxRecDepth 100000 in
theorem pparts_walk (w : World) (A0 : Option Addr) (n0 c0 : Nat) (fs : List Fv) (La : LFs w 0 w.heap.size A0 n0 fs) (hnc : n0 ≤ c0) (_ : c0 ≤ maxLen) (z : Int) :
  Calls Try.prog 8 #[.slice A0 n0 c0, .int .i64 z] w fun e w' => e = .returned (.bool true) ∧ Below w.heap.size w w' := by
 have j0 : Below w.heap.size w w := Below.refl _ _
 have HL := Lib.hid La.len
 have hbig := La.big
 obtain ⟨g1, hg1⟩ : ∃ g, greatF n0 fs = g := ⟨_, rfl⟩
 obtain ⟨kg, hkg⟩ : ∃ k, getF n0 fs z = k := ⟨_, rfl⟩
 obtain ⟨kb, hkb⟩ : ∃ k, askF n0 fs z = k := ⟨_, rfl⟩
 obtain ⟨i, hi⟩ : ∃ k, aheadF fs z = k := ⟨_, rfl⟩
 have G1 := Lib.hid hg1
 have KG := Lib.hid hkg
 have KB := Lib.hid hkb
 have HI := Lib.hid hi
 have hin : i ≤ n0 := by
  have := aheadF_le fs z
  rw [La.len] at this
  omega
 clear hg1 hkg hkb hi
 go_enter Try.func8, Try.ntmps8
 go_wp2_with fail
 refine (alive20_any w).mono ?_
 rintro e' v1 ⟨rfl, j2⟩
 try clear hw
 go_wp2_with fail
 refine (GreatF_any v1 A0 n0 c0 fs (LFs.on La j2) g1 G1.out).mono ?_
 rintro e' v3 ⟨rfl, j4⟩
 try clear hw
 cases g1
 rotate_left
 · skip
   go_wp2
   go_ret
   exact ⟨rfl, (later j2 j4)⟩
 · skip
   have SL : Hid (SmallF fs) := Lib.hid (small_list La G1.out)
   clear G1
   go_wp2_with fail
   refine (Before_any v3 A0 n0 c0 fs (LFs.on La (later j2 j4)) hnc z SL.out kb KB.out).mono ?_
   rintro e' v5 ⟨Ab, nb, cb, gb, rfl, tb, j6, Ob, rb⟩
   try clear hw
   replace tb := Lib.hid tb
   by_cases h0 : kb = 0
   rotate_left
   · skip
     have hz : nb = 0 := by
      have h := tb.out.1
      unfold beforeF at h
      rw [if_neg h0] at h
      rw [← Ob.len]
      exact h
     subst hz
     have n1 : (kb != 0) = true := by simpa using h0
     clear KB HI KG tb Ob rb
     go_wp2
     go_ret
     exact ⟨rfl, (later j2 (later j4 j6))⟩
   · skip
     subst h0
     have hlb := (beforeF_len tb.out HL.out).trans HI.out
     obtain rfl : nb = i := Ob.len.symm.trans hlb
     have HLB := Lib.hid hlb
     have LB := Ob.lfs
     have tb2 : Hid (TwinF (fs.take nb) gb) := Lib.hid (by
      have h := tb.out
      unfold beforeF at h
      rw [if_pos rfl, HI.out] at h
      exact h)
     have e1 := Lib.hid (twinF_same tb2.out)
     have hM := Lib.hid (askF_zero KB.out).2.1
     have d0 : decide ((n0 : Int) < (nb : Int)) = false := decide_eq_false (by omega)
     have hnc2 : nb ≤ c0 := by omega
     clear hlb tb
     go_upto_region 7 with fail
     go_cut [6, 78] from 10 to 77 (fun s6 s78 wx => s6 = .slice Ab nb cb ∧ s78 = .bool false ∧ Below v5.heap.size v5 wx)
     case first =>
      go_wp2_with fail
      refine (SameF_any v5 Ab A0 nb cb nb c0 gb (fs.take nb) LB (LFs.take (LFs.on La (later j2 (later j4 j6))) hin) true e1.out).mono ?_
      rintro e' v7 ⟨rfl, j8⟩
      try clear hw
      by_cases h1 : 0 < nb
      rotate_left
      · skip
        have d1 : decide ((0 : Int) < (nb : Int)) = false := decide_eq_false (by omega)
        by_cases h2 : nb < n0
        rotate_left
        · skip
          have d2 : decide ((nb : Int) < (n0 : Int)) = false := decide_eq_false (by omega)
          go_wp2_with fail
          go_meet
          exact ⟨rfl, (by first | rfl | (congr 1; exact decide_eq_false (by omega))), j8⟩
        · skip
          have h2i : (nb : Int) < (n0 : Int) := by omega
          have hf2 : nb < fs.length := by rw [HL.out]; exact h2
          obtain ⟨b2, o2, hA2, _, lb2, hc2⟩ := ((LFs.on La (later j2 (later j4 (later j6 j8))))).row (by omega)
          have k2 := (hc2 nb hf2).1
          have hge : z ≤ fs[nb].e := aheadF_ge hM.out nb hf2 (by rw [HI.out]; exact Nat.le_refl _)
          obtain ⟨f2, hf2'⟩ : ∃ f, fs[nb] = f := ⟨_, rfl⟩
          rw [hf2'] at k2 hge
          have d3 : decide (f2.e < z) = false := decide_eq_false (by omega)
          clear hc2 hf2' hge
          subst hA2
          go_wp2_with fail
          go_meet
          exact ⟨rfl, (by first | rfl | (congr 1; exact decide_eq_false (by omega))), j8⟩
      · skip
        have h1i : (0 : Int) < (nb : Int) := by omega
        have hf1 : nb - 1 < gb.length := by rw [HLB.out]; omega
        have hf1' : nb - 1 < fs.length := by have := HL.out; omega
        obtain ⟨b1, o1, hA1, _, lb1, hc1⟩ := ((LFs.on LB j8)).row h1
        have k1 := (hc1 (nb - 1) hf1).1
        have hlt : gb[nb - 1].e < z := by
         have a := tb2.out.2 (nb - 1) (by simp; omega) hf1
         rw [List.getElem_take] at a
         rw [a.1]
         exact aheadF_lt (z := z) (nb - 1) hf1' (by rw [HI.out]; omega)
        obtain ⟨f1, hf1''⟩ : ∃ f, gb[nb - 1] = f := ⟨_, rfl⟩
        rw [hf1''] at k1 hlt
        have d4 : decide (z ≤ f1.e) = false := decide_eq_false (by omega)
        have hwm : IntKind.i64.wrap ((nb : Int) - 1) = ((nb - 1 : Nat) : Int) := by rw [IntKind.wrap_i64]; omega
        have hil : nb - 1 < nb := by omega
        clear hc1 hf1'' hlt
        subst hA1
        by_cases h2 : nb < n0
        rotate_left
        · skip
          have d2 : decide ((nb : Int) < (n0 : Int)) = false := decide_eq_false (by omega)
          go_wp2_with fail
          go_meet
          exact ⟨rfl, (by first | rfl | (congr 1; exact decide_eq_false (by omega))), j8⟩
        · skip
          have h2i : (nb : Int) < (n0 : Int) := by omega
          have hf2 : nb < fs.length := by rw [HL.out]; exact h2
          obtain ⟨b2, o2, hA2, _, lb2, hc2⟩ := ((LFs.on La (later j2 (later j4 (later j6 j8))))).row (by omega)
          have k2 := (hc2 nb hf2).1
          have hge : z ≤ fs[nb].e := aheadF_ge hM.out nb hf2 (by rw [HI.out]; exact Nat.le_refl _)
          obtain ⟨f2, hf2'⟩ : ∃ f, fs[nb] = f := ⟨_, rfl⟩
          rw [hf2'] at k2 hge
          have d3 : decide (f2.e < z) = false := decide_eq_false (by omega)
          clear hc2 hf2' hge
          subst hA2
          go_wp2_with fail
          go_meet
          exact ⟨rfl, (by first | rfl | (congr 1; exact decide_eq_false (by omega))), j8⟩
     case rest =>
      obtain ⟨rfl, rfl, jc7⟩ := hcut
      obtain ⟨x7, hwc⟩ : ∃ W : World, W = wc := ⟨_, rfl⟩
      subst hwc
      go_wp2_with fail
      refine (Get_any x7 A0 n0 c0 fs (LFs.on La (later j2 (later j4 (later j6 jc7)))) z SL.out kg KG.out).mono ?_
      rintro e' v9 ⟨qX, rfl, tX, j10, RX⟩
      try clear hw
      replace tX := Lib.hid tX
      obtain ⟨uX, hu_, b8, jX, sX⟩ := alloc_p v9 qX
      go_upto_region 10 with (first
       | (refine wpList_store_new rfl 31 (.tmp 8) (.tmp 83) rfl _ #[.bool qX.M.S.s, .slice qX.M.S.A qX.M.S.n qX.M.S.c, .int .i64 qX.M.S.e, .bool qX.M.W.s, .slice qX.M.W.A qX.M.W.n qX.M.W.c, .int .i64 qX.M.W.e, .bool qX.M.C.s, .slice qX.M.C.A qX.M.C.n qX.M.C.c, .int .i64 qX.M.C.e, .bool qX.M.A.s, .slice qX.M.A.A qX.M.A.n qX.M.A.c, .int .i64 qX.M.A.e, .bool qX.h, .int .i64 qX.mn, .int .i64 qX.mx, .slice qX.A qX.n qX.c] rfl rfl (by kernel_rfl) rfl (all_oneCell_toArray (cells16_one qX)) ?_))
      try rw [hu_]
      try clear hu_
      have hRX : PRows uX 0 uX.heap.size qX := (RX.below jX (Nat.le_refl _)).more (Nat.zero_le _) (Below.size jX)
      have HC := Lib.hid (get_code KG.out KB.out (if_pos rfl) HL.out)
      by_cases h2 : nb < n0
      rotate_left
      · have d2 : decide ((nb : Int) < (n0 : Int)) = false := decide_eq_false (by omega)
        have hk6 : kg = 6 := HC.out.2.1 rfl (by have := HI.out; omega)
        subst hk6
        clear HC KG tX
        go_wp2
        go_ret
        exact ⟨rfl, (later j2 (later j4 (later j6 (later jc7 (later j10 jX)))))⟩
      · skip
        have h2i : (nb : Int) < (n0 : Int) := by omega
        have hf2 : nb < fs.length := by rw [HL.out]; exact h2
        obtain ⟨b2, o2, hA2, _, lb2, hc2⟩ := ((LFs.on La (later j2 (later j4 (later j6 (later jc7 (later j10 jX))))))).row (by omega)
        have hR2 := ((LFs.on La (later j2 (later j4 (later j6 (later jc7 (later j10 jX))))))).rows nb hf2
        have hci := Lib.hid (hc2 nb hf2)
        have HD : Hid ((fs[nb].e ≠ z → kg = 6) ∧ (fs[nb].e = z → kg = 0 ∧ TwinP fs[nb].P qX)) := Lib.hid (by
         have a := HC.out.2.2 rfl (by rw [HI.out]; exact hf2)
         refine ⟨fun h => a.1 (by simpa only [HI.out] using h), fun h => ?_⟩
         have k0 := a.2 (by simpa only [HI.out] using h)
         refine ⟨k0, ?_⟩
         have t := tX.out
         rw [k0] at t
         unfold gotF at t
         rw [if_pos rfl, HI.out, List.getElem?_eq_getElem hf2] at t
         exact t)
        obtain ⟨f2, hf2'⟩ : ∃ f, fs[nb] = f := ⟨_, rfl⟩
        rw [hf2'] at hci HD hR2
        have k2 := hci.out.1
        clear hc2 hf2' HC KG tX
        subst hA2
        by_cases h3 : f2.e = z
        rotate_left
        · have e3 : (f2.e == z) = false := by simpa using h3
          have hk6 : kg = 6 := HD.out.1 h3
          subst hk6
          clear HD
          go_wp2
          go_ret
          exact ⟨rfl, (later j2 (later j4 (later j6 (later jc7 (later j10 jX)))))⟩
        · skip
          have e3 : (f2.e == z) = true := by simpa using h3
          have hk0 : kg = 0 := (HD.out.2 h3).1
          subst hk0
          have e4 := Lib.hid (twinP_same (HD.out.2 h3).2)
          clear HD h3
          go_upto_region 11 with fail
          try clear hw
          refine region_E (Keeps uX) [] (m := 16) (L := #[zF,zF,zF,zF,zF,zF,zF,zF,zF,zF,zF,zF,zF,zF,zF,zF]) (by kernel_rfl) (by rfl) (by rfl) ?_
          have j12 : Below uX.heap.size uX uX.drew := (Below.refl _ _).drew
          generalize uX.drew = v11 at *
          refine zE 0 #[zT,zF,zF,zF,zF,zF,zF,zF,zF,zF,zF,zF,zF,zF,zF,zF] ?_ rfl ?hy57 ?rest57
          case hy57 => intro w; go_simp; (try with_reducible rfl)
          try simp only [Act.put, zp]
          refine zE 1 #[zT,zT,zF,zF,zF,zF,zF,zF,zF,zF,zF,zF,zF,zF,zF,zF] ?_ rfl ?hy58 ?rest58
          case hy58 => intro w; go_simp; (try with_reducible rfl)
          try simp only [Act.put, zp]
          refine zE 2 #[zT,zT,zT,zF,zF,zF,zF,zF,zF,zF,zF,zF,zF,zF,zF,zF] ?_ rfl ?hy59 ?rest59
          case hy59 => intro w; go_simp; (try with_reducible rfl)
          try simp only [Act.put, zp]
          refine zE 3 #[zT,zT,zT,zT,zF,zF,zF,zF,zF,zF,zF,zF,zF,zF,zF,zF] ?_ rfl ?hy60 ?rest60
          case hy60 => intro w; go_simp; (try with_reducible rfl)
          try simp only [Act.put, zp]
          refine zE 4 #[zT,zT,zT,zT,zT,zF,zF,zF,zF,zF,zF,zF,zF,zF,zF,zF] ?_ rfl ?hy61 ?rest61
          case hy61 => intro w; go_simp; (try with_reducible rfl)
          try simp only [Act.put, zp]
          refine zE 5 #[zT,zT,zT,zT,zT,zT,zF,zF,zF,zF,zF,zF,zF,zF,zF,zF] ?_ rfl ?hy62 ?rest62
          case hy62 => intro w; go_simp; (try with_reducible rfl)
          try simp only [Act.put, zp]
          have kpy13 : Keeps uX v11 := fun p hp => Below.block j12 p hp
          refine readE (i := 6) (L := #[zT,zT,zT,zT,zT,zT,zT,zF,zF,zF,zF,zF,zF,zF,zF,zF]) (v := .agg #[.bool qX.M.S.s, .slice qX.M.S.A qX.M.S.n qX.M.S.c, .int .i64 qX.M.S.e, .bool qX.M.W.s, .slice qX.M.W.A qX.M.W.n qX.M.W.c, .int .i64 qX.M.W.e, .bool qX.M.C.s, .slice qX.M.C.A qX.M.C.n qX.M.C.c, .int .i64 qX.M.C.e, .bool qX.M.A.s, .slice qX.M.A.A qX.M.A.n qX.M.A.c, .int .i64 qX.M.A.e, .bool qX.h, .int .i64 qX.mn, .int .i64 qX.mx, .slice qX.A qX.n qX.c]) rfl (by rfl) (by kernel_rfl) (by kernel_rfl) (by kernel_rfl) (fun _ _ _ h => h) (by assumption) (by rfl) ?y13 ?z14
          case y13 =>
           intro w' h1
           exact run_load_op 31 (.tmp 8) rfl (v9.heap.size) 0 rfl (cells16 qX) _ (PBox.range ((h1 _ sX).trans b8)) Try.underlying31 rfl (by kernel_rfl)
          try simp only [Act.put, zp]
          refine zE 7 #[zT,zT,zT,zT,zT,zT,zT,zT,zF,zF,zF,zF,zF,zF,zF,zF] ?_ rfl ?hy64 ?rest64
          case hy64 => intro w; go_simp; (try with_reducible rfl)
          try simp only [Act.put, zp]
          refine zE 8 #[zT,zT,zT,zT,zT,zT,zT,zT,zT,zF,zF,zF,zF,zF,zF,zF] ?_ rfl ?hy65 ?rest65
          case hy65 => intro w; go_simp; (try with_reducible rfl)
          try simp only [Act.put, zp]
          refine zE 9 #[zT,zT,zT,zT,zT,zT,zT,zT,zT,zT,zF,zF,zF,zF,zF,zF] ?_ rfl ?hy66 ?rest66
          case hy66 => intro w; go_simp; (try with_reducible rfl)
          try simp only [Act.put, zp]
          refine zE 10 #[zT,zT,zT,zT,zT,zT,zT,zT,zT,zT,zT,zF,zF,zF,zF,zF] ?_ rfl ?hy67 ?rest67
          case hy67 => intro w; go_simp; (try with_reducible rfl)
          try simp only [Act.put, zp]
          refine zE 11 #[zT,zT,zT,zT,zT,zT,zT,zT,zT,zT,zT,zT,zF,zF,zF,zF] ?_ rfl ?hy68 ?rest68
          case hy68 => intro w; go_simp; (try with_reducible rfl)
          try simp only [Act.put, zp]
          refine readE (i := 12) (L := #[zT,zT,zT,zT,zT,zT,zT,zT,zT,zT,zT,zT,zT,zF,zF,zF]) (v := .agg #[.bool f2.P.M.S.s, .slice f2.P.M.S.A f2.P.M.S.n f2.P.M.S.c, .int .i64 f2.P.M.S.e, .bool f2.P.M.W.s, .slice f2.P.M.W.A f2.P.M.W.n f2.P.M.W.c, .int .i64 f2.P.M.W.e, .bool f2.P.M.C.s, .slice f2.P.M.C.A f2.P.M.C.n f2.P.M.C.c, .int .i64 f2.P.M.C.e, .bool f2.P.M.A.s, .slice f2.P.M.A.A f2.P.M.A.n f2.P.M.A.c, .int .i64 f2.P.M.A.e, .bool f2.P.h, .int .i64 f2.P.mn, .int .i64 f2.P.mx, .slice f2.P.A f2.P.n f2.P.c]) rfl (by rfl) (by kernel_rfl) (by kernel_rfl) (by kernel_rfl) (fun _ _ _ h => h) (by assumption) (by rfl) ?yd_ ?zd_
          case yd_ =>
           intro w' h1
           exact run_load_op 31 (.tmp 111) rfl b2 (o2 + nb * 17 + 1) rfl (cells16 f2.P) _ (hci.out.blk (h1 _ lb2)).part Try.underlying31 rfl (by kernel_rfl)
          try simp only [Act.put, zp]
          have hR2' := hR2.on j12
          refine stepK (i := 13) (L := #[zT,zT,zT,zT,zT,zT,zT,zT,zT,zT,zT,zT,zT,zT,zF,zF]) rfl (by rfl) (by kernel_rfl) (by rfl) (fun K hK => ?_)
          go_simp
          go_at_call 21
          refine (SamePart_any v11 qX f2.P (PRows.on hRX j12) hR2' true e4.out).mono ?_
          rintro e' v15 ⟨rfl, j16⟩
          refine hK _ _ ⟨fun _ _ => fun p hp => Below.block (later j12 j16) p hp, ?_⟩
          clear hK K
          try simp only [Act.put, zp]
          refine zE 14 #[zT,zT,zT,zT,zT,zT,zT,zT,zT,zT,zT,zT,zT,zT,zT,zF] ?_ rfl ?hy71 ?rest71
          case hy71 => intro w; go_simp; (try with_reducible rfl)
          try simp only [Act.put, zp]
          refine zE 15 #[zT,zT,zT,zT,zT,zT,zT,zT,zT,zT,zT,zT,zT,zT,zT,zT] ?_ rfl ?hy72 ?rest72
          case hy72 => intro w; go_simp; (try with_reducible rfl)
          try simp only [Act.put, zp]
          refine doneE (by kernel_rfl) ?_ _
          go_wp2
          go_ret
          exact ⟨rfl, (later j2 (later j4 (later j6 (later jc7 (later j10 (later jX (later j12 j16)))))))⟩
end Ma
end Go.Proofs.Ytbbnbgllgomolaa