/- headcountref01.Over2, headcountref03.Floor, Ceil, Near: walks (printed by a program of mine). -/
import Derived.Test.YtbbnbgllgomolaaBe17
namespace Go.Proofs.Ytbbnbgllgomolaa
open Go.RowKit
namespace Dy
open Dp
theorem ask_oks {a b : Dn} (ha : a.May) (hb : b.May) (hn : b.neg = false) (h0 : b.m ≠ 0) {k : Nat} (hk : k ≤ 64) : askX a.neg (canon 4294967296 a.m) a.e b.neg (canon 4294967296 b.m) b.e k = 0 := by
 unfold askX
 rw [if_pos ⟨dn_may ha, dn_may hb⟩, if_neg]
 rintro (h | h | h | h)
 · rw [hn] at h
   cases h
 · exact h0 (canon_nil (by decide) h)
 · omega
 · omega
set_option maxHeartbeats 6400000 in
set_option maxRecDepth 100000 in
/-- headcountref03.Floor: an error. -/
theorem rFloor_bad (w : World) (s1 s2 : Bool) (A1 A2 : Option Addr) (n1 c1 n2 c2 : Nat) (xs1 xs2 : List Int) (e1 e2 : Int) (h1 : Ints w 0 w.heap.size .u32 A1 n1 xs1) (h2 : Ints w 0 w.heap.size .u32 A2 n2 xs2) (k q : Int) (hq : askX s1 xs1 e1 s2 xs2 e2 k = q) (hq0 : q = 2 ∨ q = 8) :
  Calls Try.prog 37 #[.agg #[.bool s1, .slice A1 n1 c1, .int .i64 e1], .agg #[.bool s2, .slice A2 n2 c2, .int .i64 e2], .int .i64 k] w (Formed w Dn.zero q) := by
 have HQ := Lib.hid hq
 clear hq
 generalize hw : ((w.alloc (.cells #[.bool s1, .slice A1 n1 c1, .int .i64 e1] 25)).alloc (.cells #[.bool s2, .slice A2 n2 c2, .int .i64 e2] 25)).alloc (.cells #[.bool false, .slice none 0 0, .int .i64 0] 25) = w1
 obtain ⟨D1, D2, D3, b1, l1, l2⟩ := boxes3R w _ _ _ hw
 replace D3 : w1.heap[w.heap.size + 1 + 1]? = some (.cells #[.bool false, .slice none 0 0, .int .i64 0] 25 (0, 0)) := D3
 have S1 : w.heap.size < w1.heap.size := by omega
 have S2 : w.heap.size + 1 < w1.heap.size := by omega
 have S3 : w.heap.size + 1 + 1 < w1.heap.size := by omega
 go_enter Try.func37, Try.ntmps37
 obtain ⟨⟨q1_0, q1_1, q1_2⟩, q1_3, q1_4, q1_5⟩ := boxD D1
 obtain ⟨⟨q2_0, q2_1, q2_2⟩, q2_3, q2_4, q2_5⟩ := boxD D2
 go_wp2_with fail
 refine (rAsk_any w1 s1 s2 A1 A2 n1 c1 n2 c2 xs1 xs2 e1 e2 (ints_on h1 b1) (ints_on h2 b1) k q HQ.out).mono ?_
 rintro e' v3 ⟨rfl, j4⟩
 clear q1_0 q1_1 q1_2 q1_3 q1_4 q1_5 q2_0 q2_1 q2_2 q2_3 q2_4 q2_5
 try clear hw
 rcases hq0 with rfl | rfl
 all_goals
  obtain ⟨⟨z0, z1, z2⟩, z3, z4, z5⟩ := boxD (box_later D3 j4 S3)
  obtain ⟨U, hU, hX, hbU, hfU, s1', s2'⟩ := zputR (box_later D3 j4 S3) (.bool false) (.slice none 0 0) (.int .i64 0)
  go_wp2
  try rw [hU]
  clear hU z0 z1 z2 z3 z4 z5
  obtain ⟨⟨z0, z1, z2⟩, _⟩ := boxD hX
  exact bodyPost_ret (v := .tuple #[.agg #[.bool false, .slice none 0 0, .int .i64 0], .int .i64 _]) (by simp [results, Try.results37, go_sem, z0, z1, z2]) rfl ⟨none, 0, 0, rfl, Nat.le_refl _, hbU _ _ (later b1 j4) (show w.heap.size ≤ w.heap.size + 1 + 1 by omega), Ints.nil_ ..⟩
set_option maxHeartbeats 6400000 in
set_option maxRecDepth 100000 in
/-- headcountref03.Floor, of dyads that may be. -/
theorem rFloor_dn (w : World) (a b : Dn) (ha : a.May) (hb_ : b.May) (hbn : b.neg = false) (hb0 : b.m ≠ 0) (A1 A2 : Option Addr) (n1 c1 n2 c2 : Nat) (h1 : Ints w 0 w.heap.size .u32 A1 n1 (canon 4294967296 a.m)) (h2 : Ints w 0 w.heap.size .u32 A2 n2 (canon 4294967296 b.m)) (k : Nat) (hk : k ≤ 64) (r : Dn) (code : Int) (h : toD a b k a.neg = (r, code)) :
  Calls Try.prog 37 #[.agg #[.bool a.neg, .slice A1 n1 c1, .int .i64 a.e], .agg #[.bool b.neg, .slice A2 n2 c2, .int .i64 b.e], .int .i64 k] w (Formed w r code) := by
 obtain ⟨v, hv⟩ : ∃ v, (quoN a b k).1 + (if (quoN a b k).2 ≠ 0 ∧ false ≠ a.neg then 1 else 0) = v := ⟨_, rfl⟩
 have hf : formed a.neg v k = (r, code) := by
  rw [← h, ← hv]
  unfold toD
  congr 2
  cases a.neg <;> simp
 have HV := Lib.hid hv
 have HF := Lib.hid hf
 have HQ : Hid (askX a.neg (canon 4294967296 a.m) a.e b.neg (canon 4294967296 b.m) b.e k = 0) := Lib.hid (ask_oks ha hb_ hbn hb0 hk)
 have hd := Lib.hid (fun u => (canon_spec 2 u (by decide)))
 clear hv hf h hbn
 generalize hw : ((w.alloc (.cells #[.bool a.neg, .slice A1 n1 c1, .int .i64 a.e] 25)).alloc (.cells #[.bool b.neg, .slice A2 n2 c2, .int .i64 b.e] 25)).alloc (.cells #[.bool false, .slice none 0 0, .int .i64 0] 25) = w1
 obtain ⟨D1, D2, D3, b1, l1, l2⟩ := boxes3R w _ _ _ hw
 replace D3 : w1.heap[w.heap.size + 1 + 1]? = some (.cells #[.bool false, .slice none 0 0, .int .i64 0] 25 (0, 0)) := D3
 have S1 : w.heap.size < w1.heap.size := by omega
 have S2 : w.heap.size + 1 < w1.heap.size := by omega
 have S3 : w.heap.size + 1 + 1 < w1.heap.size := by omega
 go_enter Try.func37, Try.ntmps37
 obtain ⟨⟨q6_0, q6_1, q6_2⟩, q6_3, q6_4, q6_5⟩ := boxD D1
 obtain ⟨⟨q7_0, q7_1, q7_2⟩, q7_3, q7_4, q7_5⟩ := boxD D2
 go_wp2_with fail
 refine (rAsk_any w1 a.neg b.neg A1 A2 n1 c1 n2 c2 _ _ a.e b.e (ints_on h1 b1) (ints_on h2 b1) k 0 HQ.out).mono ?_
 rintro e' v8 ⟨rfl, j9⟩
 clear q6_0 q6_1 q6_2 q6_3 q6_4 q6_5 q7_0 q7_1 q7_2 q7_3 q7_4 q7_5
 try clear hw
 obtain ⟨⟨q10_0, q10_1, q10_2⟩, q10_3, q10_4, q10_5⟩ := boxD (box_later D1 j9 S1)
 obtain ⟨⟨q11_0, q11_1, q11_2⟩, q11_3, q11_4, q11_5⟩ := boxD (box_later D2 j9 S2)
 go_wp2_with fail
 refine (rPart_any v8 a b ha hb_ hb0 A1 A2 n1 c1 n2 c2 (ints_on h1 (later b1 j9)) (ints_on h2 (later b1 j9)) k hk k rfl false v HV.out).mono ?_
 rintro e' v12 ⟨P, m, o, rfl, hmo, hm4, j13, J⟩
 clear q10_0 q10_1 q10_2 q10_3 q10_4 q10_5 q11_0 q11_1 q11_2 q11_3 q11_4 q11_5
 try clear hw
 go_wp2_with fail
 refine (rFormed_any v12 a.neg P m o (canon 2 v) (J.more (Nat.zero_le _) (Nat.le_refl _)) (hd.out v).1 hmo (by omega) k (by omega) k rfl v (hd.out v).2.2 r code HF.out).mono ?_
 rintro e' v14 ⟨A9, n9, c9, rfl, hnc, j15, I9⟩
 try clear hw
 have j17 := (Below.refl v14.heap.size v14).alloc (Nat.le_refl _) (.cells #[.bool r.neg, .slice A9 n9 c9, .int .i64 r.e] 25)
 have D9 := heap_alloc_last v14 (.cells #[.bool r.neg, .slice A9 n9 c9, .int .i64 r.e] 25)
 have s18 : v14.heap.size < (v14.alloc (.cells #[.bool r.neg, .slice A9 n9 c9, .int .i64 r.e] 25)).heap.size := by simp
 generalize hw : v14.alloc (.cells #[.bool r.neg, .slice A9 n9 c9, .int .i64 r.e] 25) = v16 at *
 obtain ⟨⟨q19_0, q19_1, q19_2⟩, q19_3, q19_4, q19_5⟩ := boxD D9
 have hlo : w1.heap.size ≤ v12.heap.size := Below.size (later j9 j13)
 obtain ⟨⟨z0, z1, z2⟩, z3, z4, z5⟩ := boxD (box_later D3 (later j9 (later j13 (later j15 j17))) S3)
 obtain ⟨U, hU, hX, hbU, hfU, s1', s2'⟩ := zputR (box_later D3 (later j9 (later j13 (later j15 j17))) S3) (.bool r.neg) (.slice A9 n9 c9) (.int .i64 r.e)
 go_wp2
 try rw [hU]
 clear hU z0 z1 z2 z3 z4 z5
 obtain ⟨⟨z0, z1, z2⟩, _⟩ := boxD hX
 exact bodyPost_ret (v := .tuple #[.agg #[.bool r.neg, .slice A9 n9 c9, .int .i64 r.e], .int .i64 code]) (by simp [results, Try.results37, go_sem, z0, z1, z2]) rfl ⟨A9, n9, c9, rfl, hnc, hbU _ _ (later b1 (later j9 (later j13 (later j15 j17)))) (show w.heap.size ≤ w.heap.size + 1 + 1 by omega), (intsR (I9.below j17 (Nat.le_refl _)) (fun b h1 h2 => hfU b (by omega))).more (by omega) (Nat.le_trans (Below.size j17) (by omega))⟩
/-- headcountref03.Floor. -/
theorem rFloor_all (w : World) (s1 s2 : Bool) (A1 A2 : Option Addr) (n1 c1 n2 c2 : Nat) (xs1 xs2 : List Int) (e1 e2 : Int) (h1 : Ints w 0 w.heap.size .u32 A1 n1 xs1) (h2 : Ints w 0 w.heap.size .u32 A2 n2 xs2) (k : Int) (r : Dn) (code : Int) (h : toX s1 xs1 e1 s2 xs2 e2 k s1 = (r, code)) :
  Calls Try.prog 37 #[.agg #[.bool s1, .slice A1 n1 c1, .int .i64 e1], .agg #[.bool s2, .slice A2 n2 c2, .int .i64 e2], .int .i64 k] w (Formed w r code) := by
 unfold toX at h
 split at h
 · rename_i hm
   obtain ⟨m1, m2, hs, hx, k0, k1⟩ := ask_zero hm
   obtain ⟨y1, c1', t1⟩ := dn_ok (dig_ints h1) m1
   obtain ⟨y2, c2', t2⟩ := dn_ok (dig_ints h2) m2
   have hb0 : (dn s2 xs2 e2).m ≠ 0 := fun e => hx (by rw [← c2', e]; rfl)
   have := rFloor_dn w (dn s1 xs1 e1) (dn s2 xs2 e2) y1 y2 hs hb0 A1 A2 n1 c1 n2 c2 (by rw [c1']; exact h1) (by rw [c2']; exact h2) k.toNat (by omega) r code h
   rw [t1, t2, show ((k.toNat : Nat) : Int) = k by omega] at this
   exact this
 · rename_i hm
   injection h with h3 h4
   subst h3 h4
   exact rFloor_bad w s1 s2 A1 A2 n1 c1 n2 c2 xs1 xs2 e1 e2 h1 h2 k _ rfl ((ask_two ..).resolve_left hm)
set_option maxHeartbeats 6400000 in
set_option maxRecDepth 100000 in
/-- headcountref03.Ceil: an error. -/
theorem rCeil_bad (w : World) (s1 s2 : Bool) (A1 A2 : Option Addr) (n1 c1 n2 c2 : Nat) (xs1 xs2 : List Int) (e1 e2 : Int) (h1 : Ints w 0 w.heap.size .u32 A1 n1 xs1) (h2 : Ints w 0 w.heap.size .u32 A2 n2 xs2) (k q : Int) (hq : askX s1 xs1 e1 s2 xs2 e2 k = q) (hq0 : q = 2 ∨ q = 8) :
  Calls Try.prog 39 #[.agg #[.bool s1, .slice A1 n1 c1, .int .i64 e1], .agg #[.bool s2, .slice A2 n2 c2, .int .i64 e2], .int .i64 k] w (Formed w Dn.zero q) := by
 have HQ := Lib.hid hq
 clear hq
 generalize hw : ((w.alloc (.cells #[.bool s1, .slice A1 n1 c1, .int .i64 e1] 25)).alloc (.cells #[.bool s2, .slice A2 n2 c2, .int .i64 e2] 25)).alloc (.cells #[.bool false, .slice none 0 0, .int .i64 0] 25) = w1
 obtain ⟨D1, D2, D3, b1, l1, l2⟩ := boxes3R w _ _ _ hw
 replace D3 : w1.heap[w.heap.size + 1 + 1]? = some (.cells #[.bool false, .slice none 0 0, .int .i64 0] 25 (0, 0)) := D3
 have S1 : w.heap.size < w1.heap.size := by omega
 have S2 : w.heap.size + 1 < w1.heap.size := by omega
 have S3 : w.heap.size + 1 + 1 < w1.heap.size := by omega
 go_enter Try.func39, Try.ntmps39
 obtain ⟨⟨q21_0, q21_1, q21_2⟩, q21_3, q21_4, q21_5⟩ := boxD D1
 obtain ⟨⟨q22_0, q22_1, q22_2⟩, q22_3, q22_4, q22_5⟩ := boxD D2
 go_wp2_with fail
 refine (rAsk_any w1 s1 s2 A1 A2 n1 c1 n2 c2 xs1 xs2 e1 e2 (ints_on h1 b1) (ints_on h2 b1) k q HQ.out).mono ?_
 rintro e' v23 ⟨rfl, j24⟩
 clear q21_0 q21_1 q21_2 q21_3 q21_4 q21_5 q22_0 q22_1 q22_2 q22_3 q22_4 q22_5
 try clear hw
 rcases hq0 with rfl | rfl
 all_goals
  obtain ⟨⟨z0, z1, z2⟩, z3, z4, z5⟩ := boxD (box_later D3 j24 S3)
  obtain ⟨U, hU, hX, hbU, hfU, s1', s2'⟩ := zputR (box_later D3 j24 S3) (.bool false) (.slice none 0 0) (.int .i64 0)
  go_wp2
  try rw [hU]
  clear hU z0 z1 z2 z3 z4 z5
  obtain ⟨⟨z0, z1, z2⟩, _⟩ := boxD hX
  exact bodyPost_ret (v := .tuple #[.agg #[.bool false, .slice none 0 0, .int .i64 0], .int .i64 _]) (by simp [results, Try.results39, go_sem, z0, z1, z2]) rfl ⟨none, 0, 0, rfl, Nat.le_refl _, hbU _ _ (later b1 j24) (show w.heap.size ≤ w.heap.size + 1 + 1 by omega), Ints.nil_ ..⟩
set_option maxHeartbeats 6400000 in
set_option maxRecDepth 100000 in
/-- headcountref03.Ceil, of dyads that may be. -/
theorem rCeil_dn (w : World) (a b : Dn) (ha : a.May) (hb_ : b.May) (hbn : b.neg = false) (hb0 : b.m ≠ 0) (A1 A2 : Option Addr) (n1 c1 n2 c2 : Nat) (h1 : Ints w 0 w.heap.size .u32 A1 n1 (canon 4294967296 a.m)) (h2 : Ints w 0 w.heap.size .u32 A2 n2 (canon 4294967296 b.m)) (k : Nat) (hk : k ≤ 64) (r : Dn) (code : Int) (h : toD a b k (!a.neg) = (r, code)) :
  Calls Try.prog 39 #[.agg #[.bool a.neg, .slice A1 n1 c1, .int .i64 a.e], .agg #[.bool b.neg, .slice A2 n2 c2, .int .i64 b.e], .int .i64 k] w (Formed w r code) := by
 obtain ⟨v, hv⟩ : ∃ v, (quoN a b k).1 + (if (quoN a b k).2 ≠ 0 ∧ true ≠ a.neg then 1 else 0) = v := ⟨_, rfl⟩
 have hf : formed a.neg v k = (r, code) := by
  rw [← h, ← hv]
  unfold toD
  congr 2
  cases a.neg <;> simp
 have HV := Lib.hid hv
 have HF := Lib.hid hf
 have HQ : Hid (askX a.neg (canon 4294967296 a.m) a.e b.neg (canon 4294967296 b.m) b.e k = 0) := Lib.hid (ask_oks ha hb_ hbn hb0 hk)
 have hd := Lib.hid (fun u => (canon_spec 2 u (by decide)))
 clear hv hf h hbn
 generalize hw : ((w.alloc (.cells #[.bool a.neg, .slice A1 n1 c1, .int .i64 a.e] 25)).alloc (.cells #[.bool b.neg, .slice A2 n2 c2, .int .i64 b.e] 25)).alloc (.cells #[.bool false, .slice none 0 0, .int .i64 0] 25) = w1
 obtain ⟨D1, D2, D3, b1, l1, l2⟩ := boxes3R w _ _ _ hw
 replace D3 : w1.heap[w.heap.size + 1 + 1]? = some (.cells #[.bool false, .slice none 0 0, .int .i64 0] 25 (0, 0)) := D3
 have S1 : w.heap.size < w1.heap.size := by omega
 have S2 : w.heap.size + 1 < w1.heap.size := by omega
 have S3 : w.heap.size + 1 + 1 < w1.heap.size := by omega
 go_enter Try.func39, Try.ntmps39
 obtain ⟨⟨q26_0, q26_1, q26_2⟩, q26_3, q26_4, q26_5⟩ := boxD D1
 obtain ⟨⟨q27_0, q27_1, q27_2⟩, q27_3, q27_4, q27_5⟩ := boxD D2
 go_wp2_with fail
 refine (rAsk_any w1 a.neg b.neg A1 A2 n1 c1 n2 c2 _ _ a.e b.e (ints_on h1 b1) (ints_on h2 b1) k 0 HQ.out).mono ?_
 rintro e' v28 ⟨rfl, j29⟩
 clear q26_0 q26_1 q26_2 q26_3 q26_4 q26_5 q27_0 q27_1 q27_2 q27_3 q27_4 q27_5
 try clear hw
 obtain ⟨⟨q30_0, q30_1, q30_2⟩, q30_3, q30_4, q30_5⟩ := boxD (box_later D1 j29 S1)
 obtain ⟨⟨q31_0, q31_1, q31_2⟩, q31_3, q31_4, q31_5⟩ := boxD (box_later D2 j29 S2)
 go_wp2_with fail
 refine (rPart_any v28 a b ha hb_ hb0 A1 A2 n1 c1 n2 c2 (ints_on h1 (later b1 j29)) (ints_on h2 (later b1 j29)) k hk k rfl true v HV.out).mono ?_
 rintro e' v32 ⟨P, m, o, rfl, hmo, hm4, j33, J⟩
 clear q30_0 q30_1 q30_2 q30_3 q30_4 q30_5 q31_0 q31_1 q31_2 q31_3 q31_4 q31_5
 try clear hw
 go_wp2_with fail
 refine (rFormed_any v32 a.neg P m o (canon 2 v) (J.more (Nat.zero_le _) (Nat.le_refl _)) (hd.out v).1 hmo (by omega) k (by omega) k rfl v (hd.out v).2.2 r code HF.out).mono ?_
 rintro e' v34 ⟨A9, n9, c9, rfl, hnc, j35, I9⟩
 try clear hw
 have j37 := (Below.refl v34.heap.size v34).alloc (Nat.le_refl _) (.cells #[.bool r.neg, .slice A9 n9 c9, .int .i64 r.e] 25)
 have D9 := heap_alloc_last v34 (.cells #[.bool r.neg, .slice A9 n9 c9, .int .i64 r.e] 25)
 have s38 : v34.heap.size < (v34.alloc (.cells #[.bool r.neg, .slice A9 n9 c9, .int .i64 r.e] 25)).heap.size := by simp
 generalize hw : v34.alloc (.cells #[.bool r.neg, .slice A9 n9 c9, .int .i64 r.e] 25) = v36 at *
 obtain ⟨⟨q39_0, q39_1, q39_2⟩, q39_3, q39_4, q39_5⟩ := boxD D9
 have hlo : w1.heap.size ≤ v32.heap.size := Below.size (later j29 j33)
 obtain ⟨⟨z0, z1, z2⟩, z3, z4, z5⟩ := boxD (box_later D3 (later j29 (later j33 (later j35 j37))) S3)
 obtain ⟨U, hU, hX, hbU, hfU, s1', s2'⟩ := zputR (box_later D3 (later j29 (later j33 (later j35 j37))) S3) (.bool r.neg) (.slice A9 n9 c9) (.int .i64 r.e)
 go_wp2
 try rw [hU]
 clear hU z0 z1 z2 z3 z4 z5
 obtain ⟨⟨z0, z1, z2⟩, _⟩ := boxD hX
 exact bodyPost_ret (v := .tuple #[.agg #[.bool r.neg, .slice A9 n9 c9, .int .i64 r.e], .int .i64 code]) (by simp [results, Try.results39, go_sem, z0, z1, z2]) rfl ⟨A9, n9, c9, rfl, hnc, hbU _ _ (later b1 (later j29 (later j33 (later j35 j37)))) (show w.heap.size ≤ w.heap.size + 1 + 1 by omega), (intsR (I9.below j37 (Nat.le_refl _)) (fun b h1 h2 => hfU b (by omega))).more (by omega) (Nat.le_trans (Below.size j37) (by omega))⟩
/-- headcountref03.Ceil. -/
theorem rCeil_all (w : World) (s1 s2 : Bool) (A1 A2 : Option Addr) (n1 c1 n2 c2 : Nat) (xs1 xs2 : List Int) (e1 e2 : Int) (h1 : Ints w 0 w.heap.size .u32 A1 n1 xs1) (h2 : Ints w 0 w.heap.size .u32 A2 n2 xs2) (k : Int) (r : Dn) (code : Int) (h : toX s1 xs1 e1 s2 xs2 e2 k (!s1) = (r, code)) :
  Calls Try.prog 39 #[.agg #[.bool s1, .slice A1 n1 c1, .int .i64 e1], .agg #[.bool s2, .slice A2 n2 c2, .int .i64 e2], .int .i64 k] w (Formed w r code) := by
 unfold toX at h
 split at h
 · rename_i hm
   obtain ⟨m1, m2, hs, hx, k0, k1⟩ := ask_zero hm
   obtain ⟨y1, c1', t1⟩ := dn_ok (dig_ints h1) m1
   obtain ⟨y2, c2', t2⟩ := dn_ok (dig_ints h2) m2
   have hb0 : (dn s2 xs2 e2).m ≠ 0 := fun e => hx (by rw [← c2', e]; rfl)
   have := rCeil_dn w (dn s1 xs1 e1) (dn s2 xs2 e2) y1 y2 hs hb0 A1 A2 n1 c1 n2 c2 (by rw [c1']; exact h1) (by rw [c2']; exact h2) k.toNat (by omega) r code h
   rw [t1, t2, show ((k.toNat : Nat) : Int) = k by omega] at this
   exact this
 · rename_i hm
   injection h with h3 h4
   subst h3 h4
   exact rCeil_bad w s1 s2 A1 A2 n1 c1 n2 c2 xs1 xs2 e1 e2 h1 h2 k _ rfl ((ask_two ..).resolve_left hm)
end Dy
end Go.Proofs.Ytbbnbgllgomolaa