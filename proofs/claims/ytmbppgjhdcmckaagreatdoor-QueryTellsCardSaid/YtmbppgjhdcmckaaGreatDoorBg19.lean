/- headcountref03.Near: a walk (printed by a program of mine). -/
import Derived.Test.YtmbppgjhdcmckaaGreatDoorBg18
namespace Go.Proofs.YtmbppgjhdcmckaaGreatDoor
open Go.RowKit
namespace Dy
open Dp
theorem plusS_le (s : Bool) (m : Nat) (t : Bool) (n : Nat) : (plusS s m t n).2 ≤ m + n := by
 unfold plusS
 split
 · exact Nat.le_refl _
 · split
   · exact Nat.le_trans (Nat.sub_le _ _) (Nat.le_add_right _ _)
   · exact Nat.le_trans (Nat.sub_le _ _) (Nat.le_add_left _ _)
theorem canon2_head {v : Nat} (h : v ≠ 0) : (canon 2 v)[0]?.getD 0 = ((v % 2 : Nat) : Int) := by rw [canon2_cons h]; rfl
set_option maxHeartbeats 6400000 in
set_option maxRecDepth 100000 in
/-- headcountref03.Near: an error. -/
theorem rNear_bad (w : World) (s1 s2 : Bool) (A1 A2 : Option Addr) (n1 c1 n2 c2 : Nat) (xs1 xs2 : List Int) (e1 e2 : Int) (h1 : Ints w 0 w.heap.size .u32 A1 n1 xs1) (h2 : Ints w 0 w.heap.size .u32 A2 n2 xs2) (q : Int) (hq : askX s1 xs1 e1 s2 xs2 e2 0 = q) (hq0 : q = 2 ∨ q = 8) :
  Calls Tryz.prog 87 #[.agg #[.bool s1, .slice A1 n1 c1, .int .i64 e1], .agg #[.bool s2, .slice A2 n2 c2, .int .i64 e2]] w (Formed w Dn.zero q) := by
 have HQ := Lib.hid hq
 clear hq
 generalize hw : ((w.alloc (.cells #[.bool s1, .slice A1 n1 c1, .int .i64 e1] 24)).alloc (.cells #[.bool s2, .slice A2 n2 c2, .int .i64 e2] 24)).alloc (.cells #[.bool false, .slice none 0 0, .int .i64 0] 24) = w1
 obtain ⟨D1, D2, D3, b1, l1, l2⟩ := boxes3R w _ _ _ hw
 replace D3 : w1.heap[w.heap.size + 1 + 1]? = some (.cells #[.bool false, .slice none 0 0, .int .i64 0] 24 (0, 0)) := D3
 have S1 : w.heap.size < w1.heap.size := by omega
 have S2 : w.heap.size + 1 < w1.heap.size := by omega
 have S3 : w.heap.size + 1 + 1 < w1.heap.size := by omega
 go_enter Tryz.func87, Tryz.ntmps87
 obtain ⟨⟨q41_0, q41_1, q41_2⟩, q41_3, q41_4, q41_5⟩ := boxD D1
 obtain ⟨⟨q42_0, q42_1, q42_2⟩, q42_3, q42_4, q42_5⟩ := boxD D2
 go_wp2_with fail
 refine (rAsk_any w1 s1 s2 A1 A2 n1 c1 n2 c2 xs1 xs2 e1 e2 (ints_on h1 b1) (ints_on h2 b1) 0 q HQ.out).mono ?_
 rintro e' v43 ⟨rfl, j44⟩
 clear q41_0 q41_1 q41_2 q41_3 q41_4 q41_5 q42_0 q42_1 q42_2 q42_3 q42_4 q42_5
 try clear hw
 rcases hq0 with rfl | rfl
 all_goals
  obtain ⟨⟨z0, z1, z2⟩, z3, z4, z5⟩ := boxD (box_later D3 j44 S3)
  obtain ⟨U, hU, hX, hbU, hfU, s1', s2'⟩ := zputR (box_later D3 j44 S3) (.bool false) (.slice none 0 0) (.int .i64 0)
  go_wp2
  try rw [hU]
  clear hU z0 z1 z2 z3 z4 z5
  obtain ⟨⟨z0, z1, z2⟩, _⟩ := boxD hX
  exact bodyPost_ret (v := .tuple #[.agg #[.bool false, .slice none 0 0, .int .i64 0], .int .i64 _]) (by simp [results, Tryz.results87, go_sem, z0, z1, z2]) rfl ⟨none, 0, 0, rfl, Nat.le_refl _, hbU _ _ (later b1 j44) (show w.heap.size ≤ w.heap.size + 1 + 1 by omega), Ints.nil_ ..⟩
set_option maxHeartbeats 12800000 in
set_option maxRecDepth 100000 in
/-- headcountref03.Near, of dyads that may be. -/
theorem rNear_dn (w : World) (a b : Dn) (ha : a.May) (hb_ : b.May) (hbn : b.neg = false) (hb0 : b.m ≠ 0) (A1 A2 : Option Addr) (n1 c1 n2 c2 : Nat) (h1 : Ints w 0 w.heap.size .u32 A1 n1 (canon 4294967296 a.m)) (h2 : Ints w 0 w.heap.size .u32 A2 n2 (canon 4294967296 b.m)) (r : Dn) (code : Int) (h : nearD a b = (r, code)) :
  Calls Tryz.prog 87 #[.agg #[.bool a.neg, .slice A1 n1 c1, .int .i64 a.e], .agg #[.bool b.neg, .slice A2 n2 c2, .int .i64 b.e]] w (Formed w r code) := by
 obtain ⟨N, hN⟩ : ∃ N, (quoN a b 1).1 + (if (quoN a b 1).2 ≠ 0 ∧ false ≠ a.neg then 1 else 0) = N := ⟨_, rfl⟩
 obtain ⟨s, v, hp⟩ : ∃ s v, plusS a.neg N false 1 = (s, v) := ⟨_, _, rfl⟩
 obtain ⟨r1, r2⟩ := near_ref a b ha N hN s v hp
 rw [h] at r1 r2
 have hle := plusS_le a.neg N false 1
 rw [hp] at hle
 replace hle : v ≤ N + 1 := hle
 have HN := Lib.hid hN
 have HP := Lib.hid hp
 have R1 := Lib.hid r1
 have R2 := Lib.hid r2
 have HQ : Hid (askX a.neg (canon 4294967296 a.m) a.e b.neg (canon 4294967296 b.m) b.e 0 = 0) := Lib.hid (ask_oks ha hb_ hbn hb0 (k := 0) (by decide))
 have hd := Lib.hid (fun u => (canon_spec 2 u (by decide)))
 clear hN hp h hbn r1 r2
 generalize hw : ((w.alloc (.cells #[.bool a.neg, .slice A1 n1 c1, .int .i64 a.e] 24)).alloc (.cells #[.bool b.neg, .slice A2 n2 c2, .int .i64 b.e] 24)).alloc (.cells #[.bool false, .slice none 0 0, .int .i64 0] 24) = w1
 obtain ⟨D1, D2, D3, b1, l1, l2⟩ := boxes3R w _ _ _ hw
 replace D3 : w1.heap[w.heap.size + 1 + 1]? = some (.cells #[.bool false, .slice none 0 0, .int .i64 0] 24 (0, 0)) := D3
 have S1 : w.heap.size < w1.heap.size := by omega
 have S2 : w.heap.size + 1 < w1.heap.size := by omega
 have S3 : w.heap.size + 1 + 1 < w1.heap.size := by omega
 go_enter Tryz.func87, Tryz.ntmps87
 obtain ⟨⟨q46_0, q46_1, q46_2⟩, q46_3, q46_4, q46_5⟩ := boxD D1
 obtain ⟨⟨q47_0, q47_1, q47_2⟩, q47_3, q47_4, q47_5⟩ := boxD D2
 go_wp2_with fail
 refine (rAsk_any w1 a.neg b.neg A1 A2 n1 c1 n2 c2 _ _ a.e b.e (ints_on h1 b1) (ints_on h2 b1) 0 0 HQ.out).mono ?_
 rintro e' v48 ⟨rfl, j49⟩
 clear q46_0 q46_1 q46_2 q46_3 q46_4 q46_5 q47_0 q47_1 q47_2 q47_3 q47_4 q47_5
 try clear hw
 obtain ⟨⟨q50_0, q50_1, q50_2⟩, q50_3, q50_4, q50_5⟩ := boxD (box_later D1 j49 S1)
 obtain ⟨⟨q51_0, q51_1, q51_2⟩, q51_3, q51_4, q51_5⟩ := boxD (box_later D2 j49 S2)
 go_wp2_with fail
 refine (rPart_any v48 a b ha hb_ hb0 A1 A2 n1 c1 n2 c2 (ints_on h1 (later b1 j49)) (ints_on h2 (later b1 j49)) 1 (by decide) 1 rfl false N HN.out).mono ?_
 rintro e' v52 ⟨P4, m4, o4, rfl, hmo4, hm4, j53, J4⟩
 clear q50_0 q50_1 q50_2 q50_3 q50_4 q50_5 q51_0 q51_1 q51_2 q51_3 q51_4 q51_5
 try clear hw
 have j55 := (Below.refl v52.heap.size v52).alloc (Nat.le_refl _) (.cells #[.bool a.neg, .slice P4 m4 o4] 173)
 have B7 := heap_alloc_last v52 (.cells #[.bool a.neg, .slice P4 m4 o4] 173)
 have s56 : v52.heap.size < (v52.alloc (.cells #[.bool a.neg, .slice P4 m4 o4] 173)).heap.size := by simp
 generalize hw : v52.alloc (.cells #[.bool a.neg, .slice P4 m4 o4] 173) = v54 at *
 obtain ⟨⟨q57_0, q57_1⟩, q57_2, q57_3⟩ := boxS B7
 have XO1 : (v54.alloc (.cells #[.int .u8 1] 5)).heap[v54.heap.size]? = some (.cells #[.int .u8 1] 5 (0, 0)) := heap_alloc_last v54 _
 have j59 : Below v54.heap.size v54 (v54.alloc (.cells #[.int .u8 1] 5)) := (Below.refl _ _).alloc (Nat.le_refl _) _
 have O1 := one_ints XO1
 have SO1 : v54.heap.size + 1 ≤ (v54.alloc (.cells #[.int .u8 1] 5)).heap.size := by simp
 go_wp2_with fail
 try clear hw
 generalize hw : v54.alloc (.cells #[.int .u8 1] 5) = u58 at *
 clear hw
 clear q57_0 q57_1 q57_2 q57_3
 refine (rPlus_any u58 a.neg false N 1 P4 m4 o4 (some ⟨_, 0, none⟩) 1 1 (Ints.more (Ints.below J4 (later j55 j59) (Nat.le_refl _)) (Nat.zero_le _) (Below.size (later j55 j59))) (O1.more (Nat.zero_le _) SO1) (by omega) (by decide) s v HP.out).mono ?_
 rintro e' v60 ⟨P5, m5, o5, rfl, hmo5, j61, J5⟩
 try clear hw
 have hm5 : m5 ≤ m4 + 1 := by
  have h1 := J5.len
  have h2 := canon2_le hle
  have h3 := canon2_next J4
  omega
 clear hle
 have j63 := (Below.refl v60.heap.size v60).alloc (Nat.le_refl _) (.cells #[.bool s, .slice P5 m5 o5] 173)
 have B8 := heap_alloc_last v60 (.cells #[.bool s, .slice P5 m5 o5] 173)
 have s64 : v60.heap.size < (v60.alloc (.cells #[.bool s, .slice P5 m5 o5] 173)).heap.size := by simp
 generalize hw : v60.alloc (.cells #[.bool s, .slice P5 m5 o5] 173) = v62 at *
 obtain ⟨⟨q65_0, q65_1⟩, q65_2, q65_3⟩ := boxS B8
 go_wp2_with fail
 refine (Cut_any v62 _ _ P5 m5 o5 (canon 2 v) (Ints.below J5 j63 (Nat.le_refl _)) (hd.out v).1 hmo5).mono ?_
 rintro e' w' ⟨⟨m6, rfl, hm6, J6⟩, hww⟩
 subst hww
 try clear hw
 rw [(hd.out v).2.2] at J6
 clear q65_0 q65_1 q65_2 q65_3
 obtain ⟨r0, rp⟩ := canon2_len0 J6
 by_cases hv0 : v = 0
 · have hm60 := r0 hv0
   subst hm60
   have hr := R1.out hv0
   injection hr with hr1 hr2
   subst hr1 hr2
   clear r0 rp hv0
   obtain ⟨⟨z0, z1, z2⟩, z3, z4, z5⟩ := boxD (box_later D3 (later j49 (later j53 (later j55 (later j59 (later j61 j63))))) S3)
   obtain ⟨U, hU, hX, hbU, hfU, s1', s2'⟩ := zputR (box_later D3 (later j49 (later j53 (later j55 (later j59 (later j61 j63))))) S3) (.bool false) (.slice none 0 0) (.int .i64 0)
   go_wp2
   try rw [hU]
   clear hU z0 z1 z2 z3 z4 z5
   obtain ⟨⟨z0, z1, z2⟩, _⟩ := boxD hX
   exact bodyPost_ret (v := .tuple #[.agg #[.bool false, .slice none 0 0, .int .i64 0], .int .i64 0]) (by simp [results, Tryz.results87, go_sem, z0, z1, z2]) rfl ⟨none, 0, 0, rfl, Nat.le_refl _, hbU _ _ (later b1 (later j49 (later j53 (later j55 (later j59 (later j61 j63)))))) (show w.heap.size ≤ w.heap.size + 1 + 1 by omega), Ints.nil_ ..⟩
 · have hm60 := rp hv0
   have hmb : ((m6 : Int) == 0) = false := by
    have : (m6 : Int) ≠ 0 := by omega
    simpa using this
   have hr := Lib.hid (R2.out hv0)
   clear r0 rp
   go_wp2_with fail
   have J6' := J6
   refine (Over2_any w' _ _ P5 m6 o5 v J6 (Below.size j63) (by omega) (by omega) hv0).mono ?_
   rintro e' v67 ⟨P7, m7, o7, rfl, hmo7, hm7, j68, J7⟩
   try clear hw
   cases s
   · skip
     obtain ⟨⟨q69_0, q69_1⟩, q69_2, q69_3⟩ := boxS (box_later B8 j68 s64)
     go_wp2_with fail
     refine (rFormed_any v67 false P7 m7 o7 (canon 2 (v / 2)) (Ints.more J7 (Nat.zero_le _) (Nat.le_refl _)) (hd.out _).1 hmo7 (by omega) 0 (by decide) 0 rfl _ (hd.out _).2.2 r code (by have := hr.out; rw [if_neg (fun h => by cases h.1), Nat.add_zero] at this; exact this.symm)).mono ?_
     rintro e' v70 ⟨A9, n9, c9, rfl, hnc, j71, I9⟩
     clear q69_0 q69_1 q69_2 q69_3
     try clear hw
     have j73 := (Below.refl v70.heap.size v70).alloc (Nat.le_refl _) (.cells #[.bool r.neg, .slice A9 n9 c9, .int .i64 r.e] 24)
     have D9 := heap_alloc_last v70 (.cells #[.bool r.neg, .slice A9 n9 c9, .int .i64 r.e] 24)
     have s74 : v70.heap.size < (v70.alloc (.cells #[.bool r.neg, .slice A9 n9 c9, .int .i64 r.e] 24)).heap.size := by simp
     generalize hw : v70.alloc (.cells #[.bool r.neg, .slice A9 n9 c9, .int .i64 r.e] 24) = v72 at *
     obtain ⟨⟨q75_0, q75_1, q75_2⟩, q75_3, q75_4, q75_5⟩ := boxD D9
     have hlo : w1.heap.size ≤ v67.heap.size := Below.size (later j49 (later j53 (later j55 (later j59 (later j61 (later j63 j68))))))
     obtain ⟨⟨z0, z1, z2⟩, z3, z4, z5⟩ := boxD (box_later D3 (later j49 (later j53 (later j55 (later j59 (later j61 (later j63 (later j68 (later j71 j73)))))))) S3)
     obtain ⟨U, hU, hX, hbU, hfU, s1', s2'⟩ := zputR (box_later D3 (later j49 (later j53 (later j55 (later j59 (later j61 (later j63 (later j68 (later j71 j73)))))))) S3) (.bool r.neg) (.slice A9 n9 c9) (.int .i64 r.e)
     go_wp2
     try rw [hU]
     clear hU z0 z1 z2 z3 z4 z5
     obtain ⟨⟨z0, z1, z2⟩, _⟩ := boxD hX
     exact bodyPost_ret (v := .tuple #[.agg #[.bool r.neg, .slice A9 n9 c9, .int .i64 r.e], .int .i64 code]) (by simp [results, Tryz.results87, go_sem, z0, z1, z2]) rfl ⟨A9, n9, c9, rfl, hnc, hbU _ _ (later b1 (later j49 (later j53 (later j55 (later j59 (later j61 (later j63 (later j68 (later j71 j73))))))))) (show w.heap.size ≤ w.heap.size + 1 + 1 by omega), (intsR (I9.below j73 (Nat.le_refl _)) (fun b h1 h2 => hfU b (by omega))).more (by omega) (Nat.le_trans (Below.size j73) (by omega))⟩
   · obtain ⟨b, off, hA, hb1, hb2, hc⟩ := (Ints.below J6 j68 (Below.size j63)).row hm60
     subst hA
     obtain ⟨k1, k2⟩ := hc 0 hm60
     rw [canon2_head hv0, Nat.add_zero] at k1
     rw [Nat.add_zero] at k2
     have hm61 : 0 < (m6 : Int) := by omega
     obtain ⟨x, hx⟩ : ∃ x, v % 2 = x := ⟨_, rfl⟩
     rw [hx] at k1
     have HX := Lib.hid hx
     have hx2 : x < 2 := by rw [← hx]; exact Nat.mod_lt _ (by decide)
     clear hc hx
     by_cases hx1 : x = 1
     · subst hx1
       have hxe : v / 2 + 1 = v / 2 + 1 := rfl
       obtain ⟨⟨q77_0, q77_1⟩, q77_2, q77_3⟩ := boxS (box_later B8 j68 s64)
       have XO2 : (v67.alloc (.cells #[.int .u8 1] 5)).heap[v67.heap.size]? = some (.cells #[.int .u8 1] 5 (0, 0)) := heap_alloc_last v67 _
       have j79 : Below v67.heap.size v67 (v67.alloc (.cells #[.int .u8 1] 5)) := (Below.refl _ _).alloc (Nat.le_refl _) _
       have O2 := one_ints XO2
       have SO2 : v67.heap.size + 1 ≤ (v67.alloc (.cells #[.int .u8 1] 5)).heap.size := by simp
       go_wp2_with fail
       try clear hw
       generalize hw : v67.alloc (.cells #[.int .u8 1] 5) = u78 at *
       clear hw
       clear q77_0 q77_1 q77_2 q77_3
       clear k1 k2
       refine (Plus_any u78 _ _ _ _ P7 m7 o7 (canon 2 (v / 2)) (Ints.below J7 j79 (Nat.le_refl _)) (some ⟨_, 0, none⟩) 1 1 [1] O2 (hd.out _).1 (by intro x hx; rw [List.mem_singleton.1 hx]; decide) (Below.size j79) SO2 (by omega) (by omega) (v / 2 + 1) (by rw [(hd.out _).2.2]; rfl)).mono ?_
       rintro e' v80 ⟨P8, m8, o8, rfl, hmo8, j81, J8⟩
       try clear hw
       have hm8 : m8 ≤ m7 + 1 := by
        have h1 := J8.len
        have h2 := canon2_next J7
        omega
       obtain ⟨⟨q82_0, q82_1⟩, q82_2, q82_3⟩ := boxS (box_later B8 (later j68 (later j79 j81)) s64)
       go_wp2_with fail
       refine (rFormed_any v80 true P8 m8 o8 (canon 2 (v / 2 + 1)) (Ints.more J8 (Nat.zero_le _) (Nat.le_refl _)) (hd.out _).1 hmo8 (by omega) 0 (by decide) 0 rfl _ (hd.out _).2.2 r code (by have := hr.out; rw [if_pos ⟨by trivial, HX.out⟩] at this; exact this.symm)).mono ?_
       rintro e' v83 ⟨A9, n9, c9, rfl, hnc, j84, I9⟩
       clear q82_0 q82_1 q82_2 q82_3
       try clear hw
       have j86 := (Below.refl v83.heap.size v83).alloc (Nat.le_refl _) (.cells #[.bool r.neg, .slice A9 n9 c9, .int .i64 r.e] 24)
       have D9 := heap_alloc_last v83 (.cells #[.bool r.neg, .slice A9 n9 c9, .int .i64 r.e] 24)
       have s87 : v83.heap.size < (v83.alloc (.cells #[.bool r.neg, .slice A9 n9 c9, .int .i64 r.e] 24)).heap.size := by simp
       generalize hw : v83.alloc (.cells #[.bool r.neg, .slice A9 n9 c9, .int .i64 r.e] 24) = v85 at *
       obtain ⟨⟨q88_0, q88_1, q88_2⟩, q88_3, q88_4, q88_5⟩ := boxD D9
       have hlo : w1.heap.size ≤ v80.heap.size := Below.size (later j49 (later j53 (later j55 (later j59 (later j61 (later j63 (later j68 (later j79 j81))))))))
       obtain ⟨⟨z0, z1, z2⟩, z3, z4, z5⟩ := boxD (box_later D3 (later j49 (later j53 (later j55 (later j59 (later j61 (later j63 (later j68 (later j79 (later j81 (later j84 j86)))))))))) S3)
       obtain ⟨U, hU, hX, hbU, hfU, s1', s2'⟩ := zputR (box_later D3 (later j49 (later j53 (later j55 (later j59 (later j61 (later j63 (later j68 (later j79 (later j81 (later j84 j86)))))))))) S3) (.bool r.neg) (.slice A9 n9 c9) (.int .i64 r.e)
       go_wp2
       try rw [hU]
       clear hU z0 z1 z2 z3 z4 z5
       obtain ⟨⟨z0, z1, z2⟩, _⟩ := boxD hX
       exact bodyPost_ret (v := .tuple #[.agg #[.bool r.neg, .slice A9 n9 c9, .int .i64 r.e], .int .i64 code]) (by simp [results, Tryz.results87, go_sem, z0, z1, z2]) rfl ⟨A9, n9, c9, rfl, hnc, hbU _ _ (later b1 (later j49 (later j53 (later j55 (later j59 (later j61 (later j63 (later j68 (later j79 (later j81 (later j84 j86))))))))))) (show w.heap.size ≤ w.heap.size + 1 + 1 by omega), (intsR (I9.below j86 (Nat.le_refl _)) (fun b h1 h2 => hfU b (by omega))).more (by omega) (Nat.le_trans (Below.size j86) (by omega))⟩
     · have hxb : ((x : Int) == 1) = false := by
         have : (x : Int) ≠ 1 := by omega
         simpa using this
       have HX1 := Lib.hid (fun h : v % 2 = 1 => hx1 (HX.out.symm.trans h))
       obtain ⟨⟨q90_0, q90_1⟩, q90_2, q90_3⟩ := boxS (box_later B8 j68 s64)
       go_wp2_with fail
       refine (rFormed_any v67 true P7 m7 o7 (canon 2 (v / 2)) (Ints.more J7 (Nat.zero_le _) (Nat.le_refl _)) (hd.out _).1 hmo7 (by omega) 0 (by decide) 0 rfl _ (hd.out _).2.2 r code (by have := hr.out; rw [if_neg (fun h => HX1.out h.2), Nat.add_zero] at this; exact this.symm)).mono ?_
       rintro e' v91 ⟨A9, n9, c9, rfl, hnc, j92, I9⟩
       clear q90_0 q90_1 q90_2 q90_3
       try clear hw
       have j94 := (Below.refl v91.heap.size v91).alloc (Nat.le_refl _) (.cells #[.bool r.neg, .slice A9 n9 c9, .int .i64 r.e] 24)
       have D9 := heap_alloc_last v91 (.cells #[.bool r.neg, .slice A9 n9 c9, .int .i64 r.e] 24)
       have s95 : v91.heap.size < (v91.alloc (.cells #[.bool r.neg, .slice A9 n9 c9, .int .i64 r.e] 24)).heap.size := by simp
       generalize hw : v91.alloc (.cells #[.bool r.neg, .slice A9 n9 c9, .int .i64 r.e] 24) = v93 at *
       obtain ⟨⟨q96_0, q96_1, q96_2⟩, q96_3, q96_4, q96_5⟩ := boxD D9
       have hlo : w1.heap.size ≤ v67.heap.size := Below.size (later j49 (later j53 (later j55 (later j59 (later j61 (later j63 j68))))))
       obtain ⟨⟨z0, z1, z2⟩, z3, z4, z5⟩ := boxD (box_later D3 (later j49 (later j53 (later j55 (later j59 (later j61 (later j63 (later j68 (later j92 j94)))))))) S3)
       obtain ⟨U, hU, hX, hbU, hfU, s1', s2'⟩ := zputR (box_later D3 (later j49 (later j53 (later j55 (later j59 (later j61 (later j63 (later j68 (later j92 j94)))))))) S3) (.bool r.neg) (.slice A9 n9 c9) (.int .i64 r.e)
       go_wp2
       try rw [hU]
       clear hU z0 z1 z2 z3 z4 z5
       obtain ⟨⟨z0, z1, z2⟩, _⟩ := boxD hX
       exact bodyPost_ret (v := .tuple #[.agg #[.bool r.neg, .slice A9 n9 c9, .int .i64 r.e], .int .i64 code]) (by simp [results, Tryz.results87, go_sem, z0, z1, z2]) rfl ⟨A9, n9, c9, rfl, hnc, hbU _ _ (later b1 (later j49 (later j53 (later j55 (later j59 (later j61 (later j63 (later j68 (later j92 j94))))))))) (show w.heap.size ≤ w.heap.size + 1 + 1 by omega), (intsR (I9.below j94 (Nat.le_refl _)) (fun b h1 h2 => hfU b (by omega))).more (by omega) (Nat.le_trans (Below.size j94) (by omega))⟩
/-- headcountref03.Near. -/
theorem rNear_all (w : World) (s1 s2 : Bool) (A1 A2 : Option Addr) (n1 c1 n2 c2 : Nat) (xs1 xs2 : List Int) (e1 e2 : Int) (h1 : Ints w 0 w.heap.size .u32 A1 n1 xs1) (h2 : Ints w 0 w.heap.size .u32 A2 n2 xs2) (r : Dn) (code : Int) (h : nearX s1 xs1 e1 s2 xs2 e2 = (r, code)) :
  Calls Tryz.prog 87 #[.agg #[.bool s1, .slice A1 n1 c1, .int .i64 e1], .agg #[.bool s2, .slice A2 n2 c2, .int .i64 e2]] w (Formed w r code) := by
 unfold nearX at h
 split at h
 · rename_i hm
   obtain ⟨m1, m2, hs, hx, k0, k1⟩ := ask_zero hm
   obtain ⟨y1, c1', t1⟩ := dn_ok (dig_ints h1) m1
   obtain ⟨y2, c2', t2⟩ := dn_ok (dig_ints h2) m2
   have hb0 : (dn s2 xs2 e2).m ≠ 0 := fun e => hx (by rw [← c2', e]; rfl)
   have := rNear_dn w (dn s1 xs1 e1) (dn s2 xs2 e2) y1 y2 hs hb0 A1 A2 n1 c1 n2 c2 (by rw [c1']; exact h1) (by rw [c2']; exact h2) r code h
   rw [t1, t2] at this
   exact this
 · rename_i hm
   injection h with h3 h4
   subst h3 h4
   exact rNear_bad w s1 s2 A1 A2 n1 c1 n2 c2 xs1 xs2 e1 e2 h1 h2 _ rfl ((ask_two ..).resolve_left hm)
end Dy
end Go.Proofs.YtmbppgjhdcmckaaGreatDoor