/- push.Mean: a walk (printed by a program of mine). -/
import Derived.Test.YtbbnbgllgomolaaDoorBs16
namespace Go.Proofs.YtbbnbgllgomolaaDoor
open Go.RowKit
namespace Ma
open Dp Dy
set_option maxHeartbeats 51200000 in
set_option maxRecDepth 100000 in
theorem Mean_num (w : World) (m : Mv) (k : Int) (hR : MRows w 0 w.heap.size m) (x y : Dn) (code : Int) (hg : meanM m k = ((x, y), code)) :
  Calls Tryd.prog 29 #[.agg #[.bool m.S.s, .slice m.S.A m.S.n m.S.c, .int .i64 m.S.e, .bool m.W.s, .slice m.W.A m.W.n m.W.c, .int .i64 m.W.e, .bool m.C.s, .slice m.C.A m.C.n m.C.c, .int .i64 m.C.e, .bool m.A.s, .slice m.A.A m.A.n m.A.c, .int .i64 m.A.e], .int .i64 k] w fun e w' => ∃ X Y : Dv, e = .returned (.tuple #[.agg #[.bool X.s, .slice X.A X.n X.c, .int .i64 X.e], .agg #[.bool Y.s, .slice Y.A Y.n Y.c, .int .i64 Y.e], .int .i64 code]) ∧ Below w.heap.size w w' ∧ Is x X ∧ Is y Y ∧ ∃ B, w.heap.size ≤ B ∧ B ≤ w'.heap.size ∧ Ints w' w.heap.size B .u32 X.A X.n X.xs ∧ Ints w' B w'.heap.size .u32 Y.A Y.n Y.xs := by
 generalize hw1 : (((w.alloc (.cells #[.bool m.S.s, .slice m.S.A m.S.n m.S.c, .int .i64 m.S.e, .bool m.W.s, .slice m.W.A m.W.n m.W.c, .int .i64 m.W.e, .bool m.C.s, .slice m.C.A m.C.n m.C.c, .int .i64 m.C.e, .bool m.A.s, .slice m.A.A m.A.n m.A.c, .int .i64 m.A.e] 26)).alloc (.cells #[.bool false, .slice none 0 0, .int .i64 0] 24)).alloc (.cells #[.bool false, .slice none 0 0, .int .i64 0] 24)).alloc (.cells #[.bool m.S.s, .slice m.S.A m.S.n m.S.c, .int .i64 m.S.e, .bool m.W.s, .slice m.W.A m.W.n m.W.c, .int .i64 m.W.e, .bool m.C.s, .slice m.C.A m.C.n m.C.c, .int .i64 m.C.e, .bool m.A.s, .slice m.A.A m.A.n m.A.c, .int .i64 m.A.e] 26) = w1
 obtain ⟨⟨hM, h4, h5, hA⟩, hBL, lo1, hi1⟩ := boxes4 w _ _ _ _ hw1
 replace hM : MBox w1 w.heap.size m := hM
 replace h4 : w1.heap[w.heap.size + 1]? = some (.cells #[.bool false, .slice none 0 0, .int .i64 0] 24 (0, 0)) := h4
 replace h5 : w1.heap[w.heap.size + 1 + 1]? = some (.cells #[.bool false, .slice none 0 0, .int .i64 0] 24 (0, 0)) := h5
 replace hA : MBox w1 (w.heap.size + 1 + 1 + 1) m := hA
 replace hBL : Below w.heap.size w w1 := hBL
 have Rm : MRows w1 0 w1.heap.size m := hR.on hBL
 have hLM := lm_one hA Rm
 clear hA
 have HR := Lib.hid hg
 clear hg
 obtain ⟨b, hb⟩ : ∃ b, badS [m] = b := ⟨_, rfl⟩
 have HB := Lib.hid hb
 clear hb
 have M1 : w.heap.size < w1.heap.size := by omega
 have S4 : w.heap.size + 1 < w1.heap.size := by omega
 have S5 : w.heap.size + 1 + 1 < w1.heap.size := by omega
 have M0 : MBox (((w.alloc (.cells #[.bool m.S.s, .slice m.S.A m.S.n m.S.c, .int .i64 m.S.e, .bool m.W.s, .slice m.W.A m.W.n m.W.c, .int .i64 m.W.e, .bool m.C.s, .slice m.C.A m.C.n m.C.c, .int .i64 m.C.e, .bool m.A.s, .slice m.A.A m.A.n m.A.c, .int .i64 m.A.e] 26)).alloc (.cells #[.bool false, .slice none 0 0, .int .i64 0] 24)).alloc (.cells #[.bool false, .slice none 0 0, .int .i64 0] 24)) w.heap.size m := (Below.heap_alloc _ _ _ (by simp <;> omega)).trans ((Below.heap_alloc _ _ _ (by simp)).trans (heap_alloc_last _ _))
 obtain ⟨⟨y0, y1, y2, y3, y4, y5, y6, y7, y8, y9, y10, y11⟩, yf⟩ := MBox.cells M0
 go_enter Tryd.func29, Tryd.ntmps29
 go_wp2_with fail
 clear y0 y1 y2 y3 y4 y5 y6 y7 y8 y9 y10 y11 yf M0
 try clear hw1
 refine (faulty_any w1 (some ⟨w.heap.size + 1 + 1 + 1, 0, none⟩) 1 1 [m] hLM (by decide) b HB.out).mono ?_
 rintro e' v1 ⟨rfl, j2⟩
 try clear hw
 clear hLM
 cases b
 rotate_left
 · skip
   have hcode : ((Dn.zero, Dn.zero), (8 : Int)) = ((x, y), code) := by
    rw [← HR.out]
    unfold meanM
    rw [if_pos HB.out]
   injection hcode with h1 h2
   injection h1 with h1 h3
   subst h1 h2 h3
   clear HR
   obtain ⟨⟨q3_0, q3_1, q3_2⟩, q3_3, q3_4, q3_5⟩ := boxD (box_later h4 j2 S4)
   obtain ⟨⟨q4_0, q4_1, q4_2⟩, q4_3, q4_4, q4_5⟩ := boxD (box_later h5 j2 S5)
   go_wp2
   obtain ⟨U1, hU1, hX1, hb1, hf1, _, _⟩ := zputR (box_later h4 j2 S4) (.bool false) (.slice none 0 0) (.int .i64 0)
   rw [hU1]
   obtain ⟨U2, hU2, hX2, hb2, hf2, _, _⟩ := zputR (show U1.heap[w.heap.size + 1 + 1]? = _ from (hf1 _ (by omega)).trans (box_later h5 j2 S5)) (.bool false) (.slice none 0 0) (.int .i64 0)
   rw [hU2]
   clear q3_0 q3_1 q3_2 q3_3 q3_4 q3_5 q4_0 q4_1 q4_2 q4_3 q4_4 q4_5
   have hX3 := (hf2 (w.heap.size + 1) (by omega)).trans hX1
   have hQ := hb2 _ _ (hb1 _ _ (later hBL j2) (by omega)) (by omega)
   clear hU1 hU2 hb1 hb2 hf1 hf2
   obtain ⟨⟨p0, p1, p2⟩, p3, p4, p5⟩ := boxD hX3
   obtain ⟨⟨q0, q1, q2⟩, q3, q4, q5⟩ := boxD hX2
   exact bodyPost_ret (v := .tuple #[.agg #[.bool false, .slice none 0 0, .int .i64 0], .agg #[.bool false, .slice none 0 0, .int .i64 0], .int .i64 8]) (by simp [results, Tryd.results29, go_sem, p0, p1, p2, q0, q1, q2]) rfl ⟨ZM.C, ZM.C, rfl, hQ, Is.zero, Is.zero, w.heap.size, Nat.le_refl _, hQ.size, Ints.nil_ .., Ints.nil_ ..⟩
 · skip
   by_cases hk : k < 0 ∨ 64 < k
   · skip
     have hcode : ((Dn.zero, Dn.zero), (2 : Int)) = ((x, y), code) := by
      rw [← HR.out]
      unfold meanM
      rw [if_neg (by rw [HB.out]; simp), if_pos hk]
     injection hcode with h1 h2
     injection h1 with h1 h3
     subst h1 h2 h3
     clear HR
     rcases hk with hk | hk
     · skip
       obtain ⟨⟨q5_0, q5_1, q5_2⟩, q5_3, q5_4, q5_5⟩ := boxD (box_later h4 j2 S4)
       obtain ⟨⟨q6_0, q6_1, q6_2⟩, q6_3, q6_4, q6_5⟩ := boxD (box_later h5 j2 S5)
       go_wp2
       obtain ⟨U1, hU1, hX1, hb1, hf1, _, _⟩ := zputR (box_later h4 j2 S4) (.bool false) (.slice none 0 0) (.int .i64 0)
       rw [hU1]
       obtain ⟨U2, hU2, hX2, hb2, hf2, _, _⟩ := zputR (show U1.heap[w.heap.size + 1 + 1]? = _ from (hf1 _ (by omega)).trans (box_later h5 j2 S5)) (.bool false) (.slice none 0 0) (.int .i64 0)
       rw [hU2]
       clear q5_0 q5_1 q5_2 q5_3 q5_4 q5_5 q6_0 q6_1 q6_2 q6_3 q6_4 q6_5
       have hX3 := (hf2 (w.heap.size + 1) (by omega)).trans hX1
       have hQ := hb2 _ _ (hb1 _ _ (later hBL j2) (by omega)) (by omega)
       clear hU1 hU2 hb1 hb2 hf1 hf2
       obtain ⟨⟨p0, p1, p2⟩, p3, p4, p5⟩ := boxD hX3
       obtain ⟨⟨q0, q1, q2⟩, q3, q4, q5⟩ := boxD hX2
       exact bodyPost_ret (v := .tuple #[.agg #[.bool false, .slice none 0 0, .int .i64 0], .agg #[.bool false, .slice none 0 0, .int .i64 0], .int .i64 2]) (by simp [results, Tryd.results29, go_sem, p0, p1, p2, q0, q1, q2]) rfl ⟨ZM.C, ZM.C, rfl, hQ, Is.zero, Is.zero, w.heap.size, Nat.le_refl _, hQ.size, Ints.nil_ .., Ints.nil_ ..⟩
     · skip
       have hk2 : ¬ k < 0 := by omega
       obtain ⟨⟨q7_0, q7_1, q7_2⟩, q7_3, q7_4, q7_5⟩ := boxD (box_later h4 j2 S4)
       obtain ⟨⟨q8_0, q8_1, q8_2⟩, q8_3, q8_4, q8_5⟩ := boxD (box_later h5 j2 S5)
       go_wp2
       obtain ⟨U1, hU1, hX1, hb1, hf1, _, _⟩ := zputR (box_later h4 j2 S4) (.bool false) (.slice none 0 0) (.int .i64 0)
       rw [hU1]
       obtain ⟨U2, hU2, hX2, hb2, hf2, _, _⟩ := zputR (show U1.heap[w.heap.size + 1 + 1]? = _ from (hf1 _ (by omega)).trans (box_later h5 j2 S5)) (.bool false) (.slice none 0 0) (.int .i64 0)
       rw [hU2]
       clear q7_0 q7_1 q7_2 q7_3 q7_4 q7_5 q8_0 q8_1 q8_2 q8_3 q8_4 q8_5
       have hX3 := (hf2 (w.heap.size + 1) (by omega)).trans hX1
       have hQ := hb2 _ _ (hb1 _ _ (later hBL j2) (by omega)) (by omega)
       clear hU1 hU2 hb1 hb2 hf1 hf2
       obtain ⟨⟨p0, p1, p2⟩, p3, p4, p5⟩ := boxD hX3
       obtain ⟨⟨q0, q1, q2⟩, q3, q4, q5⟩ := boxD hX2
       exact bodyPost_ret (v := .tuple #[.agg #[.bool false, .slice none 0 0, .int .i64 0], .agg #[.bool false, .slice none 0 0, .int .i64 0], .int .i64 2]) (by simp [results, Tryd.results29, go_sem, p0, p1, p2, q0, q1, q2]) rfl ⟨ZM.C, ZM.C, rfl, hQ, Is.zero, Is.zero, w.heap.size, Nat.le_refl _, hQ.size, Ints.nil_ .., Ints.nil_ ..⟩
   · skip
     have hk1 : ¬ k < 0 := fun h => hk (.inl h)
     have hk2 : ¬ 64 < k := fun h => hk (.inr h)
     by_cases hn : m.W.n = 0
     · skip
       have hcode : ((Dn.zero, Dn.zero), (6 : Int)) = ((x, y), code) := by
        rw [← HR.out]
        unfold meanM
        rw [if_neg (by rw [HB.out]; simp), if_neg hk, if_pos hn]
       injection hcode with h1 h2
       injection h1 with h1 h3
       subst h1 h2 h3
       clear HR
       have HN := Lib.hid hn
       clear hn hk
       obtain ⟨⟨q9_0, q9_1, q9_2, q9_3, q9_4, q9_5, q9_6, q9_7, q9_8, q9_9, q9_10, q9_11⟩, q9f⟩ := MBox.cells (box_later hM j2 M1)
       go_wp2_with fail
       refine (none_any v1 m.W.s m.W.A m.W.n m.W.c m.W.e true (decide_eq_true HN.out)).mono ?_
       rintro e' v10 ⟨rfl, j11⟩
       clear q9_0 q9_1 q9_2 q9_3 q9_4 q9_5 q9_6 q9_7 q9_8 q9_9 q9_10 q9_11 q9f
       try clear hw
       obtain ⟨⟨q12_0, q12_1, q12_2⟩, q12_3, q12_4, q12_5⟩ := boxD (box_later h4 (later j2 j11) S4)
       obtain ⟨⟨q13_0, q13_1, q13_2⟩, q13_3, q13_4, q13_5⟩ := boxD (box_later h5 (later j2 j11) S5)
       go_wp2
       obtain ⟨U1, hU1, hX1, hb1, hf1, _, _⟩ := zputR (box_later h4 (later j2 j11) S4) (.bool false) (.slice none 0 0) (.int .i64 0)
       rw [hU1]
       obtain ⟨U2, hU2, hX2, hb2, hf2, _, _⟩ := zputR (show U1.heap[w.heap.size + 1 + 1]? = _ from (hf1 _ (by omega)).trans (box_later h5 (later j2 j11) S5)) (.bool false) (.slice none 0 0) (.int .i64 0)
       rw [hU2]
       clear q12_0 q12_1 q12_2 q12_3 q12_4 q12_5 q13_0 q13_1 q13_2 q13_3 q13_4 q13_5
       have hX3 := (hf2 (w.heap.size + 1) (by omega)).trans hX1
       have hQ := hb2 _ _ (hb1 _ _ (later hBL (later j2 j11)) (by omega)) (by omega)
       clear hU1 hU2 hb1 hb2 hf1 hf2
       obtain ⟨⟨p0, p1, p2⟩, p3, p4, p5⟩ := boxD hX3
       obtain ⟨⟨q0, q1, q2⟩, q3, q4, q5⟩ := boxD hX2
       exact bodyPost_ret (v := .tuple #[.agg #[.bool false, .slice none 0 0, .int .i64 0], .agg #[.bool false, .slice none 0 0, .int .i64 0], .int .i64 6]) (by simp [results, Tryd.results29, go_sem, p0, p1, p2, q0, q1, q2]) rfl ⟨ZM.C, ZM.C, rfl, hQ, Is.zero, Is.zero, w.heap.size, Nat.le_refl _, hQ.size, Ints.nil_ .., Ints.nil_ ..⟩
     · skip
       obtain ⟨r1, q1, hr1⟩ : ∃ r q, downM m k = (r, q) := ⟨_, _, rfl⟩
       obtain ⟨r2, q2, hr2⟩ : ∃ r q, upM m k = (r, q) := ⟨_, _, rfl⟩
       have h0 := HR.out
       unfold meanM at h0
       rw [if_neg (by rw [HB.out]; simp), if_neg hk, if_neg hn, hr1, hr2] at h0
       have HD := Lib.hid h0
       have HN := Lib.hid hn
       have H1 := Lib.hid hr1
       have H2 := Lib.hid hr2
       clear h0 hn hk hr1 hr2 HR
       obtain ⟨⟨q14_0, q14_1, q14_2, q14_3, q14_4, q14_5, q14_6, q14_7, q14_8, q14_9, q14_10, q14_11⟩, q14f⟩ := MBox.cells (box_later hM j2 M1)
       go_wp2_with fail
       refine (none_any v1 m.W.s m.W.A m.W.n m.W.c m.W.e false (decide_eq_false HN.out)).mono ?_
       rintro e' v15 ⟨rfl, j16⟩
       clear q14_0 q14_1 q14_2 q14_3 q14_4 q14_5 q14_6 q14_7 q14_8 q14_9 q14_10 q14_11 q14f
       try clear hw
       go_wp2_with fail
       refine region_E (fun v => MBox v w.heap.size m) [] (m := 24) (L := #[zF,zF,zF,zF,zF,zF,zF,zF,zF,zF,zF,zF,zF,zF,zF,zF,zF,zF,zF,zF,zF,zF,zF,zF]) (by kernel_rfl) (by rfl) (by rfl) ?_
       have j18 : Below v15.heap.size v15 v15.drew := (Below.refl _ _).drew
       generalize v15.drew = v17 at *
       have hS : MBox v17 w.heap.size m := (box_later hM (later j2 (later j16 j18)) M1)
       refine zE 0 #[zT,zF,zF,zF,zF,zF,zF,zF,zF,zF,zF,zF,zF,zF,zF,zF,zF,zF,zF,zF,zF,zF,zF,zF] ?_ rfl ?hy1 ?rest1
       case hy1 => intro w; go_simp; (try with_reducible rfl)
       try simp only [Act.put, zp]
       refine zE 2 #[zT,zF,zT,zF,zF,zF,zF,zF,zF,zF,zF,zF,zF,zF,zF,zF,zF,zF,zF,zF,zF,zF,zF,zF] ?_ rfl ?hy2 ?rest2
       case hy2 => intro w; go_simp; (try with_reducible rfl)
       try simp only [Act.put, zp]
       refine zE 4 #[zT,zF,zT,zF,zT,zF,zF,zF,zF,zF,zF,zF,zF,zF,zF,zF,zF,zF,zF,zF,zF,zF,zF,zF] ?_ rfl ?hy3 ?rest3
       case hy3 => intro w; go_simp; (try with_reducible rfl)
       try simp only [Act.put, zp]
       refine zE 9 #[zT,zF,zT,zF,zT,zF,zF,zF,zF,zT,zF,zF,zF,zF,zF,zF,zF,zF,zF,zF,zF,zF,zF,zF] ?_ rfl ?hy4 ?rest4
       case hy4 => intro w; go_simp; (try with_reducible rfl)
       try simp only [Act.put, zp]
       refine zE 11 #[zT,zF,zT,zF,zT,zF,zF,zF,zF,zT,zF,zT,zF,zF,zF,zF,zF,zF,zF,zF,zF,zF,zF,zF] ?_ rfl ?hy5 ?rest5
       case hy5 => intro w; go_simp; (try with_reducible rfl)
       try simp only [Act.put, zp]
       refine zE 13 #[zT,zF,zT,zF,zT,zF,zF,zF,zF,zT,zF,zT,zF,zT,zF,zF,zF,zF,zF,zF,zF,zF,zF,zF] ?_ rfl ?hy6 ?rest6
       case hy6 => intro w; go_simp; (try with_reducible rfl)
       try simp only [Act.put, zp]
       refine readE (i := 1) (L := #[zT,zT,zT,zF,zT,zF,zF,zF,zF,zT,zF,zT,zF,zT,zF,zF,zF,zF,zF,zF,zF,zF,zF,zF]) (v := .agg #[.bool m.S.s, .slice m.S.A m.S.n m.S.c, .int .i64 m.S.e]) rfl (by rfl) (by kernel_rfl) (by kernel_rfl) (by kernel_rfl) (fun _ _ _ h => h) (by assumption) (by rfl) ?yx1_ ?zx1_
       case yx1_ =>
        intro w' h1
        obtain ⟨⟨k0, k1, k2, k3, k4, k5, k6, k7, k8, k9, k10, k11⟩, kf⟩ := MBox.cells h1
        go_simp
       try simp only [Act.put, zp]
       refine readE (i := 3) (L := #[zT,zT,zT,zT,zT,zF,zF,zF,zF,zT,zF,zT,zF,zT,zF,zF,zF,zF,zF,zF,zF,zF,zF,zF]) (v := .agg #[.bool m.W.s, .slice m.W.A m.W.n m.W.c, .int .i64 m.W.e]) rfl (by rfl) (by kernel_rfl) (by kernel_rfl) (by kernel_rfl) (fun _ _ _ h => h) (by assumption) (by rfl) ?yx3_ ?zx3_
       case yx3_ =>
        intro w' h1
        obtain ⟨⟨k0, k1, k2, k3, k4, k5, k6, k7, k8, k9, k10, k11⟩, kf⟩ := MBox.cells h1
        go_simp
       try simp only [Act.put, zp]
       refine readE (i := 10) (L := #[zT,zT,zT,zT,zT,zF,zF,zF,zF,zT,zT,zT,zF,zT,zF,zF,zF,zF,zF,zF,zF,zF,zF,zF]) (v := .agg #[.bool m.S.s, .slice m.S.A m.S.n m.S.c, .int .i64 m.S.e]) rfl (by rfl) (by kernel_rfl) (by kernel_rfl) (by kernel_rfl) (fun _ _ _ h => h) (by assumption) (by rfl) ?yx10_ ?zx10_
       case yx10_ =>
        intro w' h1
        obtain ⟨⟨k0, k1, k2, k3, k4, k5, k6, k7, k8, k9, k10, k11⟩, kf⟩ := MBox.cells h1
        go_simp
       try simp only [Act.put, zp]
       refine readE (i := 12) (L := #[zT,zT,zT,zT,zT,zF,zF,zF,zF,zT,zT,zT,zT,zT,zF,zF,zF,zF,zF,zF,zF,zF,zF,zF]) (v := .agg #[.bool m.W.s, .slice m.W.A m.W.n m.W.c, .int .i64 m.W.e]) rfl (by rfl) (by kernel_rfl) (by kernel_rfl) (by kernel_rfl) (fun _ _ _ h => h) (by assumption) (by rfl) ?yx12_ ?zx12_
       case yx12_ =>
        intro w' h1
        obtain ⟨⟨k0, k1, k2, k3, k4, k5, k6, k7, k8, k9, k10, k11⟩, kf⟩ := MBox.cells h1
        go_simp
       try simp only [Act.put, zp]
       refine stepK (i := 5) (L := #[zT,zT,zT,zT,zT,zT,zF,zF,zF,zT,zT,zT,zT,zT,zF,zF,zF,zF,zF,zF,zF,zF,zF,zF]) rfl (by rfl) (by kernel_rfl) (by rfl) (fun K hK => ?_)
       go_simp
       go_at_call 22
       refine (Floor_all v17 m.S.s m.W.s m.S.A m.W.A m.S.n m.S.c m.W.n m.W.c m.S.xs m.W.xs m.S.e m.W.e (MRows.on Rm (later j2 (later j16 j18))).S (MRows.on Rm (later j2 (later j16 j18))).W k r1 q1 H1.out).mono ?_
       rintro e' v19 ⟨G1, m1, o1, rfl, _, j20, I1⟩
       clear hS
       have hS : MBox v19 w.heap.size m := (box_later hM (later j2 (later j16 (later j18 j20))) M1)
       refine hK _ _ ⟨fun _ _ => hS, ?_⟩
       clear hK K
       try simp only [Act.put, zp]
       refine zE 6 #[zT,zT,zT,zT,zT,zT,zT,zF,zF,zT,zT,zT,zT,zT,zF,zF,zF,zF,zF,zF,zF,zF,zF,zF] ?_ rfl ?hy12 ?rest12
       case hy12 => intro w; go_simp; (try with_reducible rfl)
       try simp only [Act.put, zp]
       refine zE 7 #[zT,zT,zT,zT,zT,zT,zT,zT,zF,zT,zT,zT,zT,zT,zF,zF,zF,zF,zF,zF,zF,zF,zF,zF] ?_ rfl ?hy13 ?rest13
       case hy13 => intro w; go_simp; (try with_reducible rfl)
       try simp only [Act.put, zp]
       refine stepK (i := 8) (L := #[zT,zT,zT,zT,zT,zT,zT,zT,zT,zT,zT,zT,zT,zT,zF,zF,zF,zF,zF,zF,zF,zF,zF,zF]) rfl (by rfl) (by kernel_rfl) (by rfl) (fun K hK => ?_)
       go_simp
       go_at_call 41
       refine (both_any v19 r1.neg G1 m1 o1 r1.e q1).mono ?_
       rintro e' v21 ⟨rfl, j22, D_, E_, lD_⟩
       clear hS
       have hS : MBox v21 w.heap.size m := (box_later hM (later j2 (later j16 (later j18 (later j20 j22)))) M1)
       refine hK _ _ ⟨fun _ _ => hS, ?_⟩
       clear hK K
       try simp only [Act.put, zp]
       have sD : v19.heap.size < v21.heap.size := by omega
       have sE : v19.heap.size + 1 < v21.heap.size := by omega
       refine stepK (i := 14) (L := #[zT,zT,zT,zT,zT,zT,zT,zT,zT,zT,zT,zT,zT,zT,zT,zF,zF,zF,zF,zF,zF,zF,zF,zF]) rfl (by rfl) (by kernel_rfl) (by rfl) (fun K hK => ?_)
       go_simp
       go_at_call 24
       refine (Ceil_all v21 m.S.s m.W.s m.S.A m.W.A m.S.n m.S.c m.W.n m.W.c m.S.xs m.W.xs m.S.e m.W.e (MRows.on Rm (later j2 (later j16 (later j18 (later j20 j22))))).S (MRows.on Rm (later j2 (later j16 (later j18 (later j20 j22))))).W k r2 q2 H2.out).mono ?_
       rintro e' v23 ⟨G2, m2, o2, rfl, _, j24, I2⟩
       clear hS
       have hS : MBox v23 w.heap.size m := (box_later hM (later j2 (later j16 (later j18 (later j20 (later j22 j24))))) M1)
       refine hK _ _ ⟨fun _ _ => hS, ?_⟩
       clear hK K
       try simp only [Act.put, zp]
       refine zE 15 #[zT,zT,zT,zT,zT,zT,zT,zT,zT,zT,zT,zT,zT,zT,zT,zT,zF,zF,zF,zF,zF,zF,zF,zF] ?_ rfl ?hy16 ?rest16
       case hy16 => intro w; go_simp; (try with_reducible rfl)
       try simp only [Act.put, zp]
       refine zE 16 #[zT,zT,zT,zT,zT,zT,zT,zT,zT,zT,zT,zT,zT,zT,zT,zT,zT,zF,zF,zF,zF,zF,zF,zF] ?_ rfl ?hy17 ?rest17
       case hy17 => intro w; go_simp; (try with_reducible rfl)
       try simp only [Act.put, zp]
       obtain ⟨X, Y, c, hX⟩ := bothR ⟨r1.neg, G1, m1, o1, r1.e, canon 4294967296 r1.m⟩ ⟨r2.neg, G2, m2, o2, r2.e, canon 4294967296 r2.m⟩ q1 q2
       refine stepK (i := 17) (L := #[zT,zT,zT,zT,zT,zT,zT,zT,zT,zT,zT,zT,zT,zT,zT,zT,zT,zT,zF,zF,zF,zF,zF,zF]) rfl (by rfl) (by kernel_rfl) (by rfl) (fun K hK => ?_)
       go_simp
       go_at_call 63
       refine (both1_any v23 ⟨r1.neg, G1, m1, o1, r1.e, canon 4294967296 r1.m⟩ ⟨r2.neg, G2, m2, o2, r2.e, canon 4294967296 r2.m⟩ q1 q2 (v19.heap.size + 1) v19.heap.size (Nat.lt_of_lt_of_le sE (Below.size j24)) (Nat.lt_of_lt_of_le sD (Below.size j24)) (box_later E_ j24 sE) (box_later D_ j24 sD) X Y c hX).mono ?_
       rintro e' v25 ⟨rfl, j26⟩
       have HX := Lib.hid hX
       clear hX
       clear hS
       have hS : MBox v25 w.heap.size m := (box_later hM (later j2 (later j16 (later j18 (later j20 (later j22 (later j24 j26)))))) M1)
       refine hK _ _ ⟨fun _ _ => hS, ?_⟩
       clear hK K
       try simp only [Act.put, zp]
       refine zE 18 #[zT,zT,zT,zT,zT,zT,zT,zT,zT,zT,zT,zT,zT,zT,zT,zT,zT,zT,zT,zF,zF,zF,zF,zF] ?_ rfl ?hy19 ?rest19
       case hy19 => intro w; go_simp; (try with_reducible rfl)
       try simp only [Act.put, zp]
       refine zE 19 #[zT,zT,zT,zT,zT,zT,zT,zT,zT,zT,zT,zT,zT,zT,zT,zT,zT,zT,zT,zT,zF,zF,zF,zF] ?_ rfl ?hy20 ?rest20
       case hy20 => intro w; go_simp; (try with_reducible rfl)
       try simp only [Act.put, zp]
       refine zE 20 #[zT,zT,zT,zT,zT,zT,zT,zT,zT,zT,zT,zT,zT,zT,zT,zT,zT,zT,zT,zT,zT,zF,zF,zF] ?_ rfl ?hy21 ?rest21
       case hy21 => intro w; go_simp; (try with_reducible rfl)
       try simp only [Act.put, zp]
       have zz1 : w.heap.size ≤ w1.heap.size := Below.size hBL
       have zz2 : w1.heap.size ≤ v1.heap.size := Below.size j2
       have zz3 : v1.heap.size ≤ v15.heap.size := Below.size j16
       have zz4 : v15.heap.size ≤ v17.heap.size := Below.size j18
       have zz5 : v17.heap.size ≤ v19.heap.size := Below.size j20
       have zz6 : v19.heap.size ≤ v21.heap.size := Below.size j22
       have zz7 : v21.heap.size ≤ v23.heap.size := Below.size j24
       have zz8 : v23.heap.size ≤ v25.heap.size := Below.size j26
       obtain ⟨iX, iY, hc⟩ := bothD_is HX.out (r1 := r1) (r2 := r2) ⟨rfl, rfl, rfl⟩ ⟨rfl, rfl, rfl⟩ HD.out
       subst hc
       obtain ⟨RX, RY⟩ := HX.out.two (P := fun d => Ints v25 w.heap.size v21.heap.size .u32 d.A d.n d.xs ∧ Ints v25 v15.heap.size v21.heap.size .u32 d.A d.n d.xs) (Q := fun d => Ints v25 v21.heap.size v25.heap.size .u32 d.A d.n d.xs) ⟨(Ints.below I1 (later j22 (later j24 j26)) (Nat.le_refl _)).more (by omega) (by omega), (Ints.below I1 (later j22 (later j24 j26)) (Nat.le_refl _)).more (by omega) (by omega)⟩ ((Ints.below I2 j26 (Nat.le_refl _)).more (by omega) (by omega)) ⟨Ints.nil_ .., Ints.nil_ ..⟩ (Ints.nil_ ..)
       have RX := RX.2
       have hB4 := (box_later h4 (later j2 (later j16 (later j18 (later j20 (later j22 (later j24 j26)))))) S4)
       have hB5 := (box_later h5 (later j2 (later j16 (later j18 (later j20 (later j22 (later j24 j26)))))) S5)
       have b_ := (later hBL (later j2 (later j16 (later j18 (later j20 (later j22 (later j24 j26)))))))
       have iX := Lib.hid iX
       have iY := Lib.hid iY
       clear HX HD
       refine stepK (i := 21) (L := #[zT,zT,zT,zT,zT,zT,zT,zT,zT,zT,zT,zT,zT,zT,zT,zT,zT,zT,zT,zT,zT,zT,zF,zF]) rfl (by rfl) (by kernel_rfl) (by rfl) (fun K hK => ?_)
       obtain ⟨⟨z0, z1, z2⟩, z3, z4, z5⟩ := boxD hB4
       obtain ⟨U, hU, hX1, hbU, hfU, y1, y2⟩ := zputR hB4 (.bool X.s) (.slice X.A X.n X.c) (.int .i64 X.e)
       go_simp
       try rw [hU]
       clear z0 z1 z2 z3 z4 z5 hU
       have hS' : MBox U w.heap.size m := (hfU _ (by omega)).trans hS
       replace b_ := hbU _ _ b_ (by omega)
       replace hB5 := (hfU _ (by omega)).trans hB5
       replace RX := intsR RX (w' := U) (fun b h1 h2 => hfU b (by omega))
       replace RY := intsR RY (w' := U) (fun b h1 h2 => hfU b (by omega))
       refine hK _ _ ⟨fun _ _ => hS', ?_⟩
       clear hK K hfU hbU hB4 hS
       try simp only [Act.put, zp]
       refine stepK (i := 22) (L := #[zT,zT,zT,zT,zT,zT,zT,zT,zT,zT,zT,zT,zT,zT,zT,zT,zT,zT,zT,zT,zT,zT,zT,zF]) rfl (by rfl) (by kernel_rfl) (by rfl) (fun K hK => ?_)
       obtain ⟨⟨z0, z1, z2⟩, z3, z4, z5⟩ := boxD hB5
       obtain ⟨U2, hU, hX2, hbU, hfU, y3, y4⟩ := zputR hB5 (.bool Y.s) (.slice Y.A Y.n Y.c) (.int .i64 Y.e)
       go_simp
       try rw [hU]
       clear z0 z1 z2 z3 z4 z5 hU
       have hS : MBox U2 w.heap.size m := (hfU _ (by omega)).trans hS'
       replace b_ := hbU _ _ b_ (by omega)
       replace hX1 := (hfU (w.heap.size + 1) (by omega)).trans hX1
       replace RX := intsR RX (w' := U2) (fun b h1 h2 => hfU b (by omega))
       replace RY := intsR RY (w' := U2) (fun b h1 h2 => hfU b (by omega))
       refine hK _ _ ⟨fun _ _ => hS, ?_⟩
       clear hK K hfU hbU hB5 hS hS'
       try simp only [Act.put, zp]
       refine zE 23 #[zT,zT,zT,zT,zT,zT,zT,zT,zT,zT,zT,zT,zT,zT,zT,zT,zT,zT,zT,zT,zT,zT,zT,zT] ?_ rfl ?hy24 ?rest24
       case hy24 => intro w; go_simp; (try with_reducible rfl)
       try simp only [Act.put, zp]
       refine doneE (by kernel_rfl) ?_ _
       obtain ⟨⟨p0, p1, p2⟩, p3, p4, p5⟩ := boxD hX1
       obtain ⟨⟨q0, q1, q2⟩, q3, q4, q5⟩ := boxD hX2
       go_wp2
       exact bodyPost_ret (v := .tuple #[.agg #[.bool X.s, .slice X.A X.n X.c, .int .i64 X.e], .agg #[.bool Y.s, .slice Y.A Y.n Y.c, .int .i64 Y.e], .int .i64 c]) (by simp [results, Tryd.results29, go_sem, p0, p1, p2, q0, q1, q2]) rfl ⟨X, Y, rfl, b_, iX.out, iY.out, v21.heap.size, by omega, by omega, RX.more (by omega) (Nat.le_refl _), RY.more (Nat.le_refl _) (by omega)⟩
end Ma
end Go.Proofs.YtbbnbgllgomolaaDoor