/- push.Mean: a walk (printed by a program of mine). -/
/- headcountlaw15.half and alive: walks (printed by a program of mine). -/
/- Own lists of masses, kept when another block turns. No program in sight. -/
/- Five parameters. -/
import Derived.Test.YtbbnbgllgomolaaDoorBt14
import Derived.Test.YtbbnbgllgomolaaDoorBt15
import Derived.Test.YtbbnbgllgomolaaDoorBt17
import Derived.Test.YtbbnbgllgomolaaDoorBt18
import Derived.Test.YtbbnbgllgomolaaDoorBt16
import Derived.Test.YtbbnbgllgomolaaDoorBt13
namespace Go.Proofs.YtbbnbgllgomolaaDoor
open Go.RowKit
namespace Ma
open Dp Dy
set_option maxHeartbeats 51200000 in
set_option maxRecDepth 100000 in
theorem Mean_num (w : World) (m : Mv) (k : Int) (hR : MRows w 0 w.heap.size m) (x y : Dn) (code : Int) (hg : meanM m k = ((x, y), code)) :
  Calls Tryd.prog 29 #[.agg #[.bool m.S.s, .slice m.S.A m.S.n m.S.c, .int .i64 m.S.e, .bool m.W.s, .slice m.W.A m.W.n m.W.c, .int .i64 m.W.e, .bool m.C.s, .slice m.C.A m.C.n m.C.c, .int .i64 m.C.e, .bool m.A.s, .slice m.A.A m.A.n m.A.c, .int .i64 m.A.e], .int .i64 k] w fun e w' => ∃ X Y : Dv, e = .returned (.tuple #[.agg #[.bool X.s, .slice X.A X.n X.c, .int .i64 X.e], .agg #[.bool Y.s, .slice Y.A Y.n Y.c, .int .i64 Y.e], .int .i64 code]) ∧ Below w.heap.size w w' ∧ Is x X ∧ Is y Y ∧ ∃ B, w.heap.size ≤ B ∧ B ≤ w'.heap.size ∧ Ints w' w.heap.size B .u32 X.A X.n X.xs ∧ Ints w' B w'.heap.size .u32 Y.A Y.n Y.xs := by
 generalize hw1 : (((w.alloc (.cells #[.bool m.S.s, .slice m.S.A m.S.n m.S.c, .int .i64 m.S.e, .bool m.W.s, .slice m.W.A m.W.n m.W.c, .int .i64 m.W.e, .bool m.C.s, .slice m.C.A m.C.n m.C.c, .int .i64 m.C.e, .bool m.A.s, .slice m.A.A m.A.n m.A.c, .int .i64 m.A.e] 26)).alloc (.cells #[.bool false, .slice none 0 0, .int .i64 0] 24)).alloc (.cells #[.bool false, .slice none 0 0, .int .i64 0] 24)).alloc (.cells #[.bool m.S.s, .slice m.S.A m.S.n m.S.c, .int .i64 m.S.e, .bool m.W.s, .slice m.W.A m.W.n m.W.c, .int .i64 m.W.e, .bool m.C.s, .slice m.C.A m.C.n m.C.c, .int .i64 m.C.e, .bool m.A.s, .slice m.A.A m.A.n m.A.c, .int .i64 m.A.e] 26) = w1
 obtain ⟨⟨hM, h4, h5, hA⟩, hBL, lo1, hi1⟩ := boxes4 w _ _ _ _ hw1
 replace hM : MBox w1 w.heap.size m := hM
 replace h4 : w1.heap[w.heap.size + 1]? = some (.cells #[.bool false, .slice none 0 0, .int .i64 0] 24 (0, 0)) := h4
 replace h5 : w1.heap[w.heap.size + 1 + 1]? = some (.cells #[.bool false, .slice none 0 0, .int .i64 0] 24 (0, 0)) := h5
 replace hA : MBox w1 (w.heap.size + 1 + 1 + 1) m := hA
 replace hBL : Below w.heap.size w w1 := hBL
 have Rm : MRows w1 0 w1.heap.size m := hR.on hBL
 have hLM := lm_one hA Rm
 clear hA
 have HR := Lib.hid hg
 clear hg
 obtain ⟨b, hb⟩ : ∃ b, badS [m] = b := ⟨_, rfl⟩
 have HB := Lib.hid hb
 clear hb
 have M1 : w.heap.size < w1.heap.size := by omega
 have S4 : w.heap.size + 1 < w1.heap.size := by omega
 have S5 : w.heap.size + 1 + 1 < w1.heap.size := by omega
 have M0 : MBox (((w.alloc (.cells #[.bool m.S.s, .slice m.S.A m.S.n m.S.c, .int .i64 m.S.e, .bool m.W.s, .slice m.W.A m.W.n m.W.c, .int .i64 m.W.e, .bool m.C.s, .slice m.C.A m.C.n m.C.c, .int .i64 m.C.e, .bool m.A.s, .slice m.A.A m.A.n m.A.c, .int .i64 m.A.e] 26)).alloc (.cells #[.bool false, .slice none 0 0, .int .i64 0] 24)).alloc (.cells #[.bool false, .slice none 0 0, .int .i64 0] 24)) w.heap.size m := (Below.heap_alloc _ _ _ (by simp <;> omega)).trans ((Below.heap_alloc _ _ _ (by simp)).trans (heap_alloc_last _ _))
 obtain ⟨⟨y0, y1, y2, y3, y4, y5, y6, y7, y8, y9, y10, y11⟩, yf⟩ := MBox.cells M0
 go_enter Tryd.func29, Tryd.ntmps29
 go_wp2_with fail
 clear y0 y1 y2 y3 y4 y5 y6 y7 y8 y9 y10 y11 yf M0
 try clear hw1
 refine (faulty_any w1 (some ⟨w.heap.size + 1 + 1 + 1, 0, none⟩) 1 1 [m] hLM (by decide) b HB.out).mono ?_
 rintro e' v1 ⟨rfl, j2⟩
 try clear hw
 clear hLM
 cases b
 rotate_left
 · have hcode : ((Dn.zero, Dn.zero), (8 : Int)) = ((x, y), code) := by
    rw [← HR.out]
    unfold meanM
    rw [if_pos HB.out]
   injection hcode with h1 h2
   injection h1 with h1 h3
   subst h1 h2 h3
   clear HR
   obtain ⟨⟨q30, q31, q32⟩, q33, q34, q35⟩ := boxD (box_later h4 j2 S4)
   obtain ⟨⟨q40, q41, q42⟩, q43, q44, q45⟩ := boxD (box_later h5 j2 S5)
   go_wp2
   obtain ⟨U1, hU1, hX1, hb1, hf1, _, _⟩ := zputR (box_later h4 j2 S4) (.bool false) (.slice none 0 0) (.int .i64 0)
   rw [hU1]
   obtain ⟨U2, hU2, hX2, hb2, hf2, _, _⟩ := zputR (show U1.heap[w.heap.size + 1 + 1]? = _ from (hf1 _ (by omega)).trans (box_later h5 j2 S5)) (.bool false) (.slice none 0 0) (.int .i64 0)
   rw [hU2]
   clear q30 q31 q32 q33 q34 q35 q40 q41 q42 q43 q44 q45
   have hX3 := (hf2 (w.heap.size + 1) (by omega)).trans hX1
   have hQ := hb2 _ _ (hb1 _ _ (lz hBL j2) (by omega)) (by omega)
   clear hU1 hU2 hb1 hb2 hf1 hf2
   obtain ⟨⟨p0, p1, p2⟩, p3, p4, p5⟩ := boxD hX3
   obtain ⟨⟨q0, q1, q2⟩, q3, q4, q5⟩ := boxD hX2
   exact bodyPost_ret (v := .tuple #[.agg #[.bool false, .slice none 0 0, .int .i64 0], .agg #[.bool false, .slice none 0 0, .int .i64 0], .int .i64 8]) (by simp [results, Tryd.results29, go_sem, p0, p1, p2, q0, q1, q2]) rfl ⟨ZM.C, ZM.C, rfl, hQ, Is.zero, Is.zero, w.heap.size, Nat.le_refl _, hQ.size, Ints.nil_ .., Ints.nil_ ..⟩
 · by_cases hk : k < 0 ∨ 64 < k
   · have hcode : ((Dn.zero, Dn.zero), (2 : Int)) = ((x, y), code) := by
      rw [← HR.out]
      unfold meanM
      rw [if_neg (by rw [HB.out]; simp), if_pos hk]
     injection hcode with h1 h2
     injection h1 with h1 h3
     subst h1 h2 h3
     clear HR
     rcases hk with hk | hk
     · obtain ⟨⟨q50, q51, q52⟩, q53, q54, q55⟩ := boxD (box_later h4 j2 S4)
       obtain ⟨⟨q60, q61, q62⟩, q63, q64, q65⟩ := boxD (box_later h5 j2 S5)
       go_wp2
       obtain ⟨U1, hU1, hX1, hb1, hf1, _, _⟩ := zputR (box_later h4 j2 S4) (.bool false) (.slice none 0 0) (.int .i64 0)
       rw [hU1]
       obtain ⟨U2, hU2, hX2, hb2, hf2, _, _⟩ := zputR (show U1.heap[w.heap.size + 1 + 1]? = _ from (hf1 _ (by omega)).trans (box_later h5 j2 S5)) (.bool false) (.slice none 0 0) (.int .i64 0)
       rw [hU2]
       clear q50 q51 q52 q53 q54 q55 q60 q61 q62 q63 q64 q65
       have hX3 := (hf2 (w.heap.size + 1) (by omega)).trans hX1
       have hQ := hb2 _ _ (hb1 _ _ (lz hBL j2) (by omega)) (by omega)
       clear hU1 hU2 hb1 hb2 hf1 hf2
       obtain ⟨⟨p0, p1, p2⟩, p3, p4, p5⟩ := boxD hX3
       obtain ⟨⟨q0, q1, q2⟩, q3, q4, q5⟩ := boxD hX2
       exact bodyPost_ret (v := .tuple #[.agg #[.bool false, .slice none 0 0, .int .i64 0], .agg #[.bool false, .slice none 0 0, .int .i64 0], .int .i64 2]) (by simp [results, Tryd.results29, go_sem, p0, p1, p2, q0, q1, q2]) rfl ⟨ZM.C, ZM.C, rfl, hQ, Is.zero, Is.zero, w.heap.size, Nat.le_refl _, hQ.size, Ints.nil_ .., Ints.nil_ ..⟩
     · have hk2 : ¬ k < 0 := by omega
       obtain ⟨⟨q70, q71, q72⟩, q73, q74, q75⟩ := boxD (box_later h4 j2 S4)
       obtain ⟨⟨q80, q81, q82⟩, q83, q84, q85⟩ := boxD (box_later h5 j2 S5)
       go_wp2
       obtain ⟨U1, hU1, hX1, hb1, hf1, _, _⟩ := zputR (box_later h4 j2 S4) (.bool false) (.slice none 0 0) (.int .i64 0)
       rw [hU1]
       obtain ⟨U2, hU2, hX2, hb2, hf2, _, _⟩ := zputR (show U1.heap[w.heap.size + 1 + 1]? = _ from (hf1 _ (by omega)).trans (box_later h5 j2 S5)) (.bool false) (.slice none 0 0) (.int .i64 0)
       rw [hU2]
       clear q70 q71 q72 q73 q74 q75 q80 q81 q82 q83 q84 q85
       have hX3 := (hf2 (w.heap.size + 1) (by omega)).trans hX1
       have hQ := hb2 _ _ (hb1 _ _ (lz hBL j2) (by omega)) (by omega)
       clear hU1 hU2 hb1 hb2 hf1 hf2
       obtain ⟨⟨p0, p1, p2⟩, p3, p4, p5⟩ := boxD hX3
       obtain ⟨⟨q0, q1, q2⟩, q3, q4, q5⟩ := boxD hX2
       exact bodyPost_ret (v := .tuple #[.agg #[.bool false, .slice none 0 0, .int .i64 0], .agg #[.bool false, .slice none 0 0, .int .i64 0], .int .i64 2]) (by simp [results, Tryd.results29, go_sem, p0, p1, p2, q0, q1, q2]) rfl ⟨ZM.C, ZM.C, rfl, hQ, Is.zero, Is.zero, w.heap.size, Nat.le_refl _, hQ.size, Ints.nil_ .., Ints.nil_ ..⟩
   · have hk1 : ¬ k < 0 := fun h => hk (.inl h)
     have hk2 : ¬ 64 < k := fun h => hk (.inr h)
     by_cases hn : m.W.n = 0
     · have hcode : ((Dn.zero, Dn.zero), (6 : Int)) = ((x, y), code) := by
        rw [← HR.out]
        unfold meanM
        rw [if_neg (by rw [HB.out]; simp), if_neg hk, if_pos hn]
       injection hcode with h1 h2
       injection h1 with h1 h3
       subst h1 h2 h3
       clear HR
       have HN := Lib.hid hn
       clear hn hk
       obtain ⟨⟨q90, q91, q92, q93, q94, q95, q96, q97, q98, q99, q910, q911⟩, q9f⟩ := MBox.cells (box_later hM j2 M1)
       go_wp2_with fail
       refine (none_any v1 m.W.s m.W.A m.W.n m.W.c m.W.e true (decide_eq_true HN.out)).mono ?_
       rintro e' v10 ⟨rfl, j11⟩
       clear q90 q91 q92 q93 q94 q95 q96 q97 q98 q99 q910 q911 q9f
       try clear hw
       obtain ⟨⟨q120, q121, q122⟩, q123, q124, q125⟩ := boxD (box_later h4 (lz j2 j11) S4)
       obtain ⟨⟨q130, q131, q132⟩, q133, q134, q135⟩ := boxD (box_later h5 (lz j2 j11) S5)
       go_wp2
       obtain ⟨U1, hU1, hX1, hb1, hf1, _, _⟩ := zputR (box_later h4 (lz j2 j11) S4) (.bool false) (.slice none 0 0) (.int .i64 0)
       rw [hU1]
       obtain ⟨U2, hU2, hX2, hb2, hf2, _, _⟩ := zputR (show U1.heap[w.heap.size + 1 + 1]? = _ from (hf1 _ (by omega)).trans (box_later h5 (lz j2 j11) S5)) (.bool false) (.slice none 0 0) (.int .i64 0)
       rw [hU2]
       clear q120 q121 q122 q123 q124 q125 q130 q131 q132 q133 q134 q135
       have hX3 := (hf2 (w.heap.size + 1) (by omega)).trans hX1
       have hQ := hb2 _ _ (hb1 _ _ (lz hBL (lz j2 j11)) (by omega)) (by omega)
       clear hU1 hU2 hb1 hb2 hf1 hf2
       obtain ⟨⟨p0, p1, p2⟩, p3, p4, p5⟩ := boxD hX3
       obtain ⟨⟨q0, q1, q2⟩, q3, q4, q5⟩ := boxD hX2
       exact bodyPost_ret (v := .tuple #[.agg #[.bool false, .slice none 0 0, .int .i64 0], .agg #[.bool false, .slice none 0 0, .int .i64 0], .int .i64 6]) (by simp [results, Tryd.results29, go_sem, p0, p1, p2, q0, q1, q2]) rfl ⟨ZM.C, ZM.C, rfl, hQ, Is.zero, Is.zero, w.heap.size, Nat.le_refl _, hQ.size, Ints.nil_ .., Ints.nil_ ..⟩
     · obtain ⟨r1, q1, hr1⟩ : ∃ r q, downM m k = (r, q) := ⟨_, _, rfl⟩
       obtain ⟨r2, q2, hr2⟩ : ∃ r q, upM m k = (r, q) := ⟨_, _, rfl⟩
       have h0 := HR.out
       unfold meanM at h0
       rw [if_neg (by rw [HB.out]; simp), if_neg hk, if_neg hn, hr1, hr2] at h0
       have HD := Lib.hid h0
       have HN := Lib.hid hn
       have H1 := Lib.hid hr1
       have H2 := Lib.hid hr2
       clear h0 hn hk hr1 hr2 HR
       obtain ⟨⟨q140, q141, q142, q143, q144, q145, q146, q147, q148, q149, q1410, q1411⟩, q14f⟩ := MBox.cells (box_later hM j2 M1)
       go_wp2_with fail
       refine (none_any v1 m.W.s m.W.A m.W.n m.W.c m.W.e false (decide_eq_false HN.out)).mono ?_
       rintro e' v15 ⟨rfl, j16⟩
       clear q140 q141 q142 q143 q144 q145 q146 q147 q148 q149 q1410 q1411 q14f
       try clear hw
       go_wp2_with fail
       refine region_E (fun v => MBox v w.heap.size m) [] (m := 24) (L := #[zF,zF,zF,zF,zF,zF,zF,zF,zF,zF,zF,zF,zF,zF,zF,zF,zF,zF,zF,zF,zF,zF,zF,zF]) (by kernel_rfl) (by rfl) (by rfl) ?_
       have j18 : Below v15.heap.size v15 v15.drew := (Below.refl _ _).drew
       generalize v15.drew = v17 at *
       have hS : MBox v17 w.heap.size m := (box_later hM (lz j2 (lz j16 j18)) M1)
       refine zE 0 #[zT,zF,zF,zF,zF,zF,zF,zF,zF,zF,zF,zF,zF,zF,zF,zF,zF,zF,zF,zF,zF,zF,zF,zF] ?_ rfl ?hy1 ?rest1
       case hy1 => intro w; go_simp; (try with_reducible rfl)
       try simp only [Act.put, zp]
       refine zE 2 #[zT,zF,zT,zF,zF,zF,zF,zF,zF,zF,zF,zF,zF,zF,zF,zF,zF,zF,zF,zF,zF,zF,zF,zF] ?_ rfl ?hy2 ?rest2
       case hy2 => intro w; go_simp; (try with_reducible rfl)
       try simp only [Act.put, zp]
       refine zE 4 #[zT,zF,zT,zF,zT,zF,zF,zF,zF,zF,zF,zF,zF,zF,zF,zF,zF,zF,zF,zF,zF,zF,zF,zF] ?_ rfl ?hy3 ?rest3
       case hy3 => intro w; go_simp; (try with_reducible rfl)
       try simp only [Act.put, zp]
       refine zE 9 #[zT,zF,zT,zF,zT,zF,zF,zF,zF,zT,zF,zF,zF,zF,zF,zF,zF,zF,zF,zF,zF,zF,zF,zF] ?_ rfl ?hy4 ?rest4
       case hy4 => intro w; go_simp; (try with_reducible rfl)
       try simp only [Act.put, zp]
       refine zE 11 #[zT,zF,zT,zF,zT,zF,zF,zF,zF,zT,zF,zT,zF,zF,zF,zF,zF,zF,zF,zF,zF,zF,zF,zF] ?_ rfl ?hy5 ?rest5
       case hy5 => intro w; go_simp; (try with_reducible rfl)
       try simp only [Act.put, zp]
       refine zE 13 #[zT,zF,zT,zF,zT,zF,zF,zF,zF,zT,zF,zT,zF,zT,zF,zF,zF,zF,zF,zF,zF,zF,zF,zF] ?_ rfl ?hy6 ?rest6
       case hy6 => intro w; go_simp; (try with_reducible rfl)
       try simp only [Act.put, zp]
       refine readE (i := 1) (L := #[zT,zT,zT,zF,zT,zF,zF,zF,zF,zT,zF,zT,zF,zT,zF,zF,zF,zF,zF,zF,zF,zF,zF,zF]) (v := .agg #[.bool m.S.s, .slice m.S.A m.S.n m.S.c, .int .i64 m.S.e]) rfl (by rfl) (by kernel_rfl) (by kernel_rfl) (by kernel_rfl) (fun _ _ _ h => h) (by assumption) (by rfl) ?yx1_ ?zx1_
       case yx1_ =>
        intro w' h1
        obtain ⟨⟨k0, k1, k2, k3, k4, k5, k6, k7, k8, k9, k10, k11⟩, kf⟩ := MBox.cells h1
        go_simp
       try simp only [Act.put, zp]
       refine readE (i := 3) (L := #[zT,zT,zT,zT,zT,zF,zF,zF,zF,zT,zF,zT,zF,zT,zF,zF,zF,zF,zF,zF,zF,zF,zF,zF]) (v := .agg #[.bool m.W.s, .slice m.W.A m.W.n m.W.c, .int .i64 m.W.e]) rfl (by rfl) (by kernel_rfl) (by kernel_rfl) (by kernel_rfl) (fun _ _ _ h => h) (by assumption) (by rfl) ?yx3_ ?zx3_
       case yx3_ =>
        intro w' h1
        obtain ⟨⟨k0, k1, k2, k3, k4, k5, k6, k7, k8, k9, k10, k11⟩, kf⟩ := MBox.cells h1
        go_simp
       try simp only [Act.put, zp]
       refine readE (i := 10) (L := #[zT,zT,zT,zT,zT,zF,zF,zF,zF,zT,zT,zT,zF,zT,zF,zF,zF,zF,zF,zF,zF,zF,zF,zF]) (v := .agg #[.bool m.S.s, .slice m.S.A m.S.n m.S.c, .int .i64 m.S.e]) rfl (by rfl) (by kernel_rfl) (by kernel_rfl) (by kernel_rfl) (fun _ _ _ h => h) (by assumption) (by rfl) ?yx10_ ?zx10_
       case yx10_ =>
        intro w' h1
        obtain ⟨⟨k0, k1, k2, k3, k4, k5, k6, k7, k8, k9, k10, k11⟩, kf⟩ := MBox.cells h1
        go_simp
       try simp only [Act.put, zp]
       refine readE (i := 12) (L := #[zT,zT,zT,zT,zT,zF,zF,zF,zF,zT,zT,zT,zT,zT,zF,zF,zF,zF,zF,zF,zF,zF,zF,zF]) (v := .agg #[.bool m.W.s, .slice m.W.A m.W.n m.W.c, .int .i64 m.W.e]) rfl (by rfl) (by kernel_rfl) (by kernel_rfl) (by kernel_rfl) (fun _ _ _ h => h) (by assumption) (by rfl) ?yx12_ ?zx12_
       case yx12_ =>
        intro w' h1
        obtain ⟨⟨k0, k1, k2, k3, k4, k5, k6, k7, k8, k9, k10, k11⟩, kf⟩ := MBox.cells h1
        go_simp
       try simp only [Act.put, zp]
       refine stepK (i := 5) (L := #[zT,zT,zT,zT,zT,zT,zF,zF,zF,zT,zT,zT,zT,zT,zF,zF,zF,zF,zF,zF,zF,zF,zF,zF]) rfl (by rfl) (by kernel_rfl) (by rfl) (fun K hK => ?_)
       go_simp
       go_at_call 22
       refine (Floor_all v17 m.S.s m.W.s m.S.A m.W.A m.S.n m.S.c m.W.n m.W.c m.S.xs m.W.xs m.S.e m.W.e (MRows.on Rm (lz j2 (lz j16 j18))).S (MRows.on Rm (lz j2 (lz j16 j18))).W k r1 q1 H1.out).mono ?_
       rintro e' v19 ⟨G1, m1, o1, rfl, _, j20, I1⟩
       clear hS
       have hS : MBox v19 w.heap.size m := (box_later hM (lz j2 (lz j16 (lz j18 j20))) M1)
       refine hK _ _ ⟨fun _ _ => hS, ?_⟩
       clear hK K
       try simp only [Act.put, zp]
       refine zE 6 #[zT,zT,zT,zT,zT,zT,zT,zF,zF,zT,zT,zT,zT,zT,zF,zF,zF,zF,zF,zF,zF,zF,zF,zF] ?_ rfl ?hy12 ?rest12
       case hy12 => intro w; go_simp; (try with_reducible rfl)
       try simp only [Act.put, zp]
       refine zE 7 #[zT,zT,zT,zT,zT,zT,zT,zT,zF,zT,zT,zT,zT,zT,zF,zF,zF,zF,zF,zF,zF,zF,zF,zF] ?_ rfl ?hy13 ?rest13
       case hy13 => intro w; go_simp; (try with_reducible rfl)
       try simp only [Act.put, zp]
       refine stepK (i := 8) (L := #[zT,zT,zT,zT,zT,zT,zT,zT,zT,zT,zT,zT,zT,zT,zF,zF,zF,zF,zF,zF,zF,zF,zF,zF]) rfl (by rfl) (by kernel_rfl) (by rfl) (fun K hK => ?_)
       go_simp
       go_at_call 41
       refine (both_any v19 r1.neg G1 m1 o1 r1.e q1).mono ?_
       rintro e' v21 ⟨rfl, j22, D_, E_, lD_⟩
       clear hS
       have hS : MBox v21 w.heap.size m := (box_later hM (lz j2 (lz j16 (lz j18 (lz j20 j22)))) M1)
       refine hK _ _ ⟨fun _ _ => hS, ?_⟩
       clear hK K
       try simp only [Act.put, zp]
       have sD : v19.heap.size < v21.heap.size := by omega
       have sE : v19.heap.size + 1 < v21.heap.size := by omega
       refine stepK (i := 14) (L := #[zT,zT,zT,zT,zT,zT,zT,zT,zT,zT,zT,zT,zT,zT,zT,zF,zF,zF,zF,zF,zF,zF,zF,zF]) rfl (by rfl) (by kernel_rfl) (by rfl) (fun K hK => ?_)
       go_simp
       go_at_call 24
       refine (Ceil_all v21 m.S.s m.W.s m.S.A m.W.A m.S.n m.S.c m.W.n m.W.c m.S.xs m.W.xs m.S.e m.W.e (MRows.on Rm (lz j2 (lz j16 (lz j18 (lz j20 j22))))).S (MRows.on Rm (lz j2 (lz j16 (lz j18 (lz j20 j22))))).W k r2 q2 H2.out).mono ?_
       rintro e' v23 ⟨G2, m2, o2, rfl, _, j24, I2⟩
       clear hS
       have hS : MBox v23 w.heap.size m := (box_later hM (lz j2 (lz j16 (lz j18 (lz j20 (lz j22 j24))))) M1)
       refine hK _ _ ⟨fun _ _ => hS, ?_⟩
       clear hK K
       try simp only [Act.put, zp]
       refine zE 15 #[zT,zT,zT,zT,zT,zT,zT,zT,zT,zT,zT,zT,zT,zT,zT,zT,zF,zF,zF,zF,zF,zF,zF,zF] ?_ rfl ?hy16 ?rest16
       case hy16 => intro w; go_simp; (try with_reducible rfl)
       try simp only [Act.put, zp]
       refine zE 16 #[zT,zT,zT,zT,zT,zT,zT,zT,zT,zT,zT,zT,zT,zT,zT,zT,zT,zF,zF,zF,zF,zF,zF,zF] ?_ rfl ?hy17 ?rest17
       case hy17 => intro w; go_simp; (try with_reducible rfl)
       try simp only [Act.put, zp]
       obtain ⟨X, Y, c, hX⟩ := bothR ⟨r1.neg, G1, m1, o1, r1.e, canon 4294967296 r1.m⟩ ⟨r2.neg, G2, m2, o2, r2.e, canon 4294967296 r2.m⟩ q1 q2
       refine stepK (i := 17) (L := #[zT,zT,zT,zT,zT,zT,zT,zT,zT,zT,zT,zT,zT,zT,zT,zT,zT,zT,zF,zF,zF,zF,zF,zF]) rfl (by rfl) (by kernel_rfl) (by rfl) (fun K hK => ?_)
       go_simp
       go_at_call 63
       refine (both1_any v23 ⟨r1.neg, G1, m1, o1, r1.e, canon 4294967296 r1.m⟩ ⟨r2.neg, G2, m2, o2, r2.e, canon 4294967296 r2.m⟩ q1 q2 (v19.heap.size + 1) v19.heap.size (Nat.lt_of_lt_of_le sE (Below.size j24)) (Nat.lt_of_lt_of_le sD (Below.size j24)) (box_later E_ j24 sE) (box_later D_ j24 sD) X Y c hX).mono ?_
       rintro e' v25 ⟨rfl, j26⟩
       have HX := Lib.hid hX
       clear hX
       clear hS
       have hS : MBox v25 w.heap.size m := (box_later hM (lz j2 (lz j16 (lz j18 (lz j20 (lz j22 (lz j24 j26)))))) M1)
       refine hK _ _ ⟨fun _ _ => hS, ?_⟩
       clear hK K
       try simp only [Act.put, zp]
       refine zE 18 #[zT,zT,zT,zT,zT,zT,zT,zT,zT,zT,zT,zT,zT,zT,zT,zT,zT,zT,zT,zF,zF,zF,zF,zF] ?_ rfl ?hy19 ?rest19
       case hy19 => intro w; go_simp; (try with_reducible rfl)
       try simp only [Act.put, zp]
       refine zE 19 #[zT,zT,zT,zT,zT,zT,zT,zT,zT,zT,zT,zT,zT,zT,zT,zT,zT,zT,zT,zT,zF,zF,zF,zF] ?_ rfl ?hy20 ?rest20
       case hy20 => intro w; go_simp; (try with_reducible rfl)
       try simp only [Act.put, zp]
       refine zE 20 #[zT,zT,zT,zT,zT,zT,zT,zT,zT,zT,zT,zT,zT,zT,zT,zT,zT,zT,zT,zT,zT,zF,zF,zF] ?_ rfl ?hy21 ?rest21
       case hy21 => intro w; go_simp; (try with_reducible rfl)
       try simp only [Act.put, zp]
       have zz1 : w.heap.size ≤ w1.heap.size := Below.size hBL
       have zz2 : w1.heap.size ≤ v1.heap.size := Below.size j2
       have zz3 : v1.heap.size ≤ v15.heap.size := Below.size j16
       have zz4 : v15.heap.size ≤ v17.heap.size := Below.size j18
       have zz5 : v17.heap.size ≤ v19.heap.size := Below.size j20
       have zz6 : v19.heap.size ≤ v21.heap.size := Below.size j22
       have zz7 : v21.heap.size ≤ v23.heap.size := Below.size j24
       have zz8 : v23.heap.size ≤ v25.heap.size := Below.size j26
       obtain ⟨iX, iY, hc⟩ := bothD_is HX.out (r1 := r1) (r2 := r2) ⟨rfl, rfl, rfl⟩ ⟨rfl, rfl, rfl⟩ HD.out
       subst hc
       obtain ⟨RX, RY⟩ := HX.out.two (P := fun d => Ints v25 w.heap.size v21.heap.size .u32 d.A d.n d.xs ∧ Ints v25 v15.heap.size v21.heap.size .u32 d.A d.n d.xs) (Q := fun d => Ints v25 v21.heap.size v25.heap.size .u32 d.A d.n d.xs) ⟨(Ints.below I1 (lz j22 (lz j24 j26)) (Nat.le_refl _)).more (by omega) (by omega), (Ints.below I1 (lz j22 (lz j24 j26)) (Nat.le_refl _)).more (by omega) (by omega)⟩ ((Ints.below I2 j26 (Nat.le_refl _)).more (by omega) (by omega)) ⟨Ints.nil_ .., Ints.nil_ ..⟩ (Ints.nil_ ..)
       have RX := RX.2
       have hB4 := (box_later h4 (lz j2 (lz j16 (lz j18 (lz j20 (lz j22 (lz j24 j26)))))) S4)
       have hB5 := (box_later h5 (lz j2 (lz j16 (lz j18 (lz j20 (lz j22 (lz j24 j26)))))) S5)
       have b_ := (lz hBL (lz j2 (lz j16 (lz j18 (lz j20 (lz j22 (lz j24 j26)))))))
       have iX := Lib.hid iX
       have iY := Lib.hid iY
       clear HX HD
       refine stepK (i := 21) (L := #[zT,zT,zT,zT,zT,zT,zT,zT,zT,zT,zT,zT,zT,zT,zT,zT,zT,zT,zT,zT,zT,zT,zF,zF]) rfl (by rfl) (by kernel_rfl) (by rfl) (fun K hK => ?_)
       obtain ⟨⟨z0, z1, z2⟩, z3, z4, z5⟩ := boxD hB4
       obtain ⟨U, hU, hX1, hbU, hfU, y1, y2⟩ := zputR hB4 (.bool X.s) (.slice X.A X.n X.c) (.int .i64 X.e)
       go_simp
       try rw [hU]
       clear z0 z1 z2 z3 z4 z5 hU
       have hS' : MBox U w.heap.size m := (hfU _ (by omega)).trans hS
       replace b_ := hbU _ _ b_ (by omega)
       replace hB5 := (hfU _ (by omega)).trans hB5
       replace RX := intsR RX (w' := U) (fun b h1 h2 => hfU b (by omega))
       replace RY := intsR RY (w' := U) (fun b h1 h2 => hfU b (by omega))
       refine hK _ _ ⟨fun _ _ => hS', ?_⟩
       clear hK K hfU hbU hB4 hS
       try simp only [Act.put, zp]
       refine stepK (i := 22) (L := #[zT,zT,zT,zT,zT,zT,zT,zT,zT,zT,zT,zT,zT,zT,zT,zT,zT,zT,zT,zT,zT,zT,zT,zF]) rfl (by rfl) (by kernel_rfl) (by rfl) (fun K hK => ?_)
       obtain ⟨⟨z0, z1, z2⟩, z3, z4, z5⟩ := boxD hB5
       obtain ⟨U2, hU, hX2, hbU, hfU, y3, y4⟩ := zputR hB5 (.bool Y.s) (.slice Y.A Y.n Y.c) (.int .i64 Y.e)
       go_simp
       try rw [hU]
       clear z0 z1 z2 z3 z4 z5 hU
       have hS : MBox U2 w.heap.size m := (hfU _ (by omega)).trans hS'
       replace b_ := hbU _ _ b_ (by omega)
       replace hX1 := (hfU (w.heap.size + 1) (by omega)).trans hX1
       replace RX := intsR RX (w' := U2) (fun b h1 h2 => hfU b (by omega))
       replace RY := intsR RY (w' := U2) (fun b h1 h2 => hfU b (by omega))
       refine hK _ _ ⟨fun _ _ => hS, ?_⟩
       clear hK K hfU hbU hB5 hS hS'
       try simp only [Act.put, zp]
       refine zE 23 #[zT,zT,zT,zT,zT,zT,zT,zT,zT,zT,zT,zT,zT,zT,zT,zT,zT,zT,zT,zT,zT,zT,zT,zT] ?_ rfl ?hy24 ?rest24
       case hy24 => intro w; go_simp; (try with_reducible rfl)
       try simp only [Act.put, zp]
       refine doneE (by kernel_rfl) ?_ _
       obtain ⟨⟨p0, p1, p2⟩, p3, p4, p5⟩ := boxD hX1
       obtain ⟨⟨q0, q1, q2⟩, q3, q4, q5⟩ := boxD hX2
       go_wp2
       exact bodyPost_ret (v := .tuple #[.agg #[.bool X.s, .slice X.A X.n X.c, .int .i64 X.e], .agg #[.bool Y.s, .slice Y.A Y.n Y.c, .int .i64 Y.e], .int .i64 c]) (by simp [results, Tryd.results29, go_sem, p0, p1, p2, q0, q1, q2]) rfl ⟨X, Y, rfl, b_, iX.out, iY.out, v21.heap.size, by omega, by omega, RX.more (by omega) (Nat.le_refl _), RY.more (Nat.le_refl _) (by omega)⟩
end Ma
end Go.Proofs.YtbbnbgllgomolaaDoor
namespace Go.Proofs.YtbbnbgllgomolaaDoor
open Go.RowKit
namespace Ma
open Dp Dy
theorem row_one {w : World} {g x : Nat} {t : TypeId} (h : w.heap[g]? = some (.cells #[.int .u32 x] t (0, 0))) (hx : x < 4294967296) (h0 : x ≠ 0) : Ints w g (g + 1) .u32 (some ⟨g, 0, none⟩) 1 (canon 4294967296 x) := by
 rw [canon_one x h0 hx]
 refine ⟨rfl, fun y hy => ?_, by decide, fun _ => ⟨g, 0, rfl, Nat.le_refl _, Nat.lt_succ_self _, fun j hj => ?_⟩⟩
 · rw [List.mem_singleton.1 hy]
   simp [IntKind.min, IntKind.max, IntKind.signed, IntKind.bits]
   omega
 · obtain rfl : j = 0 := by omega
   exact ⟨cell_of_row w g 0 _ _ _ h, frozen_of_row w g 0 _ _ h⟩
set_option maxHeartbeats 3200000 in
set_option maxRecDepth 100000 in
/-- headcountlaw15.half. -/
theorem half15_any (w : World) : Calls Tryd.prog 56 #[] w fun e w' => ∃ A n c, e = .returned (.agg #[.bool false, .slice A n c, .int .i64 1]) ∧ Below w.heap.size w w' ∧ Ints w' w.heap.size w'.heap.size .u32 A n (canon 4294967296 1) := by
 generalize hw : (w.alloc (.cells #[.bool false, .slice none 0 0, .int .i64 0] 24)).alloc (.cells #[.int .u32 1] 58) = w1
 obtain ⟨B1, B2, b1, l1, l2⟩ := boxes2 w _ _ hw
 replace B1 : w1.heap[w.heap.size]? = some (.cells #[.bool false, .slice none 0 0, .int .i64 0] 24 (0, 0)) := B1
 replace B2 : w1.heap[w.heap.size + 1]? = some (.cells #[.int .u32 (1 : Nat)] 58 (0, 0)) := B2
 have I1 := row_one B2 (by decide) (by decide)
 obtain ⟨⟨z0, z1, z2⟩, z3, z4, z5⟩ := boxD B1
 obtain ⟨U, hU, hX, hbU, hfU, y1, y2⟩ := zputR B1 (.bool false) (.slice (some ⟨w.heap.size + 1, 0, none⟩) 1 1) (.int .i64 1)
 go_enter Tryd.func56, Tryd.ntmps56
 go_wp2
 try rw [hU]
 clear z0 z1 z2 z3 z4 z5 hU hw
 have b2 := hbU _ _ b1 (Nat.le_refl _)
 replace I1 := intsR I1 (w' := U) (fun b h1 h2 => hfU b (by omega))
 obtain ⟨⟨p0, p1, p2⟩, p3, p4, p5⟩ := boxD hX
 exact bodyPost_ret (v := .agg #[.bool false, .slice (some ⟨w.heap.size + 1, 0, none⟩) 1 1, .int .i64 1]) (by simp [results, Tryd.results56, go_sem, p0, p1, p2]) rfl ⟨_, 1, 1, rfl, b2, I1.more (by omega) (by omega)⟩
theorem alloc_one (w : World) : ∃ U, w.alloc (.cells #[.int .u32 1] 58) = U ∧ U.heap[w.heap.size]? = some (.cells #[.int .u32 (1 : Nat)] 58 (0, 0)) ∧ Below w.heap.size w U ∧ w.heap.size < U.heap.size :=
 ⟨_, rfl, heap_alloc_last _ _, (Below.refl _ w).alloc (Nat.le_refl _) _, by simp⟩
theorem same_is {r : Dn} {d : Dv} (h : Is r d) : Pa.Dy.same ⟨d.s, d.xs, d.e⟩ ⟨r.neg, canon 4294967296 r.m, r.e⟩ = true := by
 rw [h.1, h.2.1, h.2.2]
 exact same_true rfl rfl rfl
theorem alive_k {k : Mv} {kR : Nat → Dn} {a b : Dn} {R : Nat → Dn} (h : IsM kR k) (hk : ∀ x, x < 4 → kR x = if x = 0 then a else if x = 1 then b else R x) (h2 : R 2 = Dn.zero := by rfl) (h3 : R 3 = Dn.zero := by rfl) : IsM (twoR a b) k :=
 h.of_eq (four (hk 0 (by decide)).symm (hk 1 (by decide)).symm ((hk 2 (by decide)).trans h2).symm ((hk 3 (by decide)).trans h3).symm)
theorem alive_take {w : World} {lo hi lo' hi' : Nat} {m s : Mv} {sR : Nat → Dn} (hR : MRows w lo hi m) (hS : MRows w lo' hi' s) (h : IsM (twoR ⟨false, 1, 0⟩ ⟨false, 1, 1⟩) m) (hs : IsM sR s) (hk : ∀ x, x < 4 → sR x = if x = 0 then ⟨false, 3, 0⟩ else if x = 1 then ⟨false, 1, 1⟩ else Dn.zero) :
  ∃ T, takeM m s = (T, 0) ∧ ∀ x, x < 4 → T x = twoR ⟨false, 4, 0⟩ ⟨false, 1, 0⟩ x := by
 have hs2 : IsM (twoR ⟨false, 3, 0⟩ ⟨false, 1, 1⟩) s := hs.of_eq (four (hk 0 (by decide)).symm (hk 1 (by decide)).symm (hk 2 (by decide)).symm (hk 3 (by decide)).symm)
 have m1 : MayR (twoR ⟨false, 1, 0⟩ ⟨false, 1, 1⟩) := twoR_may (sm _ _ (by decide) (by decide) (by decide) (by decide)) (sm _ _ (by decide) (by decide) (by decide) (by decide))
 have m2 : MayR (twoR ⟨false, 3, 0⟩ ⟨false, 1, 1⟩) := twoR_may (sm _ _ (by decide) (by decide) (by decide) (by decide)) (sm _ _ (by decide) (by decide) (by decide) (by decide))
 obtain ⟨T, t1, t2⟩ := take_of h hs2 m1 m2 ((share_is hR h m1).2 ⟨rfl, fun h => absurd h (by decide)⟩) ((share_is hS hs2 m2).2 ⟨rfl, fun h => absurd h (by decide)⟩) pal3 pal4
 refine ⟨T, t1, fun x hx => ?_⟩
 have hx' : x = 0 ∨ x = 1 ∨ x = 2 ∨ x = 3 := by omega
 rcases hx' with rfl | rfl | rfl | rfl <;> exact t2 _ hx
theorem alive_is {a : Mv} {T : Nat → Dn} (h : IsM T a) (hT : ∀ x, x < 4 → T x = twoR ⟨false, 4, 0⟩ ⟨false, 1, 0⟩ x) : Is ⟨false, 4, 0⟩ a.S ∧ Is ⟨false, 1, 0⟩ a.W ∧ Is Dn.zero a.C ∧ Is Dn.zero a.A := by
 have k := h.of_eq (fun x hx => (hT x hx).symm)
 exact ⟨k 0 (by decide), k 1 (by decide), k 2 (by decide), k 3 (by decide)⟩
/-- Rows, not in a block. -/
def OffM (w : World) (g : Nat) (m : Mv) : Prop := MRows w 0 w.heap.size m ∧ RowsOff w g g m
theorem OffM.of {w : World} {lo hi g : Nat} {m : Mv} (h : MRows w lo hi m) (hh : hi ≤ w.heap.size) (h1 : g < lo ∨ hi ≤ g) : OffM w g m := ⟨h.more (Nat.zero_le _) hh, rows_or h h1 h1⟩
theorem OffM.far {w w' : World} {g : Nat} {m : Mv} (h : OffM w g m) (hf : ∀ k, k ≠ g → w'.heap[k]? = w.heap[k]?) (_h1 : w'.heap.size ≤ w.heap.size) (h2 : w.heap.size ≤ w'.heap.size) : MRows w' 0 w'.heap.size m := (h.2.far h.1 hf (.inl rfl)).more (Nat.le_refl _) h2
set_option maxHeartbeats 102400000 in
set_option maxRecDepth 100000 in
/-- headcountlaw15.alive. -/
theorem alive15_any (w : World) (hT : Tab w) : Calls Tryd.prog 28 #[] w fun e w' => e = .returned (.bool true) ∧ Below w.heap.size w w' := by
 have j0 : Below w.heap.size w w := Below.refl _ _
 go_enter Tryd.func28, Tryd.ntmps28
 go_wp2_with fail
 refine (Of_any w (6) (by decide) (by decide) false 6 rfl rfl).mono ?_
 rintro e' v1 ⟨A1, n1, rfl, j2, I1⟩
 try clear hw
 replace I1 := ints_all I1
 go_wp2_with fail
 refine (Of_any v1 (1) (by decide) (by decide) false 1 rfl rfl).mono ?_
 rintro e' v3 ⟨A2, n2, rfl, j4, I2⟩
 try clear hw
 replace I2 := ints_all I2
 obtain ⟨M1, hM1⟩ : ∃ M : Mv, M = ⟨⟨false, A1, n1, n1, 0, canon 4294967296 6⟩, ⟨false, A2, n2, n2, 0, canon 4294967296 1⟩, ZM.C, ZM.A⟩ := ⟨_, rfl⟩
 have R1 : MRows v3 0 v3.heap.size M1 := by
  rw [hM1]
  exact ⟨(ints_on I1 j4), I2, Ints.nil_ .., Ints.nil_ ..⟩
 have i1 : IsM (twoR ⟨false, 6, 0⟩ ⟨false, 1, 0⟩) M1 := by
  rw [hM1]
  exact twoR_is ⟨rfl, rfl, rfl⟩ ⟨rfl, rfl, rfl⟩
 have m1 : MayR (twoR ⟨false, 6, 0⟩ ⟨false, 1, 0⟩) := twoR_may (sm _ _ (by decide) (by decide) (by decide) (by decide)) (sm _ _ (by decide) (by decide) (by decide) (by decide))
 obtain ⟨kR, sR, g1, g2, g3⟩ := give_of R1 i1 m1 rfl (by decide) pal1 pal2
 have ge := Lib.hid g1
 have gk := Lib.hid g2
 have gs := Lib.hid g3
 clear g1 g2 g3 m1 i1
 subst hM1
 go_wp2_with fail
 refine (Give_num v3 ⟨⟨false, A1, n1, n1, 0, canon 4294967296 6⟩, ⟨false, A2, n2, n2, 0, canon 4294967296 1⟩, ZM.C, ZM.A⟩ R1 (tab_later hT (lz j2 j4)) kR sR 0 ge.out).mono ?_
 rintro e' v5 ⟨k, s, rfl, j6, ik, is, B, lb1, lb2, Rk, Rs⟩
 try clear hw
 replace ik := Lib.hid ik
 replace is := Lib.hid is
 clear R1
 replace Rk := Rk.more (Nat.zero_le _) lb2
 replace Rs := Rs.more (Nat.zero_le _) (Nat.le_refl _)
 clear lb1 lb2 ge
 obtain ⟨v7, hw, bk, bs, j8, s9_⟩ := alloc_mm v5 k s
 have s9 : v5.heap.size < v7.heap.size := by omega
 have s9b : v5.heap.size + 1 < v7.heap.size := by omega
 go_wp2_with fail
 try clear hw
 try clear hw
 refine region_E (Keeps v7) [] (m := 11) (L := #[zF,zF,zF,zF,zF,zF,zF,zF,zF,zF,zF]) (by kernel_rfl) (by rfl) (by rfl) ?_
 have j11 : Below v7.heap.size v7 v7.drew := (Below.refl _ _).drew
 generalize v7.drew = v10 at *
 have kpy12 : Keeps v7 v10 := fun p hp => Below.block j11 p hp
 refine readE (i := 3) (L := #[zF,zF,zF,zT,zF,zF,zF,zF,zF,zF,zF]) (v := .agg #[.bool s.S.s, .slice s.S.A s.S.n s.S.c, .int .i64 s.S.e, .bool s.W.s, .slice s.W.A s.W.n s.W.c, .int .i64 s.W.e, .bool s.C.s, .slice s.C.A s.C.n s.C.c, .int .i64 s.C.e, .bool s.A.s, .slice s.A.A s.A.n s.A.c, .int .i64 s.A.e]) rfl (by rfl) (by kernel_rfl) (by kernel_rfl) (by kernel_rfl) (fun _ _ _ h => h) (by assumption) (by rfl) ?y12 ?z13
 case y12 =>
  intro w' h1
  obtain ⟨⟨k0, k1, k2, k3, k4, k5, k6, k7, k8, k9, k10, k11⟩, kf⟩ := MBox.cells ((h1 _ s9b).trans bs)
  go_simp
 try simp only [Act.put, zp]
 refine E_of_C (fun (A : Act) a' w' => ∃ (v23 v24 v25 v27 v22 : Value) (g4 : Nat) (a : Mv), a' = ((((((((A.put (some 23) (v23)).put (some 24) (v24)).put (some 25) (v25)).put (some 27) (v27)).put (some 22) (v22)).put (some 28) (.agg #[.bool a.S.s, .slice a.S.A a.S.n a.S.c, .int .i64 a.S.e, .bool a.W.s, .slice a.W.A a.W.n a.W.c, .int .i64 a.W.e, .bool a.C.s, .slice a.C.A a.C.n a.C.c, .int .i64 a.C.e, .bool a.A.s, .slice a.A.A a.A.n a.A.c, .int .i64 a.A.e])).put (some 29) (.int .i64 0)).put (some 4) (.pointer (some ⟨g4, 0, none⟩))) ∧ v7.heap.size ≤ g4 ∧ MBox w' g4 ZM ∧ Below v7.heap.size v7 w' ∧ Hid (Is ⟨false, 4, 0⟩ a.S ∧ Is ⟨false, 1, 0⟩ a.W ∧ Is Dn.zero a.C ∧ Is Dn.zero a.A) ∧ OffM w' g4 a) #[zT,zT,zT,zT,zT,zT,zT,zT,zT,zF,zF] 2 ?leaf ?tree
 case tree =>
  have zv10 := Below.size j11
  refine stepC2 (i := 0) (j := 8) (Li := #[zT,zF,zF,zT,zF,zF,zF,zF,zF,zF,zF]) (Lj := #[zF,zF,zF,zT,zF,zF,zF,zF,zT,zF,zF]) rfl rfl (by rfl) (by rfl) (by kernel_rfl) (by rfl) (by rfl) (fun K hK => ?o1_0) (fun K hK => ?o1_8)
  case o1_0 =>
   go_simp
   go_at_call 25
   refine (Of_any v10 1 (by decide) (by decide) false 1 rfl rfl).mono ?_
   rintro e' v14 ⟨G1, m1, rfl, j15, J1⟩
   replace J1 := ints_all J1
   have zv14 := Below.size j15
   refine hK _ _ ⟨fun _ _ => fun p hp => Below.block (lz j11 j15) p hp, ?_⟩
   clear hK K
   try simp only [Act.put, zp]
   refine stepC2 (i := 1) (j := 8) (Li := #[zT,zT,zF,zT,zF,zF,zF,zF,zF,zF,zF]) (Lj := #[zT,zF,zF,zT,zF,zF,zF,zF,zT,zF,zF]) rfl rfl (by rfl) (by rfl) (by kernel_rfl) (by rfl) (by rfl) (fun K hK => ?o2_1) (fun K hK => ?o2_8)
   case o2_1 =>
    go_simp
    go_at_call 56
    refine (half15_any v14).mono ?_
    rintro e' v16 ⟨G2, m2, o2, rfl, j17, J2⟩
    replace J2 := ints_all J2
    have zv16 := Below.size j17
    refine hK _ _ ⟨fun _ _ => fun p hp => Below.block (lz j11 (lz j15 j17)) p hp, ?_⟩
    clear hK K
    try simp only [Act.put, zp]
    refine zC 2 #[zT,zT,zT,zT,zF,zF,zF,zF,zF,zF,zF] ?_ rfl ?hy26 ?rest26
    case hy26 => intro w; go_simp; (try with_reducible rfl)
    try simp only [Act.put, zp]
    refine stepC2 (i := 4) (j := 8) (Li := #[zT,zT,zT,zT,zT,zF,zF,zF,zF,zF,zF]) (Lj := #[zT,zT,zT,zT,zF,zF,zF,zF,zT,zF,zF]) rfl rfl (by rfl) (by rfl) (by kernel_rfl) (by rfl) (by rfl) (fun K hK => ?o3_4) (fun K hK => ?o3_8)
    case o3_4 =>
     go_simp
     have i2 : IsM (twoR ⟨false, 1, 0⟩ ⟨false, 1, 1⟩) ⟨⟨false, G1, m1, m1, 0, canon 4294967296 1⟩, ⟨false, G2, m2, o2, 1, canon 4294967296 1⟩, ZM.C, ZM.A⟩ := twoR_is ⟨rfl, rfl, rfl⟩ ⟨rfl, rfl, rfl⟩
     have R2 : MRows v16 0 v16.heap.size ⟨⟨false, G1, m1, m1, 0, canon 4294967296 1⟩, ⟨false, G2, m2, o2, 1, canon 4294967296 1⟩, ZM.C, ZM.A⟩ := ⟨(ints_on J1 j17), J2, Ints.nil_ .., Ints.nil_ ..⟩
     have R3 : MRows v16 0 v16.heap.size s := (MRows.on Rs (lz j8 (lz j11 (lz j15 j17))))
     obtain ⟨T, t1, t2⟩ := alive_take R2 R3 i2 is.out gs.out
     have mt := Lib.hid t2
     have tk := Lib.hid t1
     clear t1 t2 i2
     go_at_call 13
     refine (Take_num v16 ⟨⟨false, G1, m1, m1, 0, canon 4294967296 1⟩, ⟨false, G2, m2, o2, 1, canon 4294967296 1⟩, ZM.C, ZM.A⟩ s R2 R3 (tab_later hT (lz j2 (lz j4 (lz j6 (lz j8 (lz j11 (lz j15 j17))))))) T 0 tk.out).mono ?_
     rintro e' v18 ⟨a, rfl, j19, ia, Ra⟩
     replace ia := Lib.hid ia
     have zv18 := Below.size j19
     refine hK _ _ ⟨fun _ _ => fun p hp => Below.block (lz j11 (lz j15 (lz j17 j19))) p hp, ?_⟩
     clear hK K
     try simp only [Act.put, zp]
     refine zC 5 #[zT,zT,zT,zT,zT,zT,zF,zF,zF,zF,zF] ?_ rfl ?hy27 ?rest27
     case hy27 => intro w; go_simp; (try with_reducible rfl)
     try simp only [Act.put, zp]
     refine zC 6 #[zT,zT,zT,zT,zT,zT,zT,zF,zF,zF,zF] ?_ rfl ?hy28 ?rest28
     case hy28 => intro w; go_simp; (try with_reducible rfl)
     try simp only [Act.put, zp]
     refine zC 7 #[zT,zT,zT,zT,zT,zT,zT,zT,zF,zF,zF] ?_ rfl ?hy29 ?rest29
     case hy29 => intro w; go_simp; (try with_reducible rfl)
     try simp only [Act.put, zp]
     refine stepC (i := 8) (L := #[zT,zT,zT,zT,zT,zT,zT,zT,zT,zF,zF]) rfl (by rfl) (by kernel_rfl) (by rfl) (fun K hK => ?_)
     go_simp
     obtain ⟨v20, hc_, bz, j21, s22⟩ := alloc_z v18
     rw [hc_]
     clear hc_
     have zv20 := Below.size j21
     refine hK _ _ ⟨fun _ _ => fun p hp => Below.block (lz j11 (lz j15 (lz j17 (lz j19 j21)))) p hp, ?_⟩
     clear hK K
     try simp only [Act.put, zp]
     exact leafC ⟨.agg #[.bool false, .slice G1 m1 m1, .int .i64 0], .agg #[.bool false, .slice G2 m2 o2, .int .i64 1], .agg #[.bool false, .slice G1 m1 m1, .int .i64 0, .bool false, .slice G2 m2 o2, .int .i64 1, .bool false, .slice none 0 0, .int .i64 0, .bool false, .slice none 0 0, .int .i64 0], .tuple #[.agg #[.bool a.S.s, .slice a.S.A a.S.n a.S.c, .int .i64 a.S.e, .bool a.W.s, .slice a.W.A a.W.n a.W.c, .int .i64 a.W.e, .bool a.C.s, .slice a.C.A a.C.n a.C.c, .int .i64 a.C.e, .bool a.A.s, .slice a.A.A a.A.n a.A.c, .int .i64 a.A.e], .int .i64 0], .tuple #[.agg #[.bool a.S.s, .slice a.S.A a.S.n a.S.c, .int .i64 a.S.e, .bool a.W.s, .slice a.W.A a.W.n a.W.c, .int .i64 a.W.e, .bool a.C.s, .slice a.C.A a.C.n a.C.c, .int .i64 a.C.e, .bool a.A.s, .slice a.A.A a.A.n a.A.c, .int .i64 a.A.e], .int .i64 0], v18.heap.size, a, rfl, by omega, bz, (lz j11 (lz j15 (lz j17 (lz j19 j21)))), Lib.hid (alive_is ia.out mt.out), OffM.of (Ra.below j21 (Nat.le_refl _)) (by omega) (by omega)⟩
    case o3_8 =>
     go_simp
     obtain ⟨v23, hc_, bz, j24, s25⟩ := alloc_z v16
     rw [hc_]
     clear hc_
     have zv23 := Below.size j24
     refine hK _ _ ⟨fun _ _ => fun p hp => Below.block (lz j11 (lz j15 (lz j17 j24))) p hp, ?_⟩
     clear hK K
     try simp only [Act.put, zp]
     refine stepC (i := 4) (L := #[zT,zT,zT,zT,zT,zF,zF,zF,zT,zF,zF]) rfl (by rfl) (by kernel_rfl) (by rfl) (fun K hK => ?_)
     go_simp
     have i2 : IsM (twoR ⟨false, 1, 0⟩ ⟨false, 1, 1⟩) ⟨⟨false, G1, m1, m1, 0, canon 4294967296 1⟩, ⟨false, G2, m2, o2, 1, canon 4294967296 1⟩, ZM.C, ZM.A⟩ := twoR_is ⟨rfl, rfl, rfl⟩ ⟨rfl, rfl, rfl⟩
     have R2 : MRows v23 0 v23.heap.size ⟨⟨false, G1, m1, m1, 0, canon 4294967296 1⟩, ⟨false, G2, m2, o2, 1, canon 4294967296 1⟩, ZM.C, ZM.A⟩ := ⟨(ints_on J1 (lz j17 j24)), (ints_on J2 j24), Ints.nil_ .., Ints.nil_ ..⟩
     have R3 : MRows v23 0 v23.heap.size s := (MRows.on Rs (lz j8 (lz j11 (lz j15 (lz j17 j24)))))
     obtain ⟨T, t1, t2⟩ := alive_take R2 R3 i2 is.out gs.out
     have mt := Lib.hid t2
     have tk := Lib.hid t1
     clear t1 t2 i2
     go_at_call 13
     refine (Take_num v23 ⟨⟨false, G1, m1, m1, 0, canon 4294967296 1⟩, ⟨false, G2, m2, o2, 1, canon 4294967296 1⟩, ZM.C, ZM.A⟩ s R2 R3 (tab_later hT (lz j2 (lz j4 (lz j6 (lz j8 (lz j11 (lz j15 (lz j17 j24)))))))) T 0 tk.out).mono ?_
     rintro e' v26 ⟨a, rfl, j27, ia, Ra⟩
     replace ia := Lib.hid ia
     have zv26 := Below.size j27
     refine hK _ _ ⟨fun _ _ => fun p hp => Below.block (lz j11 (lz j15 (lz j17 (lz j24 j27)))) p hp, ?_⟩
     clear hK K
     try simp only [Act.put, zp]
     refine zC 5 #[zT,zT,zT,zT,zT,zT,zF,zF,zT,zF,zF] ?_ rfl ?hy32 ?rest32
     case hy32 => intro w; go_simp; (try with_reducible rfl)
     try simp only [Act.put, zp]
     refine zC 6 #[zT,zT,zT,zT,zT,zT,zT,zF,zT,zF,zF] ?_ rfl ?hy33 ?rest33
     case hy33 => intro w; go_simp; (try with_reducible rfl)
     try simp only [Act.put, zp]
     refine zC 7 #[zT,zT,zT,zT,zT,zT,zT,zT,zT,zF,zF] ?_ rfl ?hy34 ?rest34
     case hy34 => intro w; go_simp; (try with_reducible rfl)
     try simp only [Act.put, zp]
     exact leafC ⟨.agg #[.bool false, .slice G1 m1 m1, .int .i64 0], .agg #[.bool false, .slice G2 m2 o2, .int .i64 1], .agg #[.bool false, .slice G1 m1 m1, .int .i64 0, .bool false, .slice G2 m2 o2, .int .i64 1, .bool false, .slice none 0 0, .int .i64 0, .bool false, .slice none 0 0, .int .i64 0], .tuple #[.agg #[.bool a.S.s, .slice a.S.A a.S.n a.S.c, .int .i64 a.S.e, .bool a.W.s, .slice a.W.A a.W.n a.W.c, .int .i64 a.W.e, .bool a.C.s, .slice a.C.A a.C.n a.C.c, .int .i64 a.C.e, .bool a.A.s, .slice a.A.A a.A.n a.A.c, .int .i64 a.A.e], .int .i64 0], .tuple #[.agg #[.bool a.S.s, .slice a.S.A a.S.n a.S.c, .int .i64 a.S.e, .bool a.W.s, .slice a.W.A a.W.n a.W.c, .int .i64 a.W.e, .bool a.C.s, .slice a.C.A a.C.n a.C.c, .int .i64 a.C.e, .bool a.A.s, .slice a.A.A a.A.n a.A.c, .int .i64 a.A.e], .int .i64 0], v16.heap.size, a, rfl, by omega, (box_later bz j27 s25), (lz j11 (lz j15 (lz j17 (lz j24 j27)))), Lib.hid (alive_is ia.out mt.out), OffM.of Ra (by omega) (by omega)⟩
   case o2_8 =>
    go_simp
    obtain ⟨v28, hc_, bz, j29, s30⟩ := alloc_z v14
    rw [hc_]
    clear hc_
    have zv28 := Below.size j29
    refine hK _ _ ⟨fun _ _ => fun p hp => Below.block (lz j11 (lz j15 j29)) p hp, ?_⟩
    clear hK K
    try simp only [Act.put, zp]
    refine stepC (i := 1) (L := #[zT,zT,zF,zT,zF,zF,zF,zF,zT,zF,zF]) rfl (by rfl) (by kernel_rfl) (by rfl) (fun K hK => ?_)
    go_simp
    go_at_call 56
    refine (half15_any v28).mono ?_
    rintro e' v31 ⟨G2, m2, o2, rfl, j32, J2⟩
    replace J2 := ints_all J2
    have zv31 := Below.size j32
    refine hK _ _ ⟨fun _ _ => fun p hp => Below.block (lz j11 (lz j15 (lz j29 j32))) p hp, ?_⟩
    clear hK K
    try simp only [Act.put, zp]
    refine zC 2 #[zT,zT,zT,zT,zF,zF,zF,zF,zT,zF,zF] ?_ rfl ?hy36 ?rest36
    case hy36 => intro w; go_simp; (try with_reducible rfl)
    try simp only [Act.put, zp]
    refine stepC (i := 4) (L := #[zT,zT,zT,zT,zT,zF,zF,zF,zT,zF,zF]) rfl (by rfl) (by kernel_rfl) (by rfl) (fun K hK => ?_)
    go_simp
    have i2 : IsM (twoR ⟨false, 1, 0⟩ ⟨false, 1, 1⟩) ⟨⟨false, G1, m1, m1, 0, canon 4294967296 1⟩, ⟨false, G2, m2, o2, 1, canon 4294967296 1⟩, ZM.C, ZM.A⟩ := twoR_is ⟨rfl, rfl, rfl⟩ ⟨rfl, rfl, rfl⟩
    have R2 : MRows v31 0 v31.heap.size ⟨⟨false, G1, m1, m1, 0, canon 4294967296 1⟩, ⟨false, G2, m2, o2, 1, canon 4294967296 1⟩, ZM.C, ZM.A⟩ := ⟨(ints_on J1 (lz j29 j32)), J2, Ints.nil_ .., Ints.nil_ ..⟩
    have R3 : MRows v31 0 v31.heap.size s := (MRows.on Rs (lz j8 (lz j11 (lz j15 (lz j29 j32)))))
    obtain ⟨T, t1, t2⟩ := alive_take R2 R3 i2 is.out gs.out
    have mt := Lib.hid t2
    have tk := Lib.hid t1
    clear t1 t2 i2
    go_at_call 13
    refine (Take_num v31 ⟨⟨false, G1, m1, m1, 0, canon 4294967296 1⟩, ⟨false, G2, m2, o2, 1, canon 4294967296 1⟩, ZM.C, ZM.A⟩ s R2 R3 (tab_later hT (lz j2 (lz j4 (lz j6 (lz j8 (lz j11 (lz j15 (lz j29 j32)))))))) T 0 tk.out).mono ?_
    rintro e' v33 ⟨a, rfl, j34, ia, Ra⟩
    replace ia := Lib.hid ia
    have zv33 := Below.size j34
    refine hK _ _ ⟨fun _ _ => fun p hp => Below.block (lz j11 (lz j15 (lz j29 (lz j32 j34)))) p hp, ?_⟩
    clear hK K
    try simp only [Act.put, zp]
    refine zC 5 #[zT,zT,zT,zT,zT,zT,zF,zF,zT,zF,zF] ?_ rfl ?hy38 ?rest38
    case hy38 => intro w; go_simp; (try with_reducible rfl)
    try simp only [Act.put, zp]
    refine zC 6 #[zT,zT,zT,zT,zT,zT,zT,zF,zT,zF,zF] ?_ rfl ?hy39 ?rest39
    case hy39 => intro w; go_simp; (try with_reducible rfl)
    try simp only [Act.put, zp]
    refine zC 7 #[zT,zT,zT,zT,zT,zT,zT,zT,zT,zF,zF] ?_ rfl ?hy40 ?rest40
    case hy40 => intro w; go_simp; (try with_reducible rfl)
    try simp only [Act.put, zp]
    exact leafC ⟨.agg #[.bool false, .slice G1 m1 m1, .int .i64 0], .agg #[.bool false, .slice G2 m2 o2, .int .i64 1], .agg #[.bool false, .slice G1 m1 m1, .int .i64 0, .bool false, .slice G2 m2 o2, .int .i64 1, .bool false, .slice none 0 0, .int .i64 0, .bool false, .slice none 0 0, .int .i64 0], .tuple #[.agg #[.bool a.S.s, .slice a.S.A a.S.n a.S.c, .int .i64 a.S.e, .bool a.W.s, .slice a.W.A a.W.n a.W.c, .int .i64 a.W.e, .bool a.C.s, .slice a.C.A a.C.n a.C.c, .int .i64 a.C.e, .bool a.A.s, .slice a.A.A a.A.n a.A.c, .int .i64 a.A.e], .int .i64 0], .tuple #[.agg #[.bool a.S.s, .slice a.S.A a.S.n a.S.c, .int .i64 a.S.e, .bool a.W.s, .slice a.W.A a.W.n a.W.c, .int .i64 a.W.e, .bool a.C.s, .slice a.C.A a.C.n a.C.c, .int .i64 a.C.e, .bool a.A.s, .slice a.A.A a.A.n a.A.c, .int .i64 a.A.e], .int .i64 0], v14.heap.size, a, rfl, by omega, (box_later bz (lz j32 j34) s30), (lz j11 (lz j15 (lz j29 (lz j32 j34)))), Lib.hid (alive_is ia.out mt.out), OffM.of Ra (by omega) (by omega)⟩
  case o1_8 =>
   go_simp
   obtain ⟨v35, hc_, bz, j36, s37⟩ := alloc_z v10
   rw [hc_]
   clear hc_
   have zv35 := Below.size j36
   refine hK _ _ ⟨fun _ _ => fun p hp => Below.block (lz j11 j36) p hp, ?_⟩
   clear hK K
   try simp only [Act.put, zp]
   refine stepC (i := 0) (L := #[zT,zF,zF,zT,zF,zF,zF,zF,zT,zF,zF]) rfl (by rfl) (by kernel_rfl) (by rfl) (fun K hK => ?_)
   go_simp
   go_at_call 25
   refine (Of_any v35 1 (by decide) (by decide) false 1 rfl rfl).mono ?_
   rintro e' v38 ⟨G1, m1, rfl, j39, J1⟩
   replace J1 := ints_all J1
   have zv38 := Below.size j39
   refine hK _ _ ⟨fun _ _ => fun p hp => Below.block (lz j11 (lz j36 j39)) p hp, ?_⟩
   clear hK K
   try simp only [Act.put, zp]
   refine stepC (i := 1) (L := #[zT,zT,zF,zT,zF,zF,zF,zF,zT,zF,zF]) rfl (by rfl) (by kernel_rfl) (by rfl) (fun K hK => ?_)
   go_simp
   go_at_call 56
   refine (half15_any v38).mono ?_
   rintro e' v40 ⟨G2, m2, o2, rfl, j41, J2⟩
   replace J2 := ints_all J2
   have zv40 := Below.size j41
   refine hK _ _ ⟨fun _ _ => fun p hp => Below.block (lz j11 (lz j36 (lz j39 j41))) p hp, ?_⟩
   clear hK K
   try simp only [Act.put, zp]
   refine zC 2 #[zT,zT,zT,zT,zF,zF,zF,zF,zT,zF,zF] ?_ rfl ?hy43 ?rest43
   case hy43 => intro w; go_simp; (try with_reducible rfl)
   try simp only [Act.put, zp]
   refine stepC (i := 4) (L := #[zT,zT,zT,zT,zT,zF,zF,zF,zT,zF,zF]) rfl (by rfl) (by kernel_rfl) (by rfl) (fun K hK => ?_)
   go_simp
   have i2 : IsM (twoR ⟨false, 1, 0⟩ ⟨false, 1, 1⟩) ⟨⟨false, G1, m1, m1, 0, canon 4294967296 1⟩, ⟨false, G2, m2, o2, 1, canon 4294967296 1⟩, ZM.C, ZM.A⟩ := twoR_is ⟨rfl, rfl, rfl⟩ ⟨rfl, rfl, rfl⟩
   have R2 : MRows v40 0 v40.heap.size ⟨⟨false, G1, m1, m1, 0, canon 4294967296 1⟩, ⟨false, G2, m2, o2, 1, canon 4294967296 1⟩, ZM.C, ZM.A⟩ := ⟨(ints_on J1 j41), J2, Ints.nil_ .., Ints.nil_ ..⟩
   have R3 : MRows v40 0 v40.heap.size s := (MRows.on Rs (lz j8 (lz j11 (lz j36 (lz j39 j41)))))
   obtain ⟨T, t1, t2⟩ := alive_take R2 R3 i2 is.out gs.out
   have mt := Lib.hid t2
   have tk := Lib.hid t1
   clear t1 t2 i2
   go_at_call 13
   refine (Take_num v40 ⟨⟨false, G1, m1, m1, 0, canon 4294967296 1⟩, ⟨false, G2, m2, o2, 1, canon 4294967296 1⟩, ZM.C, ZM.A⟩ s R2 R3 (tab_later hT (lz j2 (lz j4 (lz j6 (lz j8 (lz j11 (lz j36 (lz j39 j41)))))))) T 0 tk.out).mono ?_
   rintro e' v42 ⟨a, rfl, j43, ia, Ra⟩
   replace ia := Lib.hid ia
   have zv42 := Below.size j43
   refine hK _ _ ⟨fun _ _ => fun p hp => Below.block (lz j11 (lz j36 (lz j39 (lz j41 j43)))) p hp, ?_⟩
   clear hK K
   try simp only [Act.put, zp]
   refine zC 5 #[zT,zT,zT,zT,zT,zT,zF,zF,zT,zF,zF] ?_ rfl ?hy45 ?rest45
   case hy45 => intro w; go_simp; (try with_reducible rfl)
   try simp only [Act.put, zp]
   refine zC 6 #[zT,zT,zT,zT,zT,zT,zT,zF,zT,zF,zF] ?_ rfl ?hy46 ?rest46
   case hy46 => intro w; go_simp; (try with_reducible rfl)
   try simp only [Act.put, zp]
   refine zC 7 #[zT,zT,zT,zT,zT,zT,zT,zT,zT,zF,zF] ?_ rfl ?hy47 ?rest47
   case hy47 => intro w; go_simp; (try with_reducible rfl)
   try simp only [Act.put, zp]
   exact leafC ⟨.agg #[.bool false, .slice G1 m1 m1, .int .i64 0], .agg #[.bool false, .slice G2 m2 o2, .int .i64 1], .agg #[.bool false, .slice G1 m1 m1, .int .i64 0, .bool false, .slice G2 m2 o2, .int .i64 1, .bool false, .slice none 0 0, .int .i64 0, .bool false, .slice none 0 0, .int .i64 0], .tuple #[.agg #[.bool a.S.s, .slice a.S.A a.S.n a.S.c, .int .i64 a.S.e, .bool a.W.s, .slice a.W.A a.W.n a.W.c, .int .i64 a.W.e, .bool a.C.s, .slice a.C.A a.C.n a.C.c, .int .i64 a.C.e, .bool a.A.s, .slice a.A.A a.A.n a.A.c, .int .i64 a.A.e], .int .i64 0], .tuple #[.agg #[.bool a.S.s, .slice a.S.A a.S.n a.S.c, .int .i64 a.S.e, .bool a.W.s, .slice a.W.A a.W.n a.W.c, .int .i64 a.W.e, .bool a.C.s, .slice a.C.A a.C.n a.C.c, .int .i64 a.C.e, .bool a.A.s, .slice a.A.A a.A.n a.A.c, .int .i64 a.A.e], .int .i64 0], v10.heap.size, a, rfl, by omega, (box_later bz (lz j39 (lz j41 j43)) s37), (lz j11 (lz j36 (lz j39 (lz j41 j43)))), Lib.hid (alive_is ia.out mt.out), OffM.of Ra (by omega) (by omega)⟩
 case leaf =>
  rintro a' w' ⟨v23, v24, v25, v27, v22, g4, a, rfl, lg4, bz, bw, ia, OA⟩
  try simp only [Act.put, zp]
  have lt4 := lt_of_heap bz
  have kp_ : Keeps v7 w' := fun p hp => Below.block bw p hp
  obtain ⟨⟨z0, z1, z2, z3, z4, z5, z6, z7, z8, z9, z10, z11⟩, zf⟩ := MBox.cells bz
  refine stepK (i := 9) (L := #[zT,zT,zT,zT,zT,zT,zT,zT,zT,zT,zF]) rfl (by rfl) (by kernel_rfl) (by rfl) (fun K hK => ?_)
  go_simp
  obtain ⟨U, hc_, ba, hb_, hf_, l5, l5'⟩ := all_to bz a
  rw [hc_]
  clear hc_ z0 z1 z2 z3 z4 z5 z6 z7 z8 z9 z10 z11 zf
  replace kp_ : Keeps v7 U := fun p hp => (hf_ p (by omega)).trans (kp_ p hp)
  replace bw := hb_ _ _ bw (by omega)
  have Ra := OA.far hf_ l5 l5'
  refine hK _ _ ⟨fun _ _ => kp_, ?_⟩
  clear hK K kp_ hf_ hb_ bz OA
  try simp only [Act.put, zp]
  refine zE 10 #[zT,zT,zT,zT,zT,zT,zT,zT,zT,zT,zT] ?_ rfl ?hy49 ?rest49
  case hy49 => intro w; go_simp; (try with_reducible rfl)
  try simp only [Act.put, zp]
  refine doneE (by kernel_rfl) ?_ _
  have sa : g4 < U.heap.size := lt_of_heap ba
  obtain ⟨ia0, ia1, ia2, ia3⟩ := ia.out
  have iA : IsM (twoR ⟨false, 4, 0⟩ ⟨false, 1, 0⟩) a := four ia0 ia1 ia2 ia3
  have mA : MayR (twoR ⟨false, 4, 0⟩ ⟨false, 1, 0⟩) := twoR_may (sm _ _ (by decide) (by decide) (by decide) (by decide)) (sm _ _ (by decide) (by decide) (by decide) (by decide))
  have sA : a.share := (share_is Ra iA mA).2 ⟨rfl, fun h => absurd h (by decide)⟩
  have E1 := Lib.hid (mean_of Ra iA mA rfl (by decide) (k := 3) (by decide) (by decide) (pal5 _) (pal5 _))
  have E2 := Lib.hid (between_of Ra iA sA (low := 2) (high := 6) (by decide) (by decide) (by decide) (b := true) ⟨fun _ => pal8, fun _ => rfl⟩)
  replace iA := Lib.hid iA
  clear ia0 ia1 ia2 ia3 ia sA mA
  obtain ⟨⟨q440, q441, q442, q443, q444, q445, q446, q447, q448, q449, q4410, q4411⟩, q44f⟩ := MBox.cells ba
  go_wp2_with fail
  refine (Mean_num U a 3 Ra ⟨false, 4, 0⟩ ⟨false, 4, 0⟩ 0 E1.out).mono ?_
  rintro e' v45 ⟨X, Y, rfl, j46, iX, iY, B1, lx1, lx2, RX, RY⟩
  clear q440 q441 q442 q443 q444 q445 q446 q447 q448 q449 q4410 q4411 q44f
  try clear hw
  replace iX := Lib.hid iX
  replace iY := Lib.hid iY
  replace RX := RX.more (Nat.zero_le _) lx2
  replace RY := RY.more (Nat.zero_le _) (Nat.le_refl _)
  clear lx1 lx2
  obtain ⟨v47, hw⟩ : ∃ U, (v45.alloc (.cells #[.bool X.s, .slice X.A X.n X.c, .int .i64 X.e] 24)).alloc (.cells #[.bool Y.s, .slice Y.A Y.n Y.c, .int .i64 Y.e] 24) = U := ⟨_, rfl⟩
  obtain ⟨bx, byy, j48, s49_, s49__⟩ := boxes2 v45 _ _ hw
  replace j48 : Below v45.heap.size v45 v47 := j48
  replace bx : v47.heap[v45.heap.size]? = some (.cells #[.bool X.s, .slice X.A X.n X.c, .int .i64 X.e] 24 (0, 0)) := bx
  replace byy : v47.heap[v45.heap.size + 1]? = some (.cells #[.bool Y.s, .slice Y.A Y.n Y.c, .int .i64 Y.e] 24 (0, 0)) := byy
  have s49 : v45.heap.size < v47.heap.size := by omega
  have s49b : v45.heap.size + 1 < v47.heap.size := by omega
  go_wp2_with fail
  refine (Of_any v47 (1) (by decide) (by decide) false 1 rfl rfl).mono ?_
  rintro e' v50 ⟨A3, n3, rfl, j51, I3⟩
  try clear hw
  replace I3 := ints_all I3
  go_wp2_with fail
  refine (Of_any v50 (3) (by decide) (by decide) false 3 rfl rfl).mono ?_
  rintro e' v52 ⟨A4, n4, rfl, j53, I4⟩
  try clear hw
  replace I4 := ints_all I4
  have i3 : IsM (twoR ⟨false, 1, 0⟩ ⟨false, 3, 0⟩) ⟨⟨false, A3, n3, n3, 0, canon 4294967296 1⟩, ⟨false, A4, n4, n4, 0, canon 4294967296 3⟩, ZM.C, ZM.A⟩ := twoR_is ⟨rfl, rfl, rfl⟩ ⟨rfl, rfl, rfl⟩
  have m3 : MayR (twoR ⟨false, 1, 0⟩ ⟨false, 3, 0⟩) := twoR_may (sm _ _ (by decide) (by decide) (by decide) (by decide)) (sm _ _ (by decide) (by decide) (by decide) (by decide))
  have R3 : MRows v52 0 v52.heap.size ⟨⟨false, A3, n3, n3, 0, canon 4294967296 1⟩, ⟨false, A4, n4, n4, 0, canon 4294967296 3⟩, ZM.C, ZM.A⟩ := ⟨(ints_on I3 j53), I4, Ints.nil_ .., Ints.nil_ ..⟩
  have E3 := Lib.hid (mean_of R3 i3 m3 rfl (by decide) (k := 2) (by decide) (by decide) pal6 pal7)
  clear i3 m3
  go_wp2_with fail
  refine (Mean_num v52 ⟨⟨false, A3, n3, n3, 0, canon 4294967296 1⟩, ⟨false, A4, n4, n4, 0, canon 4294967296 3⟩, ZM.C, ZM.A⟩ 2 R3 ⟨false, 1, 2⟩ ⟨false, 1, 1⟩ 0 E3.out).mono ?_
  rintro e' v54 ⟨P, Q, rfl, j55, iP, iQ, B2, ly1, ly2, RP, RQ⟩
  try clear hw
  replace iP := Lib.hid iP
  replace iQ := Lib.hid iQ
  replace RP := RP.more (Nat.zero_le _) ly2
  replace RQ := RQ.more (Nat.zero_le _) (Nat.le_refl _)
  clear ly1 ly2 R3
  obtain ⟨v56, hw⟩ : ∃ U, (v54.alloc (.cells #[.bool P.s, .slice P.A P.n P.c, .int .i64 P.e] 24)).alloc (.cells #[.bool Q.s, .slice Q.A Q.n Q.c, .int .i64 Q.e] 24) = U := ⟨_, rfl⟩
  obtain ⟨bp, bq, j57, s58_, s58__⟩ := boxes2 v54 _ _ hw
  replace j57 : Below v54.heap.size v54 v56 := j57
  replace bp : v56.heap[v54.heap.size]? = some (.cells #[.bool P.s, .slice P.A P.n P.c, .int .i64 P.e] 24 (0, 0)) := bp
  replace bq : v56.heap[v54.heap.size + 1]? = some (.cells #[.bool Q.s, .slice Q.A Q.n Q.c, .int .i64 Q.e] 24 (0, 0)) := bq
  have s58 : v54.heap.size < v56.heap.size := by omega
  have s58b : v54.heap.size + 1 < v56.heap.size := by omega
  obtain ⟨⟨q590, q591, q592, q593, q594, q595, q596, q597, q598, q599, q5910, q5911⟩, q59f⟩ := MBox.cells (box_later ba (lz j46 (lz j48 (lz j51 (lz j53 (lz j55 j57))))) sa)
  go_wp2_with fail
  refine (Between_num v56 a 2 6 (by decide) (by decide) (MRows.on Ra (lz j46 (lz j48 (lz j51 (lz j53 (lz j55 j57)))))) (tab_later hT (lz j2 (lz j4 (lz j6 (lz j8 (lz bw (lz j46 (lz j48 (lz j51 (lz j53 (lz j55 j57))))))))))) true 0 E2.out).mono ?_
  rintro e' v60 ⟨rfl, j61⟩
  clear q590 q591 q592 q593 q594 q595 q596 q597 q598 q599 q5910 q5911 q59f
  try clear hw
  go_wp2_with fail
  try clear hw
  try clear hw
  refine region_E (Keeps v60) [] (m := 62) (L := #[zF,zF,zF,zF,zF,zF,zF,zF,zF,zF,zF,zF,zF,zF,zF,zF,zF,zF,zF,zF,zF,zF,zF,zF,zF,zF,zF,zF,zF,zF,zF,zF,zF,zF,zF,zF,zF,zF,zF,zF,zF,zF,zF,zF,zF,zF,zF,zF,zF,zF,zF,zF,zF,zF,zF,zF,zF,zF,zF,zF,zF,zF]) (by kernel_rfl) (by rfl) (by rfl) ?_
  have j63 : Below v60.heap.size v60 v60.drew := (Below.refl _ _).drew
  generalize v60.drew = v62 at *
  refine zE 0 #[zT,zF,zF,zF,zF,zF,zF,zF,zF,zF,zF,zF,zF,zF,zF,zF,zF,zF,zF,zF,zF,zF,zF,zF,zF,zF,zF,zF,zF,zF,zF,zF,zF,zF,zF,zF,zF,zF,zF,zF,zF,zF,zF,zF,zF,zF,zF,zF,zF,zF,zF,zF,zF,zF,zF,zF,zF,zF,zF,zF,zF,zF] ?_ rfl ?hy50 ?rest50
  case hy50 => intro w; go_simp; (try with_reducible rfl)
  try simp only [Act.put, zp]
  refine zE 1 #[zT,zT,zF,zF,zF,zF,zF,zF,zF,zF,zF,zF,zF,zF,zF,zF,zF,zF,zF,zF,zF,zF,zF,zF,zF,zF,zF,zF,zF,zF,zF,zF,zF,zF,zF,zF,zF,zF,zF,zF,zF,zF,zF,zF,zF,zF,zF,zF,zF,zF,zF,zF,zF,zF,zF,zF,zF,zF,zF,zF,zF,zF] ?_ rfl ?hy51 ?rest51
  case hy51 => intro w; go_simp; (try with_reducible rfl)
  try simp only [Act.put, zp]
  refine zE 2 #[zT,zT,zT,zF,zF,zF,zF,zF,zF,zF,zF,zF,zF,zF,zF,zF,zF,zF,zF,zF,zF,zF,zF,zF,zF,zF,zF,zF,zF,zF,zF,zF,zF,zF,zF,zF,zF,zF,zF,zF,zF,zF,zF,zF,zF,zF,zF,zF,zF,zF,zF,zF,zF,zF,zF,zF,zF,zF,zF,zF,zF,zF] ?_ rfl ?hy52 ?rest52
  case hy52 => intro w; go_simp; (try with_reducible rfl)
  try simp only [Act.put, zp]
  have kpy64 : Keeps v60 v62 := fun p hp => Below.block j63 p hp
  refine readE (i := 3) (L := #[zT,zT,zT,zT,zF,zF,zF,zF,zF,zF,zF,zF,zF,zF,zF,zF,zF,zF,zF,zF,zF,zF,zF,zF,zF,zF,zF,zF,zF,zF,zF,zF,zF,zF,zF,zF,zF,zF,zF,zF,zF,zF,zF,zF,zF,zF,zF,zF,zF,zF,zF,zF,zF,zF,zF,zF,zF,zF,zF,zF,zF,zF]) (v := .agg #[.bool k.S.s, .slice k.S.A k.S.n k.S.c, .int .i64 k.S.e, .bool k.W.s, .slice k.W.A k.W.n k.W.c, .int .i64 k.W.e, .bool k.C.s, .slice k.C.A k.C.n k.C.c, .int .i64 k.C.e, .bool k.A.s, .slice k.A.A k.A.n k.A.c, .int .i64 k.A.e]) rfl (by rfl) (by kernel_rfl) (by kernel_rfl) (by kernel_rfl) (fun _ _ _ h => h) (by assumption) (by rfl) ?y64 ?z65
  case y64 =>
   intro w' h1
   obtain ⟨⟨k0, k1, k2, k3, k4, k5, k6, k7, k8, k9, k10, k11⟩, kf⟩ := MBox.cells ((h1 _ (Nat.lt_of_lt_of_le s9 (Below.size (lz bw (lz j46 (lz j48 (lz j51 (lz j53 (lz j55 (lz j57 j61)))))))))).trans (box_later bk (lz bw (lz j46 (lz j48 (lz j51 (lz j53 (lz j55 (lz j57 j61))))))) s9))
   go_simp
  try simp only [Act.put, zp]
  refine stepK (i := 4) (L := #[zT,zT,zT,zT,zT,zF,zF,zF,zF,zF,zF,zF,zF,zF,zF,zF,zF,zF,zF,zF,zF,zF,zF,zF,zF,zF,zF,zF,zF,zF,zF,zF,zF,zF,zF,zF,zF,zF,zF,zF,zF,zF,zF,zF,zF,zF,zF,zF,zF,zF,zF,zF,zF,zF,zF,zF,zF,zF,zF,zF,zF,zF]) rfl (by rfl) (by kernel_rfl) (by rfl) (fun K hK => ?_)
  go_simp
  go_at_call 25
  refine (Of_any v62 3 (by decide) (by decide) false 3 rfl rfl).mono ?_
  rintro e' v66 ⟨A5, n5, rfl, j67, I5⟩
  replace I5 := ints_all I5
  refine hK _ _ ⟨fun _ _ => fun p hp => Below.block (lz j63 j67) p hp, ?_⟩
  clear hK K
  try simp only []
  refine stepK (i := 5) (L := #[zT,zT,zT,zT,zT,zT,zF,zF,zF,zF,zF,zF,zF,zF,zF,zF,zF,zF,zF,zF,zF,zF,zF,zF,zF,zF,zF,zF,zF,zF,zF,zF,zF,zF,zF,zF,zF,zF,zF,zF,zF,zF,zF,zF,zF,zF,zF,zF,zF,zF,zF,zF,zF,zF,zF,zF,zF,zF,zF,zF,zF,zF]) rfl (by rfl) (by kernel_rfl) (by rfl) (fun K hK => ?_)
  go_simp
  go_at_call 56
  refine (half15_any v66).mono ?_
  rintro e' v68 ⟨A6, n6, o6, rfl, j69, I6⟩
  replace I6 := ints_all I6
  refine hK _ _ ⟨fun _ _ => fun p hp => Below.block (lz j63 (lz j67 j69)) p hp, ?_⟩
  clear hK K
  try simp only []
  refine zE 6 #[zT,zT,zT,zT,zT,zT,zT,zF,zF,zF,zF,zF,zF,zF,zF,zF,zF,zF,zF,zF,zF,zF,zF,zF,zF,zF,zF,zF,zF,zF,zF,zF,zF,zF,zF,zF,zF,zF,zF,zF,zF,zF,zF,zF,zF,zF,zF,zF,zF,zF,zF,zF,zF,zF,zF,zF,zF,zF,zF,zF,zF,zF] ?_ rfl ?hy56 ?rest56
  case hy56 => intro w; go_simp; (try with_reducible rfl)
  try simp only [Act.put, zp]
  have i5 : IsM (twoR ⟨false, 3, 0⟩ ⟨false, 1, 1⟩) ⟨⟨false, A5, n5, n5, 0, canon 4294967296 3⟩, ⟨false, A6, n6, o6, 1, canon 4294967296 1⟩, ZM.C, ZM.A⟩ := twoR_is ⟨rfl, rfl, rfl⟩ ⟨rfl, rfl, rfl⟩
  have ik2 := Lib.hid (alive_k ik.out gk.out)
  have is2 := Lib.hid (alive_k is.out gs.out)
  refine stepK (i := 7) (L := #[zT,zT,zT,zT,zT,zT,zT,zT,zF,zF,zF,zF,zF,zF,zF,zF,zF,zF,zF,zF,zF,zF,zF,zF,zF,zF,zF,zF,zF,zF,zF,zF,zF,zF,zF,zF,zF,zF,zF,zF,zF,zF,zF,zF,zF,zF,zF,zF,zF,zF,zF,zF,zF,zF,zF,zF,zF,zF,zF,zF,zF,zF]) rfl (by rfl) (by kernel_rfl) (by rfl) (fun K hK => ?_)
  go_simp
  go_at_call 32
  refine (MSame_any v68 k ⟨⟨false, A5, n5, n5, 0, canon 4294967296 3⟩, ⟨false, A6, n6, o6, 1, canon 4294967296 1⟩, ZM.C, ZM.A⟩ (MRows.on Rk (lz j8 (lz bw (lz j46 (lz j48 (lz j51 (lz j53 (lz j55 (lz j57 (lz j61 (lz j63 (lz j67 j69)))))))))))) ⟨(ints_on I5 j69), I6, Ints.nil_ .., Ints.nil_ ..⟩ true (ik2.out.same i5)).mono ?_
  rintro e' v70 ⟨rfl, j71⟩
  clear i5
  refine hK _ _ ⟨fun _ _ => fun p hp => Below.block (lz j63 (lz j67 (lz j69 j71))) p hp, ?_⟩
  clear hK K
  try simp only []
  refine zE 8 #[zT,zT,zT,zT,zT,zT,zT,zT,zT,zF,zF,zF,zF,zF,zF,zF,zF,zF,zF,zF,zF,zF,zF,zF,zF,zF,zF,zF,zF,zF,zF,zF,zF,zF,zF,zF,zF,zF,zF,zF,zF,zF,zF,zF,zF,zF,zF,zF,zF,zF,zF,zF,zF,zF,zF,zF,zF,zF,zF,zF,zF,zF] ?_ rfl ?hy58 ?rest58
  case hy58 => intro w; go_simp; (try with_reducible rfl)
  try simp only [Act.put, zp]
  refine zE 9 #[zT,zT,zT,zT,zT,zT,zT,zT,zT,zT,zF,zF,zF,zF,zF,zF,zF,zF,zF,zF,zF,zF,zF,zF,zF,zF,zF,zF,zF,zF,zF,zF,zF,zF,zF,zF,zF,zF,zF,zF,zF,zF,zF,zF,zF,zF,zF,zF,zF,zF,zF,zF,zF,zF,zF,zF,zF,zF,zF,zF,zF,zF] ?_ rfl ?hy59 ?rest59
  case hy59 => intro w; go_simp; (try with_reducible rfl)
  try simp only [Act.put, zp]
  have kpy72 : Keeps v60 v70 := fun p hp => Below.block (lz j63 (lz j67 (lz j69 j71))) p hp
  refine readE (i := 10) (L := #[zT,zT,zT,zT,zT,zT,zT,zT,zT,zT,zT,zF,zF,zF,zF,zF,zF,zF,zF,zF,zF,zF,zF,zF,zF,zF,zF,zF,zF,zF,zF,zF,zF,zF,zF,zF,zF,zF,zF,zF,zF,zF,zF,zF,zF,zF,zF,zF,zF,zF,zF,zF,zF,zF,zF,zF,zF,zF,zF,zF,zF,zF]) (v := .agg #[.bool s.S.s, .slice s.S.A s.S.n s.S.c, .int .i64 s.S.e, .bool s.W.s, .slice s.W.A s.W.n s.W.c, .int .i64 s.W.e, .bool s.C.s, .slice s.C.A s.C.n s.C.c, .int .i64 s.C.e, .bool s.A.s, .slice s.A.A s.A.n s.A.c, .int .i64 s.A.e]) rfl (by rfl) (by kernel_rfl) (by kernel_rfl) (by kernel_rfl) (fun _ _ _ h => h) (by assumption) (by rfl) ?y72 ?z73
  case y72 =>
   intro w' h1
   obtain ⟨⟨k0, k1, k2, k3, k4, k5, k6, k7, k8, k9, k10, k11⟩, kf⟩ := MBox.cells ((h1 _ (Nat.lt_of_lt_of_le s9b (Below.size (lz bw (lz j46 (lz j48 (lz j51 (lz j53 (lz j55 (lz j57 j61)))))))))).trans (box_later bs (lz bw (lz j46 (lz j48 (lz j51 (lz j53 (lz j55 (lz j57 j61))))))) s9b))
   go_simp
  try simp only [Act.put, zp]
  have kpy74 : Keeps v60 v70 := fun p hp => Below.block (lz j63 (lz j67 (lz j69 j71))) p hp
  refine readE (i := 11) (L := #[zT,zT,zT,zT,zT,zT,zT,zT,zT,zT,zT,zT,zF,zF,zF,zF,zF,zF,zF,zF,zF,zF,zF,zF,zF,zF,zF,zF,zF,zF,zF,zF,zF,zF,zF,zF,zF,zF,zF,zF,zF,zF,zF,zF,zF,zF,zF,zF,zF,zF,zF,zF,zF,zF,zF,zF,zF,zF,zF,zF,zF,zF]) (v := .agg #[.bool k.S.s, .slice k.S.A k.S.n k.S.c, .int .i64 k.S.e, .bool k.W.s, .slice k.W.A k.W.n k.W.c, .int .i64 k.W.e, .bool k.C.s, .slice k.C.A k.C.n k.C.c, .int .i64 k.C.e, .bool k.A.s, .slice k.A.A k.A.n k.A.c, .int .i64 k.A.e]) rfl (by rfl) (by kernel_rfl) (by kernel_rfl) (by kernel_rfl) (fun _ _ _ h => h) (by assumption) (by rfl) ?y74 ?z75
  case y74 =>
   intro w' h1
   obtain ⟨⟨k0, k1, k2, k3, k4, k5, k6, k7, k8, k9, k10, k11⟩, kf⟩ := MBox.cells ((h1 _ (Nat.lt_of_lt_of_le s9 (Below.size (lz bw (lz j46 (lz j48 (lz j51 (lz j53 (lz j55 (lz j57 j61)))))))))).trans (box_later bk (lz bw (lz j46 (lz j48 (lz j51 (lz j53 (lz j55 (lz j57 j61))))))) s9))
   go_simp
  try simp only [Act.put, zp]
  refine stepK (i := 12) (L := #[zT,zT,zT,zT,zT,zT,zT,zT,zT,zT,zT,zT,zT,zF,zF,zF,zF,zF,zF,zF,zF,zF,zF,zF,zF,zF,zF,zF,zF,zF,zF,zF,zF,zF,zF,zF,zF,zF,zF,zF,zF,zF,zF,zF,zF,zF,zF,zF,zF,zF,zF,zF,zF,zF,zF,zF,zF,zF,zF,zF,zF,zF]) rfl (by rfl) (by kernel_rfl) (by rfl) (fun K hK => ?_)
  go_simp
  go_at_call 32
  refine (MSame_any v70 s k (MRows.on Rs (lz j8 (lz bw (lz j46 (lz j48 (lz j51 (lz j53 (lz j55 (lz j57 (lz j61 (lz j63 (lz j67 (lz j69 j71))))))))))))) (MRows.on Rk (lz j8 (lz bw (lz j46 (lz j48 (lz j51 (lz j53 (lz j55 (lz j57 (lz j61 (lz j63 (lz j67 (lz j69 j71))))))))))))) true (is2.out.same ik2.out)).mono ?_
  rintro e' v76 ⟨rfl, j77⟩
  refine hK _ _ ⟨fun _ _ => fun p hp => Below.block (lz j63 (lz j67 (lz j69 (lz j71 j77)))) p hp, ?_⟩
  clear hK K
  try simp only []
  refine zE 13 #[zT,zT,zT,zT,zT,zT,zT,zT,zT,zT,zT,zT,zT,zT,zF,zF,zF,zF,zF,zF,zF,zF,zF,zF,zF,zF,zF,zF,zF,zF,zF,zF,zF,zF,zF,zF,zF,zF,zF,zF,zF,zF,zF,zF,zF,zF,zF,zF,zF,zF,zF,zF,zF,zF,zF,zF,zF,zF,zF,zF,zF,zF] ?_ rfl ?hy63 ?rest63
  case hy63 => intro w; go_simp; (try with_reducible rfl)
  try simp only [Act.put, zp]
  refine zE 14 #[zT,zT,zT,zT,zT,zT,zT,zT,zT,zT,zT,zT,zT,zT,zT,zF,zF,zF,zF,zF,zF,zF,zF,zF,zF,zF,zF,zF,zF,zF,zF,zF,zF,zF,zF,zF,zF,zF,zF,zF,zF,zF,zF,zF,zF,zF,zF,zF,zF,zF,zF,zF,zF,zF,zF,zF,zF,zF,zF,zF,zF,zF] ?_ rfl ?hy64 ?rest64
  case hy64 => intro w; go_simp; (try with_reducible rfl)
  try simp only [Act.put, zp]
  refine zE 15 #[zT,zT,zT,zT,zT,zT,zT,zT,zT,zT,zT,zT,zT,zT,zT,zT,zF,zF,zF,zF,zF,zF,zF,zF,zF,zF,zF,zF,zF,zF,zF,zF,zF,zF,zF,zF,zF,zF,zF,zF,zF,zF,zF,zF,zF,zF,zF,zF,zF,zF,zF,zF,zF,zF,zF,zF,zF,zF,zF,zF,zF,zF] ?_ rfl ?hy65 ?rest65
  case hy65 => intro w; go_simp; (try with_reducible rfl)
  try simp only [Act.put, zp]
  refine zE 16 #[zT,zT,zT,zT,zT,zT,zT,zT,zT,zT,zT,zT,zT,zT,zT,zT,zT,zF,zF,zF,zF,zF,zF,zF,zF,zF,zF,zF,zF,zF,zF,zF,zF,zF,zF,zF,zF,zF,zF,zF,zF,zF,zF,zF,zF,zF,zF,zF,zF,zF,zF,zF,zF,zF,zF,zF,zF,zF,zF,zF,zF,zF] ?_ rfl ?hy66 ?rest66
  case hy66 => intro w; go_simp; (try with_reducible rfl)
  try simp only [Act.put, zp]
  refine zE 17 #[zT,zT,zT,zT,zT,zT,zT,zT,zT,zT,zT,zT,zT,zT,zT,zT,zT,zT,zF,zF,zF,zF,zF,zF,zF,zF,zF,zF,zF,zF,zF,zF,zF,zF,zF,zF,zF,zF,zF,zF,zF,zF,zF,zF,zF,zF,zF,zF,zF,zF,zF,zF,zF,zF,zF,zF,zF,zF,zF,zF,zF,zF] ?_ rfl ?hy67 ?rest67
  case hy67 => intro w; go_simp; (try with_reducible rfl)
  try simp only [Act.put, zp]
  refine zE 18 #[zT,zT,zT,zT,zT,zT,zT,zT,zT,zT,zT,zT,zT,zT,zT,zT,zT,zT,zT,zF,zF,zF,zF,zF,zF,zF,zF,zF,zF,zF,zF,zF,zF,zF,zF,zF,zF,zF,zF,zF,zF,zF,zF,zF,zF,zF,zF,zF,zF,zF,zF,zF,zF,zF,zF,zF,zF,zF,zF,zF,zF,zF] ?_ rfl ?hy68 ?rest68
  case hy68 => intro w; go_simp; (try with_reducible rfl)
  try simp only [Act.put, zp]
  have kpy78 : Keeps v60 v76 := fun p hp => Below.block (lz j63 (lz j67 (lz j69 (lz j71 j77)))) p hp
  refine readE (i := 19) (L := #[zT,zT,zT,zT,zT,zT,zT,zT,zT,zT,zT,zT,zT,zT,zT,zT,zT,zT,zT,zT,zF,zF,zF,zF,zF,zF,zF,zF,zF,zF,zF,zF,zF,zF,zF,zF,zF,zF,zF,zF,zF,zF,zF,zF,zF,zF,zF,zF,zF,zF,zF,zF,zF,zF,zF,zF,zF,zF,zF,zF,zF,zF]) (v := .agg #[.bool a.S.s, .slice a.S.A a.S.n a.S.c, .int .i64 a.S.e, .bool a.W.s, .slice a.W.A a.W.n a.W.c, .int .i64 a.W.e, .bool a.C.s, .slice a.C.A a.C.n a.C.c, .int .i64 a.C.e, .bool a.A.s, .slice a.A.A a.A.n a.A.c, .int .i64 a.A.e]) rfl (by rfl) (by kernel_rfl) (by kernel_rfl) (by kernel_rfl) (fun _ _ _ h => h) (by assumption) (by rfl) ?y78 ?z79
  case y78 =>
   intro w' h1
   obtain ⟨⟨k0, k1, k2, k3, k4, k5, k6, k7, k8, k9, k10, k11⟩, kf⟩ := MBox.cells ((h1 _ (Nat.lt_of_lt_of_le sa (Below.size (lz j46 (lz j48 (lz j51 (lz j53 (lz j55 (lz j57 j61))))))))).trans (box_later ba (lz j46 (lz j48 (lz j51 (lz j53 (lz j55 (lz j57 j61)))))) sa))
   go_simp
  try simp only [Act.put, zp]
  refine stepK (i := 20) (L := #[zT,zT,zT,zT,zT,zT,zT,zT,zT,zT,zT,zT,zT,zT,zT,zT,zT,zT,zT,zT,zT,zF,zF,zF,zF,zF,zF,zF,zF,zF,zF,zF,zF,zF,zF,zF,zF,zF,zF,zF,zF,zF,zF,zF,zF,zF,zF,zF,zF,zF,zF,zF,zF,zF,zF,zF,zF,zF,zF,zF,zF,zF]) rfl (by rfl) (by kernel_rfl) (by rfl) (fun K hK => ?_)
  go_simp
  go_at_call 25
  refine (Of_any v76 4 (by decide) (by decide) false 4 rfl rfl).mono ?_
  rintro e' v80 ⟨A7, n7, rfl, j81, I7⟩
  replace I7 := ints_all I7
  refine hK _ _ ⟨fun _ _ => fun p hp => Below.block (lz j63 (lz j67 (lz j69 (lz j71 (lz j77 j81))))) p hp, ?_⟩
  clear hK K
  try simp only []
  refine stepK (i := 21) (L := #[zT,zT,zT,zT,zT,zT,zT,zT,zT,zT,zT,zT,zT,zT,zT,zT,zT,zT,zT,zT,zT,zT,zF,zF,zF,zF,zF,zF,zF,zF,zF,zF,zF,zF,zF,zF,zF,zF,zF,zF,zF,zF,zF,zF,zF,zF,zF,zF,zF,zF,zF,zF,zF,zF,zF,zF,zF,zF,zF,zF,zF,zF]) rfl (by rfl) (by kernel_rfl) (by rfl) (fun K hK => ?_)
  go_simp
  go_at_call 25
  refine (Of_any v80 1 (by decide) (by decide) false 1 rfl rfl).mono ?_
  rintro e' v82 ⟨A8, n8, rfl, j83, I8⟩
  replace I8 := ints_all I8
  refine hK _ _ ⟨fun _ _ => fun p hp => Below.block (lz j63 (lz j67 (lz j69 (lz j71 (lz j77 (lz j81 j83)))))) p hp, ?_⟩
  clear hK K
  try simp only []
  refine zE 22 #[zT,zT,zT,zT,zT,zT,zT,zT,zT,zT,zT,zT,zT,zT,zT,zT,zT,zT,zT,zT,zT,zT,zT,zF,zF,zF,zF,zF,zF,zF,zF,zF,zF,zF,zF,zF,zF,zF,zF,zF,zF,zF,zF,zF,zF,zF,zF,zF,zF,zF,zF,zF,zF,zF,zF,zF,zF,zF,zF,zF,zF,zF] ?_ rfl ?hy72 ?rest72
  case hy72 => intro w; go_simp; (try with_reducible rfl)
  try simp only [Act.put, zp]
  have i7 : IsM (twoR ⟨false, 4, 0⟩ ⟨false, 1, 0⟩) ⟨⟨false, A7, n7, n7, 0, canon 4294967296 4⟩, ⟨false, A8, n8, n8, 0, canon 4294967296 1⟩, ZM.C, ZM.A⟩ := twoR_is ⟨rfl, rfl, rfl⟩ ⟨rfl, rfl, rfl⟩
  refine stepK (i := 23) (L := #[zT,zT,zT,zT,zT,zT,zT,zT,zT,zT,zT,zT,zT,zT,zT,zT,zT,zT,zT,zT,zT,zT,zT,zT,zF,zF,zF,zF,zF,zF,zF,zF,zF,zF,zF,zF,zF,zF,zF,zF,zF,zF,zF,zF,zF,zF,zF,zF,zF,zF,zF,zF,zF,zF,zF,zF,zF,zF,zF,zF,zF,zF]) rfl (by rfl) (by kernel_rfl) (by rfl) (fun K hK => ?_)
  go_simp
  go_at_call 32
  refine (MSame_any v82 a ⟨⟨false, A7, n7, n7, 0, canon 4294967296 4⟩, ⟨false, A8, n8, n8, 0, canon 4294967296 1⟩, ZM.C, ZM.A⟩ (MRows.on Ra (lz j46 (lz j48 (lz j51 (lz j53 (lz j55 (lz j57 (lz j61 (lz j63 (lz j67 (lz j69 (lz j71 (lz j77 (lz j81 j83)))))))))))))) ⟨(ints_on I7 j83), I8, Ints.nil_ .., Ints.nil_ ..⟩ true (iA.out.same i7)).mono ?_
  rintro e' v84 ⟨rfl, j85⟩
  clear i7
  refine hK _ _ ⟨fun _ _ => fun p hp => Below.block (lz j63 (lz j67 (lz j69 (lz j71 (lz j77 (lz j81 (lz j83 j85))))))) p hp, ?_⟩
  clear hK K
  try simp only []
  refine zE 24 #[zT,zT,zT,zT,zT,zT,zT,zT,zT,zT,zT,zT,zT,zT,zT,zT,zT,zT,zT,zT,zT,zT,zT,zT,zT,zF,zF,zF,zF,zF,zF,zF,zF,zF,zF,zF,zF,zF,zF,zF,zF,zF,zF,zF,zF,zF,zF,zF,zF,zF,zF,zF,zF,zF,zF,zF,zF,zF,zF,zF,zF,zF] ?_ rfl ?hy74 ?rest74
  case hy74 => intro w; go_simp; (try with_reducible rfl)
  try simp only [Act.put, zp]
  refine zE 25 #[zT,zT,zT,zT,zT,zT,zT,zT,zT,zT,zT,zT,zT,zT,zT,zT,zT,zT,zT,zT,zT,zT,zT,zT,zT,zT,zF,zF,zF,zF,zF,zF,zF,zF,zF,zF,zF,zF,zF,zF,zF,zF,zF,zF,zF,zF,zF,zF,zF,zF,zF,zF,zF,zF,zF,zF,zF,zF,zF,zF,zF,zF] ?_ rfl ?hy75 ?rest75
  case hy75 => intro w; go_simp; (try with_reducible rfl)
  try simp only [Act.put, zp]
  refine zE 26 #[zT,zT,zT,zT,zT,zT,zT,zT,zT,zT,zT,zT,zT,zT,zT,zT,zT,zT,zT,zT,zT,zT,zT,zT,zT,zT,zT,zF,zF,zF,zF,zF,zF,zF,zF,zF,zF,zF,zF,zF,zF,zF,zF,zF,zF,zF,zF,zF,zF,zF,zF,zF,zF,zF,zF,zF,zF,zF,zF,zF,zF,zF] ?_ rfl ?hy76 ?rest76
  case hy76 => intro w; go_simp; (try with_reducible rfl)
  try simp only [Act.put, zp]
  refine zE 27 #[zT,zT,zT,zT,zT,zT,zT,zT,zT,zT,zT,zT,zT,zT,zT,zT,zT,zT,zT,zT,zT,zT,zT,zT,zT,zT,zT,zT,zF,zF,zF,zF,zF,zF,zF,zF,zF,zF,zF,zF,zF,zF,zF,zF,zF,zF,zF,zF,zF,zF,zF,zF,zF,zF,zF,zF,zF,zF,zF,zF,zF,zF] ?_ rfl ?hy77 ?rest77
  case hy77 => intro w; go_simp; (try with_reducible rfl)
  try simp only [Act.put, zp]
  refine zE 28 #[zT,zT,zT,zT,zT,zT,zT,zT,zT,zT,zT,zT,zT,zT,zT,zT,zT,zT,zT,zT,zT,zT,zT,zT,zT,zT,zT,zT,zT,zF,zF,zF,zF,zF,zF,zF,zF,zF,zF,zF,zF,zF,zF,zF,zF,zF,zF,zF,zF,zF,zF,zF,zF,zF,zF,zF,zF,zF,zF,zF,zF,zF] ?_ rfl ?hy78 ?rest78
  case hy78 => intro w; go_simp; (try with_reducible rfl)
  try simp only [Act.put, zp]
  refine zE 29 #[zT,zT,zT,zT,zT,zT,zT,zT,zT,zT,zT,zT,zT,zT,zT,zT,zT,zT,zT,zT,zT,zT,zT,zT,zT,zT,zT,zT,zT,zT,zF,zF,zF,zF,zF,zF,zF,zF,zF,zF,zF,zF,zF,zF,zF,zF,zF,zF,zF,zF,zF,zF,zF,zF,zF,zF,zF,zF,zF,zF,zF,zF] ?_ rfl ?hy79 ?rest79
  case hy79 => intro w; go_simp; (try with_reducible rfl)
  try simp only [Act.put, zp]
  have kpy86 : Keeps v60 v84 := fun p hp => Below.block (lz j63 (lz j67 (lz j69 (lz j71 (lz j77 (lz j81 (lz j83 j85))))))) p hp
  refine readE (i := 30) (L := #[zT,zT,zT,zT,zT,zT,zT,zT,zT,zT,zT,zT,zT,zT,zT,zT,zT,zT,zT,zT,zT,zT,zT,zT,zT,zT,zT,zT,zT,zT,zT,zF,zF,zF,zF,zF,zF,zF,zF,zF,zF,zF,zF,zF,zF,zF,zF,zF,zF,zF,zF,zF,zF,zF,zF,zF,zF,zF,zF,zF,zF,zF]) (v := .agg #[.bool X.s, .slice X.A X.n X.c, .int .i64 X.e]) rfl (by rfl) (by kernel_rfl) (by kernel_rfl) (by kernel_rfl) (fun _ _ _ h => h) (by assumption) (by rfl) ?y86 ?z87
  case y86 =>
   intro w' h1
   obtain ⟨⟨p1, p2, p3⟩, p4, p5, p6⟩ := boxD ((h1 _ (Nat.lt_of_lt_of_le s49 (Below.size (lz j51 (lz j53 (lz j55 (lz j57 j61))))))).trans (box_later bx (lz j51 (lz j53 (lz j55 (lz j57 j61)))) s49))
   go_simp
  try simp only [Act.put, zp]
  refine stepK (i := 31) (L := #[zT,zT,zT,zT,zT,zT,zT,zT,zT,zT,zT,zT,zT,zT,zT,zT,zT,zT,zT,zT,zT,zT,zT,zT,zT,zT,zT,zT,zT,zT,zT,zT,zF,zF,zF,zF,zF,zF,zF,zF,zF,zF,zF,zF,zF,zF,zF,zF,zF,zF,zF,zF,zF,zF,zF,zF,zF,zF,zF,zF,zF,zF]) rfl (by rfl) (by kernel_rfl) (by rfl) (fun K hK => ?_)
  go_simp
  go_at_call 25
  refine (Of_any v84 4 (by decide) (by decide) false 4 rfl rfl).mono ?_
  rintro e' v88 ⟨A9, n9, rfl, j89, I9⟩
  replace I9 := ints_all I9
  refine hK _ _ ⟨fun _ _ => fun p hp => Below.block (lz j63 (lz j67 (lz j69 (lz j71 (lz j77 (lz j81 (lz j83 (lz j85 j89)))))))) p hp, ?_⟩
  clear hK K
  try simp only []
  refine stepK (i := 32) (L := #[zT,zT,zT,zT,zT,zT,zT,zT,zT,zT,zT,zT,zT,zT,zT,zT,zT,zT,zT,zT,zT,zT,zT,zT,zT,zT,zT,zT,zT,zT,zT,zT,zT,zF,zF,zF,zF,zF,zF,zF,zF,zF,zF,zF,zF,zF,zF,zF,zF,zF,zF,zF,zF,zF,zF,zF,zF,zF,zF,zF,zF,zF]) rfl (by rfl) (by kernel_rfl) (by rfl) (fun K hK => ?_)
  go_simp
  go_at_call 23
  refine (Pa.dyadSame_any v88 _ _ _ _ _ _ _ _ _ _ _ _ (ints_on RX (lz j48 (lz j51 (lz j53 (lz j55 (lz j57 (lz j61 (lz j63 (lz j67 (lz j69 (lz j71 (lz j77 (lz j81 (lz j83 (lz j85 j89))))))))))))))) I9 true (same_is iX.out)).mono ?_
  rintro e' v90 ⟨rfl, j91⟩
  refine hK _ _ ⟨fun _ _ => fun p hp => Below.block (lz j63 (lz j67 (lz j69 (lz j71 (lz j77 (lz j81 (lz j83 (lz j85 (lz j89 j91))))))))) p hp, ?_⟩
  clear hK K
  try simp only []
  refine zE 33 #[zT,zT,zT,zT,zT,zT,zT,zT,zT,zT,zT,zT,zT,zT,zT,zT,zT,zT,zT,zT,zT,zT,zT,zT,zT,zT,zT,zT,zT,zT,zT,zT,zT,zT,zF,zF,zF,zF,zF,zF,zF,zF,zF,zF,zF,zF,zF,zF,zF,zF,zF,zF,zF,zF,zF,zF,zF,zF,zF,zF,zF,zF] ?_ rfl ?hy83 ?rest83
  case hy83 => intro w; go_simp; (try with_reducible rfl)
  try simp only [Act.put, zp]
  refine zE 34 #[zT,zT,zT,zT,zT,zT,zT,zT,zT,zT,zT,zT,zT,zT,zT,zT,zT,zT,zT,zT,zT,zT,zT,zT,zT,zT,zT,zT,zT,zT,zT,zT,zT,zT,zT,zF,zF,zF,zF,zF,zF,zF,zF,zF,zF,zF,zF,zF,zF,zF,zF,zF,zF,zF,zF,zF,zF,zF,zF,zF,zF,zF] ?_ rfl ?hy84 ?rest84
  case hy84 => intro w; go_simp; (try with_reducible rfl)
  try simp only [Act.put, zp]
  have kpy92 : Keeps v60 v90 := fun p hp => Below.block (lz j63 (lz j67 (lz j69 (lz j71 (lz j77 (lz j81 (lz j83 (lz j85 (lz j89 j91))))))))) p hp
  refine readE (i := 35) (L := #[zT,zT,zT,zT,zT,zT,zT,zT,zT,zT,zT,zT,zT,zT,zT,zT,zT,zT,zT,zT,zT,zT,zT,zT,zT,zT,zT,zT,zT,zT,zT,zT,zT,zT,zT,zT,zF,zF,zF,zF,zF,zF,zF,zF,zF,zF,zF,zF,zF,zF,zF,zF,zF,zF,zF,zF,zF,zF,zF,zF,zF,zF]) (v := .agg #[.bool Y.s, .slice Y.A Y.n Y.c, .int .i64 Y.e]) rfl (by rfl) (by kernel_rfl) (by kernel_rfl) (by kernel_rfl) (fun _ _ _ h => h) (by assumption) (by rfl) ?y92 ?z93
  case y92 =>
   intro w' h1
   obtain ⟨⟨p1, p2, p3⟩, p4, p5, p6⟩ := boxD ((h1 _ (Nat.lt_of_lt_of_le s49b (Below.size (lz j51 (lz j53 (lz j55 (lz j57 j61))))))).trans (box_later byy (lz j51 (lz j53 (lz j55 (lz j57 j61)))) s49b))
   go_simp
  try simp only [Act.put, zp]
  have kpy94 : Keeps v60 v90 := fun p hp => Below.block (lz j63 (lz j67 (lz j69 (lz j71 (lz j77 (lz j81 (lz j83 (lz j85 (lz j89 j91))))))))) p hp
  refine readE (i := 36) (L := #[zT,zT,zT,zT,zT,zT,zT,zT,zT,zT,zT,zT,zT,zT,zT,zT,zT,zT,zT,zT,zT,zT,zT,zT,zT,zT,zT,zT,zT,zT,zT,zT,zT,zT,zT,zT,zT,zF,zF,zF,zF,zF,zF,zF,zF,zF,zF,zF,zF,zF,zF,zF,zF,zF,zF,zF,zF,zF,zF,zF,zF,zF]) (v := .agg #[.bool X.s, .slice X.A X.n X.c, .int .i64 X.e]) rfl (by rfl) (by kernel_rfl) (by kernel_rfl) (by kernel_rfl) (fun _ _ _ h => h) (by assumption) (by rfl) ?y94 ?z95
  case y94 =>
   intro w' h1
   obtain ⟨⟨p1, p2, p3⟩, p4, p5, p6⟩ := boxD ((h1 _ (Nat.lt_of_lt_of_le s49 (Below.size (lz j51 (lz j53 (lz j55 (lz j57 j61))))))).trans (box_later bx (lz j51 (lz j53 (lz j55 (lz j57 j61)))) s49))
   go_simp
  try simp only [Act.put, zp]
  refine stepK (i := 37) (L := #[zT,zT,zT,zT,zT,zT,zT,zT,zT,zT,zT,zT,zT,zT,zT,zT,zT,zT,zT,zT,zT,zT,zT,zT,zT,zT,zT,zT,zT,zT,zT,zT,zT,zT,zT,zT,zT,zT,zF,zF,zF,zF,zF,zF,zF,zF,zF,zF,zF,zF,zF,zF,zF,zF,zF,zF,zF,zF,zF,zF,zF,zF]) rfl (by rfl) (by kernel_rfl) (by rfl) (fun K hK => ?_)
  go_simp
  go_at_call 23
  refine (Pa.dyadSame_any v90 _ _ _ _ _ _ _ _ _ _ _ _ (ints_on RY (lz j48 (lz j51 (lz j53 (lz j55 (lz j57 (lz j61 (lz j63 (lz j67 (lz j69 (lz j71 (lz j77 (lz j81 (lz j83 (lz j85 (lz j89 j91)))))))))))))))) (ints_on RX (lz j48 (lz j51 (lz j53 (lz j55 (lz j57 (lz j61 (lz j63 (lz j67 (lz j69 (lz j71 (lz j77 (lz j81 (lz j83 (lz j85 (lz j89 j91)))))))))))))))) true (iY.out.same iX.out)).mono ?_
  rintro e' v96 ⟨rfl, j97⟩
  refine hK _ _ ⟨fun _ _ => fun p hp => Below.block (lz j63 (lz j67 (lz j69 (lz j71 (lz j77 (lz j81 (lz j83 (lz j85 (lz j89 (lz j91 j97)))))))))) p hp, ?_⟩
  clear hK K
  try simp only []
  refine zE 38 #[zT,zT,zT,zT,zT,zT,zT,zT,zT,zT,zT,zT,zT,zT,zT,zT,zT,zT,zT,zT,zT,zT,zT,zT,zT,zT,zT,zT,zT,zT,zT,zT,zT,zT,zT,zT,zT,zT,zT,zF,zF,zF,zF,zF,zF,zF,zF,zF,zF,zF,zF,zF,zF,zF,zF,zF,zF,zF,zF,zF,zF,zF] ?_ rfl ?hy88 ?rest88
  case hy88 => intro w; go_simp; (try with_reducible rfl)
  try simp only [Act.put, zp]
  refine zE 39 #[zT,zT,zT,zT,zT,zT,zT,zT,zT,zT,zT,zT,zT,zT,zT,zT,zT,zT,zT,zT,zT,zT,zT,zT,zT,zT,zT,zT,zT,zT,zT,zT,zT,zT,zT,zT,zT,zT,zT,zT,zF,zF,zF,zF,zF,zF,zF,zF,zF,zF,zF,zF,zF,zF,zF,zF,zF,zF,zF,zF,zF,zF] ?_ rfl ?hy89 ?rest89
  case hy89 => intro w; go_simp; (try with_reducible rfl)
  try simp only [Act.put, zp]
  refine zE 40 #[zT,zT,zT,zT,zT,zT,zT,zT,zT,zT,zT,zT,zT,zT,zT,zT,zT,zT,zT,zT,zT,zT,zT,zT,zT,zT,zT,zT,zT,zT,zT,zT,zT,zT,zT,zT,zT,zT,zT,zT,zT,zF,zF,zF,zF,zF,zF,zF,zF,zF,zF,zF,zF,zF,zF,zF,zF,zF,zF,zF,zF,zF] ?_ rfl ?hy90 ?rest90
  case hy90 => intro w; go_simp; (try with_reducible rfl)
  try simp only [Act.put, zp]
  refine zE 41 #[zT,zT,zT,zT,zT,zT,zT,zT,zT,zT,zT,zT,zT,zT,zT,zT,zT,zT,zT,zT,zT,zT,zT,zT,zT,zT,zT,zT,zT,zT,zT,zT,zT,zT,zT,zT,zT,zT,zT,zT,zT,zT,zF,zF,zF,zF,zF,zF,zF,zF,zF,zF,zF,zF,zF,zF,zF,zF,zF,zF,zF,zF] ?_ rfl ?hy91 ?rest91
  case hy91 => intro w; go_simp; (try with_reducible rfl)
  try simp only [Act.put, zp]
  refine zE 42 #[zT,zT,zT,zT,zT,zT,zT,zT,zT,zT,zT,zT,zT,zT,zT,zT,zT,zT,zT,zT,zT,zT,zT,zT,zT,zT,zT,zT,zT,zT,zT,zT,zT,zT,zT,zT,zT,zT,zT,zT,zT,zT,zT,zF,zF,zF,zF,zF,zF,zF,zF,zF,zF,zF,zF,zF,zF,zF,zF,zF,zF,zF] ?_ rfl ?hy92 ?rest92
  case hy92 => intro w; go_simp; (try with_reducible rfl)
  try simp only [Act.put, zp]
  refine zE 43 #[zT,zT,zT,zT,zT,zT,zT,zT,zT,zT,zT,zT,zT,zT,zT,zT,zT,zT,zT,zT,zT,zT,zT,zT,zT,zT,zT,zT,zT,zT,zT,zT,zT,zT,zT,zT,zT,zT,zT,zT,zT,zT,zT,zT,zF,zF,zF,zF,zF,zF,zF,zF,zF,zF,zF,zF,zF,zF,zF,zF,zF,zF] ?_ rfl ?hy93 ?rest93
  case hy93 => intro w; go_simp; (try with_reducible rfl)
  try simp only [Act.put, zp]
  have kpy98 : Keeps v60 v96 := fun p hp => Below.block (lz j63 (lz j67 (lz j69 (lz j71 (lz j77 (lz j81 (lz j83 (lz j85 (lz j89 (lz j91 j97)))))))))) p hp
  refine readE (i := 44) (L := #[zT,zT,zT,zT,zT,zT,zT,zT,zT,zT,zT,zT,zT,zT,zT,zT,zT,zT,zT,zT,zT,zT,zT,zT,zT,zT,zT,zT,zT,zT,zT,zT,zT,zT,zT,zT,zT,zT,zT,zT,zT,zT,zT,zT,zT,zF,zF,zF,zF,zF,zF,zF,zF,zF,zF,zF,zF,zF,zF,zF,zF,zF]) (v := .agg #[.bool P.s, .slice P.A P.n P.c, .int .i64 P.e]) rfl (by rfl) (by kernel_rfl) (by kernel_rfl) (by kernel_rfl) (fun _ _ _ h => h) (by assumption) (by rfl) ?y98 ?z99
  case y98 =>
   intro w' h1
   obtain ⟨⟨p1, p2, p3⟩, p4, p5, p6⟩ := boxD ((h1 _ (Nat.lt_of_lt_of_le s58 (Below.size j61))).trans (box_later bp j61 s58))
   go_simp
  try simp only [Act.put, zp]
  refine stepK (i := 45) (L := #[zT,zT,zT,zT,zT,zT,zT,zT,zT,zT,zT,zT,zT,zT,zT,zT,zT,zT,zT,zT,zT,zT,zT,zT,zT,zT,zT,zT,zT,zT,zT,zT,zT,zT,zT,zT,zT,zT,zT,zT,zT,zT,zT,zT,zT,zT,zF,zF,zF,zF,zF,zF,zF,zF,zF,zF,zF,zF,zF,zF,zF,zF]) rfl (by rfl) (by kernel_rfl) (by rfl) (fun K hK => ?_)
  go_simp
  obtain ⟨v100, hc_, T1, j101, s102⟩ := alloc_one v96
  rw [hc_]
  clear hc_
  have I10 : Ints v100 0 v100.heap.size .u32 (some ⟨v96.heap.size, 0, none⟩) 1 (canon 4294967296 1) := (row_one T1 (by decide) (by decide)).more (Nat.zero_le _) (by omega)
  refine hK _ _ ⟨fun _ _ => fun p hp => Below.block (lz j63 (lz j67 (lz j69 (lz j71 (lz j77 (lz j81 (lz j83 (lz j85 (lz j89 (lz j91 (lz j97 j101))))))))))) p hp, ?_⟩
  clear hK K
  try simp only []
  refine zE 46 #[zT,zT,zT,zT,zT,zT,zT,zT,zT,zT,zT,zT,zT,zT,zT,zT,zT,zT,zT,zT,zT,zT,zT,zT,zT,zT,zT,zT,zT,zT,zT,zT,zT,zT,zT,zT,zT,zT,zT,zT,zT,zT,zT,zT,zT,zT,zT,zF,zF,zF,zF,zF,zF,zF,zF,zF,zF,zF,zF,zF,zF,zF] ?_ rfl ?hy96 ?rest96
  case hy96 => intro w; go_simp; (try with_reducible rfl)
  try simp only [Act.put, zp]
  refine stepK (i := 47) (L := #[zT,zT,zT,zT,zT,zT,zT,zT,zT,zT,zT,zT,zT,zT,zT,zT,zT,zT,zT,zT,zT,zT,zT,zT,zT,zT,zT,zT,zT,zT,zT,zT,zT,zT,zT,zT,zT,zT,zT,zT,zT,zT,zT,zT,zT,zT,zT,zT,zF,zF,zF,zF,zF,zF,zF,zF,zF,zF,zF,zF,zF,zF]) rfl (by rfl) (by kernel_rfl) (by rfl) (fun K hK => ?_)
  go_simp
  go_at_call 23
  refine (Pa.dyadSame_any v100 _ _ _ _ _ _ _ _ _ _ _ _ (ints_on RP (lz j57 (lz j61 (lz j63 (lz j67 (lz j69 (lz j71 (lz j77 (lz j81 (lz j83 (lz j85 (lz j89 (lz j91 (lz j97 j101)))))))))))))) I10 true (same_is iP.out)).mono ?_
  rintro e' v103 ⟨rfl, j104⟩
  refine hK _ _ ⟨fun _ _ => fun p hp => Below.block (lz j63 (lz j67 (lz j69 (lz j71 (lz j77 (lz j81 (lz j83 (lz j85 (lz j89 (lz j91 (lz j97 (lz j101 j104)))))))))))) p hp, ?_⟩
  clear hK K
  try simp only []
  refine zE 48 #[zT,zT,zT,zT,zT,zT,zT,zT,zT,zT,zT,zT,zT,zT,zT,zT,zT,zT,zT,zT,zT,zT,zT,zT,zT,zT,zT,zT,zT,zT,zT,zT,zT,zT,zT,zT,zT,zT,zT,zT,zT,zT,zT,zT,zT,zT,zT,zT,zT,zF,zF,zF,zF,zF,zF,zF,zF,zF,zF,zF,zF,zF] ?_ rfl ?hy98 ?rest98
  case hy98 => intro w; go_simp; (try with_reducible rfl)
  try simp only [Act.put, zp]
  refine zE 49 #[zT,zT,zT,zT,zT,zT,zT,zT,zT,zT,zT,zT,zT,zT,zT,zT,zT,zT,zT,zT,zT,zT,zT,zT,zT,zT,zT,zT,zT,zT,zT,zT,zT,zT,zT,zT,zT,zT,zT,zT,zT,zT,zT,zT,zT,zT,zT,zT,zT,zT,zF,zF,zF,zF,zF,zF,zF,zF,zF,zF,zF,zF] ?_ rfl ?hy99 ?rest99
  case hy99 => intro w; go_simp; (try with_reducible rfl)
  try simp only [Act.put, zp]
  have kpy105 : Keeps v60 v103 := fun p hp => Below.block (lz j63 (lz j67 (lz j69 (lz j71 (lz j77 (lz j81 (lz j83 (lz j85 (lz j89 (lz j91 (lz j97 (lz j101 j104)))))))))))) p hp
  refine readE (i := 50) (L := #[zT,zT,zT,zT,zT,zT,zT,zT,zT,zT,zT,zT,zT,zT,zT,zT,zT,zT,zT,zT,zT,zT,zT,zT,zT,zT,zT,zT,zT,zT,zT,zT,zT,zT,zT,zT,zT,zT,zT,zT,zT,zT,zT,zT,zT,zT,zT,zT,zT,zT,zT,zF,zF,zF,zF,zF,zF,zF,zF,zF,zF,zF]) (v := .agg #[.bool Q.s, .slice Q.A Q.n Q.c, .int .i64 Q.e]) rfl (by rfl) (by kernel_rfl) (by kernel_rfl) (by kernel_rfl) (fun _ _ _ h => h) (by assumption) (by rfl) ?y105 ?z106
  case y105 =>
   intro w' h1
   obtain ⟨⟨p1, p2, p3⟩, p4, p5, p6⟩ := boxD ((h1 _ (Nat.lt_of_lt_of_le s58b (Below.size j61))).trans (box_later bq j61 s58b))
   go_simp
  try simp only [Act.put, zp]
  refine stepK (i := 51) (L := #[zT,zT,zT,zT,zT,zT,zT,zT,zT,zT,zT,zT,zT,zT,zT,zT,zT,zT,zT,zT,zT,zT,zT,zT,zT,zT,zT,zT,zT,zT,zT,zT,zT,zT,zT,zT,zT,zT,zT,zT,zT,zT,zT,zT,zT,zT,zT,zT,zT,zT,zT,zT,zF,zF,zF,zF,zF,zF,zF,zF,zF,zF]) rfl (by rfl) (by kernel_rfl) (by rfl) (fun K hK => ?_)
  go_simp
  go_at_call 56
  refine (half15_any v103).mono ?_
  rintro e' v107 ⟨B6, k6, p6, rfl, j108, I11⟩
  replace I11 := ints_all I11
  refine hK _ _ ⟨fun _ _ => fun p hp => Below.block (lz j63 (lz j67 (lz j69 (lz j71 (lz j77 (lz j81 (lz j83 (lz j85 (lz j89 (lz j91 (lz j97 (lz j101 (lz j104 j108))))))))))))) p hp, ?_⟩
  clear hK K
  try simp only []
  refine stepK (i := 52) (L := #[zT,zT,zT,zT,zT,zT,zT,zT,zT,zT,zT,zT,zT,zT,zT,zT,zT,zT,zT,zT,zT,zT,zT,zT,zT,zT,zT,zT,zT,zT,zT,zT,zT,zT,zT,zT,zT,zT,zT,zT,zT,zT,zT,zT,zT,zT,zT,zT,zT,zT,zT,zT,zT,zF,zF,zF,zF,zF,zF,zF,zF,zF]) rfl (by rfl) (by kernel_rfl) (by rfl) (fun K hK => ?_)
  go_simp
  go_at_call 23
  refine (Pa.dyadSame_any v107 _ _ _ _ _ _ _ _ _ _ _ _ (ints_on RQ (lz j57 (lz j61 (lz j63 (lz j67 (lz j69 (lz j71 (lz j77 (lz j81 (lz j83 (lz j85 (lz j89 (lz j91 (lz j97 (lz j101 (lz j104 j108)))))))))))))))) I11 true (same_is iQ.out)).mono ?_
  rintro e' v109 ⟨rfl, j110⟩
  refine hK _ _ ⟨fun _ _ => fun p hp => Below.block (lz j63 (lz j67 (lz j69 (lz j71 (lz j77 (lz j81 (lz j83 (lz j85 (lz j89 (lz j91 (lz j97 (lz j101 (lz j104 (lz j108 j110)))))))))))))) p hp, ?_⟩
  clear hK K
  try simp only []
  refine zE 53 #[zT,zT,zT,zT,zT,zT,zT,zT,zT,zT,zT,zT,zT,zT,zT,zT,zT,zT,zT,zT,zT,zT,zT,zT,zT,zT,zT,zT,zT,zT,zT,zT,zT,zT,zT,zT,zT,zT,zT,zT,zT,zT,zT,zT,zT,zT,zT,zT,zT,zT,zT,zT,zT,zT,zF,zF,zF,zF,zF,zF,zF,zF] ?_ rfl ?hy103 ?rest103
  case hy103 => intro w; go_simp; (try with_reducible rfl)
  try simp only [Act.put, zp]
  refine zE 54 #[zT,zT,zT,zT,zT,zT,zT,zT,zT,zT,zT,zT,zT,zT,zT,zT,zT,zT,zT,zT,zT,zT,zT,zT,zT,zT,zT,zT,zT,zT,zT,zT,zT,zT,zT,zT,zT,zT,zT,zT,zT,zT,zT,zT,zT,zT,zT,zT,zT,zT,zT,zT,zT,zT,zT,zF,zF,zF,zF,zF,zF,zF] ?_ rfl ?hy104 ?rest104
  case hy104 => intro w; go_simp; (try with_reducible rfl)
  try simp only [Act.put, zp]
  refine zE 55 #[zT,zT,zT,zT,zT,zT,zT,zT,zT,zT,zT,zT,zT,zT,zT,zT,zT,zT,zT,zT,zT,zT,zT,zT,zT,zT,zT,zT,zT,zT,zT,zT,zT,zT,zT,zT,zT,zT,zT,zT,zT,zT,zT,zT,zT,zT,zT,zT,zT,zT,zT,zT,zT,zT,zT,zT,zF,zF,zF,zF,zF,zF] ?_ rfl ?hy105 ?rest105
  case hy105 => intro w; go_simp; (try with_reducible rfl)
  try simp only [Act.put, zp]
  refine zE 56 #[zT,zT,zT,zT,zT,zT,zT,zT,zT,zT,zT,zT,zT,zT,zT,zT,zT,zT,zT,zT,zT,zT,zT,zT,zT,zT,zT,zT,zT,zT,zT,zT,zT,zT,zT,zT,zT,zT,zT,zT,zT,zT,zT,zT,zT,zT,zT,zT,zT,zT,zT,zT,zT,zT,zT,zT,zT,zF,zF,zF,zF,zF] ?_ rfl ?hy106 ?rest106
  case hy106 => intro w; go_simp; (try with_reducible rfl)
  try simp only [Act.put, zp]
  refine zE 57 #[zT,zT,zT,zT,zT,zT,zT,zT,zT,zT,zT,zT,zT,zT,zT,zT,zT,zT,zT,zT,zT,zT,zT,zT,zT,zT,zT,zT,zT,zT,zT,zT,zT,zT,zT,zT,zT,zT,zT,zT,zT,zT,zT,zT,zT,zT,zT,zT,zT,zT,zT,zT,zT,zT,zT,zT,zT,zT,zF,zF,zF,zF] ?_ rfl ?hy107 ?rest107
  case hy107 => intro w; go_simp; (try with_reducible rfl)
  try simp only [Act.put, zp]
  refine zE 58 #[zT,zT,zT,zT,zT,zT,zT,zT,zT,zT,zT,zT,zT,zT,zT,zT,zT,zT,zT,zT,zT,zT,zT,zT,zT,zT,zT,zT,zT,zT,zT,zT,zT,zT,zT,zT,zT,zT,zT,zT,zT,zT,zT,zT,zT,zT,zT,zT,zT,zT,zT,zT,zT,zT,zT,zT,zT,zT,zT,zF,zF,zF] ?_ rfl ?hy108 ?rest108
  case hy108 => intro w; go_simp; (try with_reducible rfl)
  try simp only [Act.put, zp]
  refine zE 59 #[zT,zT,zT,zT,zT,zT,zT,zT,zT,zT,zT,zT,zT,zT,zT,zT,zT,zT,zT,zT,zT,zT,zT,zT,zT,zT,zT,zT,zT,zT,zT,zT,zT,zT,zT,zT,zT,zT,zT,zT,zT,zT,zT,zT,zT,zT,zT,zT,zT,zT,zT,zT,zT,zT,zT,zT,zT,zT,zT,zT,zF,zF] ?_ rfl ?hy109 ?rest109
  case hy109 => intro w; go_simp; (try with_reducible rfl)
  try simp only [Act.put, zp]
  refine zE 60 #[zT,zT,zT,zT,zT,zT,zT,zT,zT,zT,zT,zT,zT,zT,zT,zT,zT,zT,zT,zT,zT,zT,zT,zT,zT,zT,zT,zT,zT,zT,zT,zT,zT,zT,zT,zT,zT,zT,zT,zT,zT,zT,zT,zT,zT,zT,zT,zT,zT,zT,zT,zT,zT,zT,zT,zT,zT,zT,zT,zT,zT,zF] ?_ rfl ?hy110 ?rest110
  case hy110 => intro w; go_simp; (try with_reducible rfl)
  try simp only [Act.put, zp]
  refine zE 61 #[zT,zT,zT,zT,zT,zT,zT,zT,zT,zT,zT,zT,zT,zT,zT,zT,zT,zT,zT,zT,zT,zT,zT,zT,zT,zT,zT,zT,zT,zT,zT,zT,zT,zT,zT,zT,zT,zT,zT,zT,zT,zT,zT,zT,zT,zT,zT,zT,zT,zT,zT,zT,zT,zT,zT,zT,zT,zT,zT,zT,zT,zT] ?_ rfl ?hy111 ?rest111
  case hy111 => intro w; go_simp; (try with_reducible rfl)
  try simp only [Act.put, zp]
  refine doneE (by kernel_rfl) ?_ _
  go_wp2
  go_ret
  exact ⟨rfl, (lz j2 (lz j4 (lz j6 (lz j8 (lz bw (lz j46 (lz j48 (lz j51 (lz j53 (lz j55 (lz j57 (lz j61 (lz j63 (lz j67 (lz j69 (lz j71 (lz j77 (lz j81 (lz j83 (lz j85 (lz j89 (lz j91 (lz j97 (lz j101 (lz j104 (lz j108 j110))))))))))))))))))))))))))⟩
end Ma
end Go.Proofs.YtbbnbgllgomolaaDoor
namespace Go.Proofs.YtbbnbgllgomolaaDoor
open Go.RowKit
namespace Ma
open Dp Dy
theorem OwnM.addrK {w : World} {base n c : Nat} {A : Option Addr} {ms : List Mv} (h : OwnM w base (.slice A n c) n ms) (hn : 0 < n) : ∃ g o, A = some ⟨g, o, none⟩ ∧ o = 0 ∧ base ≤ g ∧ g < w.heap.size := by
 rcases h.own.2 with ⟨_, e0⟩ | ⟨g, cap, cur, e, hb, hg, _⟩
 · omega
 · injection e with e1 e2 e3
   exact ⟨g, 0, e1, rfl, hb, (Array.getElem?_eq_some_iff.1 hg).1⟩
end Ma
end Go.Proofs.YtbbnbgllgomolaaDoor
namespace Go.Proofs.YtbbnbgllgomolaaDoor
open Go.ChangeShapes Go.WideShapes Go.ChangeAt Go.RowKit
theorem trodAll_five {H : Type} {enc : TypeId × Value → H} {P : Program} {w : World} {base : Nat} {spare : Nat → Bool} {held : Bool} {t t' t'' t3 t4 : TypeId} {args : Array Value} {ds : List (DataW H)} {ps : List MemPlace} (h : DataW.TrodAll enc P w base spare held [t, t', t'', t3, t4] args.toList ds ps) :
  ∃ v v' v'' v3 v4 d d' d'' d3 d4 p p' p'' p3 p4, args = #[v, v', v'', v3, v4] ∧ ds = [d, d', d'', d3, d4] ∧ ps = p ++ p' ++ p'' ++ p3 ++ p4 ∧ DataW.Trod enc P w base spare held t v d p ∧ DataW.Trod enc P w base spare held t' v' d' p' ∧ DataW.Trod enc P w base spare held t'' v'' d'' p'' ∧ DataW.Trod enc P w base spare held t3 v3 d3 p3 ∧ DataW.Trod enc P w base spare held t4 v4 d4 p4 := by
 obtain ⟨v, vs, d, ds', p, q, hargs, rfl, rfl, hd, h⟩ := trodAll_cons h
 obtain ⟨v', vs', d', ds'', p', q', rfl, rfl, rfl, hd', h⟩ := trodAll_cons h
 obtain ⟨v'', vs'', d'', ds3, p'', q'', rfl, rfl, rfl, hd'', h⟩ := trodAll_cons h
 obtain ⟨v3, vs3, d3, ds4, p3, q3, rfl, rfl, rfl, hd3, h⟩ := trodAll_cons h
 obtain ⟨v4, vs4, d4, ds5, p4, q4, rfl, rfl, rfl, hd4, h⟩ := trodAll_cons h
 obtain ⟨rfl, rfl, rfl⟩ := trodAll_nil h
 refine ⟨v, v', v'', v3, v4, d, d', d'', d3, d4, p, p', p'', p3, p4, ?_, rfl, by simp, hd, hd', hd'', hd3, hd4⟩
 rw [← Array.toArray_toList (xs := args), hargs]
end Go.Proofs.YtbbnbgllgomolaaDoor