/- The law PushNames: a walk (printed by a program of mine). -/
import Derived.Test.YtbbnbgllgomolaaDoorBs21
namespace Go.Proofs.YtbbnbgllgomolaaDoor
open Go.RowKit
namespace Ma
open Dp Dy
theorem zm_share : ZM.share := ⟨IsM.zero.may zR_may, rfl, fun _ => rfl⟩
theorem zm_give : giveM ZM = ((zR, zR), 6) := by
 unfold giveM
 rw [if_neg (by rw [badS_one.2 zm_share]; simp), if_pos (show ZM.W.n = 0 from rfl)]
theorem zm_mean : meanM ZM 3 = ((Dn.zero, Dn.zero), 6) := by
 unfold meanM
 rw [if_neg (by rw [badS_one.2 zm_share]; simp), if_neg (by decide), if_pos (show ZM.W.n = 0 from rfl)]
theorem zm_between : betweenM ZM 5 9 = (true, 0) := by
 unfold betweenM
 rw [if_neg (by rw [badS_one.2 zm_share]; simp), if_neg (by decide), if_pos (show ZM.W.n = 0 from rfl)]
theorem mean_far {m : Mv} (h : m.share) {k : Int} (hk : k < 0 ∨ 64 < k) : meanM m k = ((Dn.zero, Dn.zero), 2) := by
 unfold meanM
 rw [if_neg (by rw [badS_one.2 h]; simp), if_pos hk]
theorem between_far {m : Mv} (h : m.share) {low high : Int} (hk : low < -2147483647 ∨ 2147483647 < high ∨ high < low) : betweenM m low high = (false, 2) := by
 unfold betweenM
 rw [if_neg (by rw [badS_one.2 h]; simp), if_pos hk]
theorem lies44 : liesD ⟨false, 4, 0⟩ ⟨false, 1, 0⟩ 4 4 := ⟨0, by decide, by decide, by decide, by decide⟩
theorem lies59 : ¬ liesD ⟨false, 4, 0⟩ ⟨false, 1, 0⟩ 5 9 := fun h => by
 have := (lies_at h (K := 0) (by decide) (by decide)).1
 revert this
 decide
theorem tiny_half : halfD ⟨false, 1, 1024⟩ = (Dn.zero, 10) := by
 refine (half_cases _).resolve_left fun h => ?_
 have h1 := (half_vl h).2 1025 (by decide)
 have h2 : vl ⟨false, 1, 1024⟩ 1025 = 2 := by decide
 obtain ⟨h3, _⟩ := half_vl h
 have h4 := half_may ⟨false, 1, 1024⟩
 have h5 : vl (halfD ⟨false, 1, 1024⟩).1 1025 = 1 := by omega
 have h6 := h4.2.1
 have h7 := vl_more (halfD ⟨false, 1, 1024⟩).1 (k := 1024) (l := 1025) h6 (by decide)
 have h8 : (2 : Int) ^ (1025 - 1024) = 2 := rfl
 rw [h5, h8] at h7
 omega
theorem give_over {w : World} {lo hi : Nat} {m : Mv} {R : Nat → Dn} (hR : MRows w lo hi m) (h : IsM R m) (hr : MayR R) (hs : m.share) (h0 : (R 1).m ≠ 0) (hb : (halfD (R 1)).2 ≠ 0) : giveM m = ((zR, zR), 10) := by
 have l1 : m.W.n ≠ 0 := fun k => h0 ((Is.len (h 1 (by decide)) hR.W).1 k)
 have e1 : halfX m.W.s m.W.xs m.W.e = halfD (R 1) := (h 1 (by decide)).half (hr 1 (by decide))
 unfold giveM
 rw [if_neg (by rw [badS_one.2 hs]; simp), if_neg l1]
 unfold splitM
 rw [if_pos hs.1, if_neg]
 rintro ⟨_, k⟩
 rw [e1] at k
 exact hb k
theorem not_share {w : World} {lo hi : Nat} {m : Mv} {R : Nat → Dn} (hR : MRows w lo hi m) (h : IsM R m) (hr : MayR R) (hn : ¬ ((R 1).neg = false ∧ ((R 1).m = 0 → (R 0).m = 0))) : badS [m] = true :=
 badS_yes (List.mem_singleton.2 rfl) fun k => hn ((share_is hR h hr).1 k)
set_option maxHeartbeats 102400000 in
set_option maxRecDepth 100000 in
theorem punames_walk (w : World) (hT : Tab w) : Calls Tryd.prog 7 #[] w fun e w' => e = .returned (.bool true) ∧ Below w.heap.size w w' := by
 go_enter Tryd.func7, Tryd.ntmps7
 go_wp2_with fail
 refine (Of_any w (4) (by decide) (by decide) false 4 rfl rfl).mono ?_
 rintro e' v1 ⟨A1, n1, rfl, j2, I1⟩
 try clear hw
 replace I1 := ints_all I1
 go_wp2_with fail
 refine (Of_any v1 (1) (by decide) (by decide) false 1 rfl rfl).mono ?_
 rintro e' v3 ⟨A2, n2, rfl, j4, I2⟩
 try clear hw
 replace I2 := ints_all I2
 obtain ⟨M, hM⟩ : ∃ M : Mv, M = ⟨⟨false, A1, n1, n1, 0, canon 4294967296 4⟩, ⟨false, A2, n2, n2, 0, canon 4294967296 1⟩, ZM.C, ZM.A⟩ := ⟨_, rfl⟩
 have RM : MRows v3 0 v3.heap.size M := by
  rw [hM]
  exact ⟨(ints_on I1 j4), I2, Ints.nil_ .., Ints.nil_ ..⟩
 have iM : IsM (twoR ⟨false, 4, 0⟩ ⟨false, 1, 0⟩) M := by
  rw [hM]
  exact twoR_is ⟨rfl, rfl, rfl⟩ ⟨rfl, rfl, rfl⟩
 have mM : MayR (twoR ⟨false, 4, 0⟩ ⟨false, 1, 0⟩) := twoR_may (sm _ _ (by decide) (by decide) (by decide) (by decide)) (sm _ _ (by decide) (by decide) (by decide) (by decide))
 have sM : M.share := (share_is RM iM mM).2 ⟨rfl, fun h => absurd h (by decide)⟩
 have E1 := Lib.hid (mean_far sM (k := 65) (.inr (by decide)))
 have E2 := Lib.hid (between_far sM (low := 3) (high := 2) (.inr (.inr (by decide))))
 have E3 := Lib.hid (between_far sM (low := -2147483648) (high := 2) (.inl (by decide)))
 have E4 := Lib.hid (between_of RM iM sM (low := 4) (high := 4) (by decide) (by decide) (by decide) (b := true) ⟨fun _ => lies44, fun _ => rfl⟩)
 have E5 := Lib.hid (between_of RM iM sM (low := 5) (high := 9) (by decide) (by decide) (by decide) (b := false) ⟨fun h => absurd h (by decide), fun h => absurd h lies59⟩)
 clear iM mM sM
 have bM : MBox (v3.alloc (.cells #[.bool false, .slice A1 n1 n1, .int .i64 0, .bool false, .slice A2 n2 n2, .int .i64 0, .bool false, .slice none 0 0, .int .i64 0, .bool false, .slice none 0 0, .int .i64 0] 26)) v3.heap.size M := by rw [hM]; exact heap_alloc_last _ _
 have j6 : Below v3.heap.size v3 (v3.alloc (.cells #[.bool false, .slice A1 n1 n1, .int .i64 0, .bool false, .slice A2 n2 n2, .int .i64 0, .bool false, .slice none 0 0, .int .i64 0, .bool false, .slice none 0 0, .int .i64 0] 26)) := (Below.refl _ _).alloc (Nat.le_refl _) _
 have s7 : v3.heap.size < (v3.alloc (.cells #[.bool false, .slice A1 n1 n1, .int .i64 0, .bool false, .slice A2 n2 n2, .int .i64 0, .bool false, .slice none 0 0, .int .i64 0, .bool false, .slice none 0 0, .int .i64 0] 26)).heap.size := by simp
 clear hM
 go_wp2_with fail
 generalize hw : (v3.alloc (.cells #[.bool false, .slice A1 n1 n1, .int .i64 0, .bool false, .slice A2 n2 n2, .int .i64 0, .bool false, .slice none 0 0, .int .i64 0, .bool false, .slice none 0 0, .int .i64 0] 26)) = v5 at *
 clear hw
 refine (Give_num v5 ZM (ZM_rows ..) (tab_later hT (later j2 (later j4 j6))) zR zR 6 zm_give).mono ?_
 rintro e' v8 ⟨k, s, rfl, j9, ik, is, B, lb1, lb2, Rk, Rs⟩
 try clear hw
 clear ik is lb1 lb2 Rk Rs
 obtain ⟨v10, hw, bk, bs, j11, s12_⟩ := alloc_mm v8 k s
 have s12 : v8.heap.size < v10.heap.size := by omega
 have s12b : v8.heap.size + 1 < v10.heap.size := by omega
 go_wp2_with fail
 refine (Mean_num v10 ZM 3 (ZM_rows ..) Dn.zero Dn.zero 6 zm_mean).mono ?_
 rintro e' v13 ⟨X, Y, rfl, j14, iX, iY, B1, l1, l2, RX, RY⟩
 try clear hw
 clear iX iY l1 l2 RX RY
 obtain ⟨v15, hw⟩ : ∃ U, (v13.alloc (.cells #[.bool X.s, .slice X.A X.n X.c, .int .i64 X.e] 24)).alloc (.cells #[.bool Y.s, .slice Y.A Y.n Y.c, .int .i64 Y.e] 24) = U := ⟨_, rfl⟩
 obtain ⟨bx, byy, j16, s17_, s17__⟩ := boxes2 v13 _ _ hw
 replace j16 : Below v13.heap.size v13 v15 := j16
 replace bx : v15.heap[v13.heap.size]? = some (.cells #[.bool X.s, .slice X.A X.n X.c, .int .i64 X.e] 24 (0, 0)) := bx
 replace byy : v15.heap[v13.heap.size + 1]? = some (.cells #[.bool Y.s, .slice Y.A Y.n Y.c, .int .i64 Y.e] 24 (0, 0)) := byy
 have s17 : v13.heap.size < v15.heap.size := by omega
 have s17b : v13.heap.size + 1 < v15.heap.size := by omega
 obtain ⟨⟨q18_0, q18_1, q18_2, q18_3, q18_4, q18_5, q18_6, q18_7, q18_8, q18_9, q18_10, q18_11⟩, q18f⟩ := MBox.cells (box_later bM (later j9 (later j11 (later j14 j16))) s7)
 go_wp2_with fail
 refine (Mean_num v15 M 65 (MRows.on RM (later j6 (later j9 (later j11 (later j14 j16))))) Dn.zero Dn.zero 2 E1.out).mono ?_
 rintro e' v19 ⟨P, Q, rfl, j20, iP, iQ, B2, l1, l2, RP, RQ⟩
 clear q18_0 q18_1 q18_2 q18_3 q18_4 q18_5 q18_6 q18_7 q18_8 q18_9 q18_10 q18_11 q18f
 try clear hw
 clear iP iQ l1 l2 RP RQ
 obtain ⟨v21, hw⟩ : ∃ U, (v19.alloc (.cells #[.bool P.s, .slice P.A P.n P.c, .int .i64 P.e] 24)).alloc (.cells #[.bool Q.s, .slice Q.A Q.n Q.c, .int .i64 Q.e] 24) = U := ⟨_, rfl⟩
 obtain ⟨bp, bq, j22, s23_, s23__⟩ := boxes2 v19 _ _ hw
 replace j22 : Below v19.heap.size v19 v21 := j22
 replace bp : v21.heap[v19.heap.size]? = some (.cells #[.bool P.s, .slice P.A P.n P.c, .int .i64 P.e] 24 (0, 0)) := bp
 replace bq : v21.heap[v19.heap.size + 1]? = some (.cells #[.bool Q.s, .slice Q.A Q.n Q.c, .int .i64 Q.e] 24 (0, 0)) := bq
 have s23 : v19.heap.size < v21.heap.size := by omega
 have s23b : v19.heap.size + 1 < v21.heap.size := by omega
 obtain ⟨⟨q24_0, q24_1, q24_2, q24_3, q24_4, q24_5, q24_6, q24_7, q24_8, q24_9, q24_10, q24_11⟩, q24f⟩ := MBox.cells (box_later bM (later j9 (later j11 (later j14 (later j16 (later j20 j22))))) s7)
 go_wp2_with fail
 refine (Between_num v21 M 3 2 (by decide) (by decide) (MRows.on RM (later j6 (later j9 (later j11 (later j14 (later j16 (later j20 j22))))))) (tab_later hT (later j2 (later j4 (later j6 (later j9 (later j11 (later j14 (later j16 (later j20 j22))))))))) false 2 E2.out).mono ?_
 rintro e' v25 ⟨rfl, j26⟩
 clear q24_0 q24_1 q24_2 q24_3 q24_4 q24_5 q24_6 q24_7 q24_8 q24_9 q24_10 q24_11 q24f
 try clear hw
 obtain ⟨⟨q27_0, q27_1, q27_2, q27_3, q27_4, q27_5, q27_6, q27_7, q27_8, q27_9, q27_10, q27_11⟩, q27f⟩ := MBox.cells (box_later bM (later j9 (later j11 (later j14 (later j16 (later j20 (later j22 j26)))))) s7)
 go_wp2_with fail
 refine (Between_num v25 M (-2147483648) 2 (by decide) (by decide) (MRows.on RM (later j6 (later j9 (later j11 (later j14 (later j16 (later j20 (later j22 j26)))))))) (tab_later hT (later j2 (later j4 (later j6 (later j9 (later j11 (later j14 (later j16 (later j20 (later j22 j26)))))))))) false 2 E3.out).mono ?_
 rintro e' v28 ⟨rfl, j29⟩
 clear q27_0 q27_1 q27_2 q27_3 q27_4 q27_5 q27_6 q27_7 q27_8 q27_9 q27_10 q27_11 q27f
 try clear hw
 obtain ⟨⟨q30_0, q30_1, q30_2, q30_3, q30_4, q30_5, q30_6, q30_7, q30_8, q30_9, q30_10, q30_11⟩, q30f⟩ := MBox.cells (box_later bM (later j9 (later j11 (later j14 (later j16 (later j20 (later j22 (later j26 j29))))))) s7)
 go_wp2_with fail
 refine (Between_num v28 M 4 4 (by decide) (by decide) (MRows.on RM (later j6 (later j9 (later j11 (later j14 (later j16 (later j20 (later j22 (later j26 j29))))))))) (tab_later hT (later j2 (later j4 (later j6 (later j9 (later j11 (later j14 (later j16 (later j20 (later j22 (later j26 j29))))))))))) true 0 E4.out).mono ?_
 rintro e' v31 ⟨rfl, j32⟩
 clear q30_0 q30_1 q30_2 q30_3 q30_4 q30_5 q30_6 q30_7 q30_8 q30_9 q30_10 q30_11 q30f
 try clear hw
 obtain ⟨⟨q33_0, q33_1, q33_2, q33_3, q33_4, q33_5, q33_6, q33_7, q33_8, q33_9, q33_10, q33_11⟩, q33f⟩ := MBox.cells (box_later bM (later j9 (later j11 (later j14 (later j16 (later j20 (later j22 (later j26 (later j29 j32)))))))) s7)
 go_wp2_with fail
 refine (Between_num v31 M 5 9 (by decide) (by decide) (MRows.on RM (later j6 (later j9 (later j11 (later j14 (later j16 (later j20 (later j22 (later j26 (later j29 j32)))))))))) (tab_later hT (later j2 (later j4 (later j6 (later j9 (later j11 (later j14 (later j16 (later j20 (later j22 (later j26 (later j29 j32)))))))))))) false 0 E5.out).mono ?_
 rintro e' v34 ⟨rfl, j35⟩
 clear q33_0 q33_1 q33_2 q33_3 q33_4 q33_5 q33_6 q33_7 q33_8 q33_9 q33_10 q33_11 q33f
 try clear hw
 go_wp2_with fail
 refine (Between_num v34 ZM 5 9 (by decide) (by decide) (ZM_rows ..) (tab_later hT (later j2 (later j4 (later j6 (later j9 (later j11 (later j14 (later j16 (later j20 (later j22 (later j26 (later j29 (later j32 j35))))))))))))) true 0 zm_between).mono ?_
 rintro e' v36 ⟨rfl, j37⟩
 try clear hw
 go_wp2_with fail
 refine (Of_any v36 (1) (by decide) (by decide) false 1 rfl rfl).mono ?_
 rintro e' v38 ⟨A3, n3, rfl, j39, I3⟩
 try clear hw
 replace I3 := ints_all I3
 obtain ⟨N, hN⟩ : ∃ N : Mv, N = ⟨⟨false, A3, n3, n3, 0, canon 4294967296 1⟩, ⟨false, some ⟨v38.heap.size, 0, none⟩, 1, 1, 1024, canon 4294967296 1⟩, ZM.C, ZM.A⟩ := ⟨_, rfl⟩
 obtain ⟨X1, X2, j41, lo3, hi3⟩ := boxes2 v38 _ _ (rfl : ((v38.alloc (.cells #[.int .u32 1] 58)).alloc (.cells #[.bool false, .slice A3 n3 n3, .int .i64 0, .bool false, .slice (some ⟨v38.heap.size, 0, none⟩) 1 1, .int .i64 1024, .bool false, .slice none 0 0, .int .i64 0, .bool false, .slice none 0 0, .int .i64 0] 26)) = ((v38.alloc (.cells #[.int .u32 1] 58)).alloc (.cells #[.bool false, .slice A3 n3 n3, .int .i64 0, .bool false, .slice (some ⟨v38.heap.size, 0, none⟩) 1 1, .int .i64 1024, .bool false, .slice none 0 0, .int .i64 0, .bool false, .slice none 0 0, .int .i64 0] 26)))
 replace j41 : Below v38.heap.size v38 ((v38.alloc (.cells #[.int .u32 1] 58)).alloc (.cells #[.bool false, .slice A3 n3 n3, .int .i64 0, .bool false, .slice (some ⟨v38.heap.size, 0, none⟩) 1 1, .int .i64 1024, .bool false, .slice none 0 0, .int .i64 0, .bool false, .slice none 0 0, .int .i64 0] 26)) := j41
 replace X1 : ((v38.alloc (.cells #[.int .u32 1] 58)).alloc (.cells #[.bool false, .slice A3 n3 n3, .int .i64 0, .bool false, .slice (some ⟨v38.heap.size, 0, none⟩) 1 1, .int .i64 1024, .bool false, .slice none 0 0, .int .i64 0, .bool false, .slice none 0 0, .int .i64 0] 26)).heap[v38.heap.size]? = some (.cells #[.int .u32 (1 : Nat)] 58 (0, 0)) := X1
 have bN : MBox ((v38.alloc (.cells #[.int .u32 1] 58)).alloc (.cells #[.bool false, .slice A3 n3 n3, .int .i64 0, .bool false, .slice (some ⟨v38.heap.size, 0, none⟩) 1 1, .int .i64 1024, .bool false, .slice none 0 0, .int .i64 0, .bool false, .slice none 0 0, .int .i64 0] 26)) (v38.heap.size + 1) N := by rw [hN]; exact X2
 have RN : MRows ((v38.alloc (.cells #[.int .u32 1] 58)).alloc (.cells #[.bool false, .slice A3 n3 n3, .int .i64 0, .bool false, .slice (some ⟨v38.heap.size, 0, none⟩) 1 1, .int .i64 1024, .bool false, .slice none 0 0, .int .i64 0, .bool false, .slice none 0 0, .int .i64 0] 26)) 0 ((v38.alloc (.cells #[.int .u32 1] 58)).alloc (.cells #[.bool false, .slice A3 n3 n3, .int .i64 0, .bool false, .slice (some ⟨v38.heap.size, 0, none⟩) 1 1, .int .i64 1024, .bool false, .slice none 0 0, .int .i64 0, .bool false, .slice none 0 0, .int .i64 0] 26)).heap.size N := by
  rw [hN]
  exact ⟨ints_on I3 j41, (row_one X1 (by decide) (by decide)).more (Nat.zero_le _) (by omega), Ints.nil_ .., Ints.nil_ ..⟩
 have iN : IsM (twoR ⟨false, 1, 0⟩ ⟨false, 1, 1024⟩) N := by
  rw [hN]
  exact twoR_is ⟨rfl, rfl, rfl⟩ ⟨rfl, rfl, rfl⟩
 have mN : MayR (twoR ⟨false, 1, 0⟩ ⟨false, 1, 1024⟩) := twoR_may (sm _ _ (by decide) (by decide) (by decide) (by decide)) (sm _ _ (by decide) (by decide) (by decide) (by decide))
 have sN : N.share := (share_is RN iN mN).2 ⟨rfl, fun h => absurd h (by decide)⟩
 have E6 := Lib.hid (give_over RN iN mN sN (by decide) (show (halfD ⟨false, 1, 1024⟩).2 ≠ 0 by rw [tiny_half]; decide))
 have E7 := Lib.hid (badS_one.2 sN)
 have sbN : v38.heap.size + 1 < ((v38.alloc (.cells #[.int .u32 1] 58)).alloc (.cells #[.bool false, .slice A3 n3 n3, .int .i64 0, .bool false, .slice (some ⟨v38.heap.size, 0, none⟩) 1 1, .int .i64 1024, .bool false, .slice none 0 0, .int .i64 0, .bool false, .slice none 0 0, .int .i64 0] 26)).heap.size := by omega
 clear iN mN sN hN X1 X2 lo3 hi3
 obtain ⟨⟨k0, k1, k2, k3, k4, k5, k6, k7, k8, k9, k10, k11⟩, kf⟩ := MBox.cells bN
 go_wp2_with fail
 clear k0 k1 k2 k3 k4 k5 k6 k7 k8 k9 k10 k11 kf
 generalize hw : ((v38.alloc (.cells #[.int .u32 1] 58)).alloc (.cells #[.bool false, .slice A3 n3 n3, .int .i64 0, .bool false, .slice (some ⟨v38.heap.size, 0, none⟩) 1 1, .int .i64 1024, .bool false, .slice none 0 0, .int .i64 0, .bool false, .slice none 0 0, .int .i64 0] 26)) = v40 at *
 clear hw
 refine (Give_num v40 N RN (tab_later hT (later j2 (later j4 (later j6 (later j9 (later j11 (later j14 (later j16 (later j20 (later j22 (later j26 (later j29 (later j32 (later j35 (later j37 (later j39 j41)))))))))))))))) zR zR 10 E6.out).mono ?_
 rintro e' v42 ⟨k2, s2, rfl, j43, ik, is, B3, lb1, lb2, Rk, Rs⟩
 try clear hw
 clear ik is lb1 lb2 Rk Rs
 obtain ⟨v44, hw, bk2, bs2, j45, s46_⟩ := alloc_mm v42 k2 s2
 have s46 : v42.heap.size < v44.heap.size := by omega
 have s46b : v42.heap.size + 1 < v44.heap.size := by omega
 go_wp2_with fail
 refine (Of_any v44 (1) (by decide) (by decide) false 1 rfl rfl).mono ?_
 rintro e' v47 ⟨A4, n4, rfl, j48, I4⟩
 try clear hw
 replace I4 := ints_all I4
 have R4 : MRows v47 0 v47.heap.size ⟨⟨false, A4, n4, n4, 0, canon 4294967296 1⟩, ZM.C, ZM.C, ZM.A⟩ := ⟨I4, Ints.nil_ .., Ints.nil_ .., Ints.nil_ ..⟩
 have E8 := Lib.hid (not_share R4 (twoR_is (a := ⟨false, 1, 0⟩) (b := Dn.zero) ⟨rfl, rfl, rfl⟩ Is.zero) (twoR_may (sm _ _ (by decide) (by decide) (by decide) (by decide)) zero_may) (fun h => absurd (h.2 rfl) (by decide)))
 go_wp2_with fail
 refine (PCheck_any v47 ⟨⟨false, A4, n4, n4, 0, canon 4294967296 1⟩, ZM.C, ZM.C, ZM.A⟩ R4 true E8.out).mono ?_
 rintro e' v49 ⟨rfl, j50⟩
 try clear hw
 clear R4 E8
 go_wp2_with fail
 refine (Of_any v49 (-1) (by decide) (by decide) true 1 rfl rfl).mono ?_
 rintro e' v51 ⟨A5, n5, rfl, j52, I5⟩
 try clear hw
 replace I5 := ints_all I5
 have R5 : MRows v51 0 v51.heap.size ⟨ZM.C, ⟨true, A5, n5, n5, 0, canon 4294967296 1⟩, ZM.C, ZM.A⟩ := ⟨Ints.nil_ .., I5, Ints.nil_ .., Ints.nil_ ..⟩
 have E9 := Lib.hid (not_share R5 (twoR_is (a := Dn.zero) (b := ⟨true, 1, 0⟩) Is.zero ⟨rfl, rfl, rfl⟩) (twoR_may zero_may (may_small _ _ _ (by decide) (by decide) (by decide) (by decide))) (fun h => absurd h.1 (by decide)))
 go_wp2_with fail
 refine (PCheck_any v51 ⟨ZM.C, ⟨true, A5, n5, n5, 0, canon 4294967296 1⟩, ZM.C, ZM.A⟩ R5 true E9.out).mono ?_
 rintro e' v53 ⟨rfl, j54⟩
 try clear hw
 clear R5 E9
 obtain ⟨⟨q55_0, q55_1, q55_2, q55_3, q55_4, q55_5, q55_6, q55_7, q55_8, q55_9, q55_10, q55_11⟩, q55f⟩ := MBox.cells (box_later bN (later j43 (later j45 (later j48 (later j50 (later j52 j54))))) sbN)
 go_wp2_with fail
 refine (PCheck_any v53 N (MRows.on RN (later j43 (later j45 (later j48 (later j50 (later j52 j54)))))) false E7.out).mono ?_
 rintro e' v56 ⟨rfl, j57⟩
 clear q55_0 q55_1 q55_2 q55_3 q55_4 q55_5 q55_6 q55_7 q55_8 q55_9 q55_10 q55_11 q55f
 try clear hw
 go_wp2_with fail
 refine (alive15_any v56 (tab_later hT (later j2 (later j4 (later j6 (later j9 (later j11 (later j14 (later j16 (later j20 (later j22 (later j26 (later j29 (later j32 (later j35 (later j37 (later j39 (later j41 (later j43 (later j45 (later j48 (later j50 (later j52 (later j54 j57)))))))))))))))))))))))).mono ?_
 rintro e' v58 ⟨rfl, j59⟩
 try clear hw
 go_wp2
 go_ret
 exact ⟨rfl, (later j2 (later j4 (later j6 (later j9 (later j11 (later j14 (later j16 (later j20 (later j22 (later j26 (later j29 (later j32 (later j35 (later j37 (later j39 (later j41 (later j43 (later j45 (later j48 (later j50 (later j52 (later j54 (later j57 j59)))))))))))))))))))))))⟩
end Ma
end Go.Proofs.YtbbnbgllgomolaaDoor