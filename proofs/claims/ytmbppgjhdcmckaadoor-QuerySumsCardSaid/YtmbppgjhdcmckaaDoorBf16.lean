/- push.Between: a walk (printed by a program of mine). -/
import Derived.Test.YtmbppgjhdcmckaaDoorBf15
namespace Go.Proofs.YtmbppgjhdcmckaaDoor
open Go.RowKit
namespace Ma
open Dp Dy
/-- What comes of two quotients. -/
def BothN (q1 q2 : Int) (r1 r2 : Dn) (X Y : Dv) (c : Int) : Prop := (q1 = 0 ∧ q2 = 0 ∧ c = 0 ∧ Is r1 X ∧ Is r2 Y) ∨ (c ≠ 0 ∧ ¬ (q1 = 0 ∧ q2 = 0))
theorem bothN {a b : Dv} {q f : Int} {X Y : Dv} {c : Int} {r1 r2 : Dn} (h : BothR a b q f X Y c) (ha : Is r1 a) (hb : Is r2 b) : BothN q f r1 r2 X Y c := by
 rcases h with ⟨rfl, rfl, rfl, rfl, rfl⟩ | ⟨hq, rfl, rfl, rfl⟩ | ⟨rfl, hf, rfl, rfl, rfl⟩
 · exact .inl ⟨rfl, rfl, rfl, ha, hb⟩
 · exact .inr ⟨hq, fun k => hq k.1⟩
 · exact .inr ⟨hf, fun k => hf k.2⟩
theorem cmp_is {x : Dn} {X : Dv} (h : Is x X) (hx : x.May) {z : Int} (h0 : -9223372036854775808 ≤ z) (h1 : z ≤ 9223372036854775807) {s : Bool} {v : Nat} (hs : decide (z < 0) = s) (hv : z.natAbs = v) :
  cmpX s (canon 4294967296 v) 0 X.s X.xs X.e = (cmpD (whole z) x, 0) ∧ cmpX X.s X.xs X.e s (canon 4294967296 v) 0 = (cmpD x (whole z), 0) := by
 have e : (⟨s, v, 0⟩ : Dn) = whole z := by rw [← hs, ← hv]; rfl
 rw [h.1, h.2.1, h.2.2]
 have hw := whole_may h0 h1
 exact ⟨by rw [← e]; rw [← e] at hw; exact cmpX_dn hw hx, by rw [← e]; rw [← e] at hw; exact cmpX_dn hx hw⟩
theorem toX_may {s1 : Bool} {xs1 : List Int} {e1 : Int} {s2 : Bool} {xs2 : List Int} {e2 k : Int} {away : Bool} {x : Dn} {c : Int} (h : toX s1 xs1 e1 s2 xs2 e2 k away = (x, c)) : x.May := by
 unfold toX at h
 split at h
 · have := formed_may (dn s1 xs1 e1).neg ((quoN (dn s1 xs1 e1) (dn s2 xs2 e2) k.toNat).1 + if (quoN (dn s1 xs1 e1) (dn s2 xs2 e2) k.toNat).2 ≠ 0 ∧ away = true then 1 else 0) k.toNat
   unfold toD at h
   rw [h] at this
   exact this
 · injection h with h1 h2
   subst h1
   exact zero_may
set_option maxHeartbeats 102400000 in
set_option maxRecDepth 100000 in
theorem Between_num (w : World) (m : Mv) (low high : Int) (hl : (Lit.int .i64 low).wf = true) (hh : (Lit.int .i64 high).wf = true) (hR : MRows w 0 w.heap.size m) (r : Bool) (code : Int) (hg : betweenM m low high = (r, code)) :
  Calls Tryd.prog 17 #[.agg #[.bool m.S.s, .slice m.S.A m.S.n m.S.c, .int .i64 m.S.e, .bool m.W.s, .slice m.W.A m.W.n m.W.c, .int .i64 m.W.e, .bool m.C.s, .slice m.C.A m.C.n m.C.c, .int .i64 m.C.e, .bool m.A.s, .slice m.A.A m.A.n m.A.c, .int .i64 m.A.e], .int .i64 low, .int .i64 high] w fun e w' => e = .returned (.tuple #[.bool r, .int .i64 code]) ∧ Below w.heap.size w w' := by
 generalize hw1 : (w.alloc (.cells #[.bool m.S.s, .slice m.S.A m.S.n m.S.c, .int .i64 m.S.e, .bool m.W.s, .slice m.W.A m.W.n m.W.c, .int .i64 m.W.e, .bool m.C.s, .slice m.C.A m.C.n m.C.c, .int .i64 m.C.e, .bool m.A.s, .slice m.A.A m.A.n m.A.c, .int .i64 m.A.e] 26)).alloc (.cells #[.bool m.S.s, .slice m.S.A m.S.n m.S.c, .int .i64 m.S.e, .bool m.W.s, .slice m.W.A m.W.n m.W.c, .int .i64 m.W.e, .bool m.C.s, .slice m.C.A m.C.n m.C.c, .int .i64 m.C.e, .bool m.A.s, .slice m.A.A m.A.n m.A.c, .int .i64 m.A.e] 26) = w1
 obtain ⟨hM, hA, hBL, lo1, hi1⟩ := boxes2 w _ _ hw1
 replace hM : MBox w1 w.heap.size m := hM
 replace hA : MBox w1 (w.heap.size + 1) m := hA
 replace hBL : Below w.heap.size w w1 := hBL
 have Rm : MRows w1 0 w1.heap.size m := hR.on hBL
 have hLM := lm_one hA Rm
 clear hA
 have HR := Lib.hid hg
 clear hg
 obtain ⟨l0, l1⟩ : -9223372036854775808 ≤ low ∧ low ≤ 9223372036854775807 := by simpa [Lit.wf, IntKind.min, IntKind.max, IntKind.signed, IntKind.bits] using hl
 obtain ⟨h0, h1⟩ : -9223372036854775808 ≤ high ∧ high ≤ 9223372036854775807 := by simpa [Lit.wf, IntKind.min, IntKind.max, IntKind.signed, IntKind.bits] using hh
 clear hl hh
 obtain ⟨b, hb⟩ : ∃ b, badS [m] = b := ⟨_, rfl⟩
 have HB := Lib.hid hb
 clear hb
 have M1 : w.heap.size < w1.heap.size := by omega
 have M0 : MBox (w.alloc (.cells #[.bool m.S.s, .slice m.S.A m.S.n m.S.c, .int .i64 m.S.e, .bool m.W.s, .slice m.W.A m.W.n m.W.c, .int .i64 m.W.e, .bool m.C.s, .slice m.C.A m.C.n m.C.c, .int .i64 m.C.e, .bool m.A.s, .slice m.A.A m.A.n m.A.c, .int .i64 m.A.e] 26)) w.heap.size m := heap_alloc_last _ _
 obtain ⟨⟨y0, y1, y2, y3, y4, y5, y6, y7, y8, y9, y10, y11⟩, yf⟩ := MBox.cells M0
 go_enter Tryd.func17, Tryd.ntmps17
 go_wp2_with fail
 clear y0 y1 y2 y3 y4 y5 y6 y7 y8 y9 y10 y11 yf M0
 try clear hw1
 refine (faulty_any w1 (some ⟨w.heap.size + 1, 0, none⟩) 1 1 [m] hLM (by decide) b HB.out).mono ?_
 rintro e' v1 ⟨rfl, j2⟩
 try clear hw
 clear hLM
 cases b
 rotate_left
 · skip
   have hcode : ((false, 8) : Bool × Int) = (r, code) := by
    rw [← HR.out]
    unfold betweenM
    rw [if_pos HB.out]
   injection hcode with e1 e2
   subst e1 e2
   clear HR
   go_wp2
   exact bodyPost_ret (v := .tuple #[.bool false, .int .i64 8]) (by simp [results, Tryd.results17, go_sem]) rfl ⟨rfl, (later hBL j2)⟩
 · skip
   by_cases hk : low < -2147483647 ∨ 2147483647 < high ∨ high < low
   · skip
     have hcode : ((false, 2) : Bool × Int) = (r, code) := by
      rw [← HR.out]
      unfold betweenM
      rw [if_neg (by rw [HB.out]; simp), if_pos hk]
     injection hcode with e1 e2
     subst e1 e2
     clear HR
     by_cases k1 : low < -2147483647
     · skip
       go_wp2
       exact bodyPost_ret (v := .tuple #[.bool false, .int .i64 2]) (by simp [results, Tryd.results17, go_sem]) rfl ⟨rfl, (later hBL j2)⟩
     · skip
       by_cases k2 : 2147483647 < high
       · skip
         go_wp2
         exact bodyPost_ret (v := .tuple #[.bool false, .int .i64 2]) (by simp [results, Tryd.results17, go_sem]) rfl ⟨rfl, (later hBL j2)⟩
       · skip
         have k3 : high < low := by omega
         go_wp2
         exact bodyPost_ret (v := .tuple #[.bool false, .int .i64 2]) (by simp [results, Tryd.results17, go_sem]) rfl ⟨rfl, (later hBL j2)⟩
   · skip
     have k1 : ¬ low < -2147483647 := fun h => hk (.inl h)
     have k2 : ¬ 2147483647 < high := fun h => hk (.inr (.inl h))
     have k3 : ¬ high < low := fun h => hk (.inr (.inr h))
     by_cases hn : m.W.n = 0
     · skip
       have hcode : ((true, 0) : Bool × Int) = (r, code) := by
        rw [← HR.out]
        unfold betweenM
        rw [if_neg (by rw [HB.out]; simp), if_neg hk, if_pos hn]
       injection hcode with e1 e2
       subst e1 e2
       clear HR
       have HN := Lib.hid hn
       clear hn hk
       obtain ⟨⟨q3_0, q3_1, q3_2, q3_3, q3_4, q3_5, q3_6, q3_7, q3_8, q3_9, q3_10, q3_11⟩, q3f⟩ := MBox.cells (box_later hM j2 M1)
       go_wp2_with fail
       refine (none_any v1 m.W.s m.W.A m.W.n m.W.c m.W.e true (decide_eq_true HN.out)).mono ?_
       rintro e' v4 ⟨rfl, j5⟩
       clear q3_0 q3_1 q3_2 q3_3 q3_4 q3_5 q3_6 q3_7 q3_8 q3_9 q3_10 q3_11 q3f
       try clear hw
       go_wp2
       exact bodyPost_ret (v := .tuple #[.bool true, .int .i64 0]) (by simp [results, Tryd.results17, go_sem]) rfl ⟨rfl, (later hBL (later j2 j5))⟩
     · skip
       obtain ⟨r1, q1, hr1⟩ : ∃ r q, downM m 0 = (r, q) := ⟨_, _, rfl⟩
       obtain ⟨r2, q2, hr2⟩ : ∃ r q, upM m 0 = (r, q) := ⟨_, _, rfl⟩
       have h9 := HR.out
       unfold betweenM at h9
       rw [if_neg (by rw [HB.out]; simp), if_neg hk, if_neg hn, hr1, hr2] at h9
       have HD := Lib.hid h9
       have HN := Lib.hid hn
       have H1 := Lib.hid hr1
       have H2 := Lib.hid hr2
       have N1 := Lib.hid (toX_may hr1)
       have N2 := Lib.hid (toX_may hr2)
       clear h9 hn hk hr1 hr2 HR
       obtain ⟨⟨q6_0, q6_1, q6_2, q6_3, q6_4, q6_5, q6_6, q6_7, q6_8, q6_9, q6_10, q6_11⟩, q6f⟩ := MBox.cells (box_later hM j2 M1)
       go_wp2_with fail
       refine (none_any v1 m.W.s m.W.A m.W.n m.W.c m.W.e false (decide_eq_false HN.out)).mono ?_
       rintro e' v7 ⟨rfl, j8⟩
       clear q6_0 q6_1 q6_2 q6_3 q6_4 q6_5 q6_6 q6_7 q6_8 q6_9 q6_10 q6_11 q6f
       try clear hw
       go_wp2_with fail
       try clear hw
       refine region_E (Keeps v7) [] (m := 25) (L := #[zF,zF,zF,zF,zF,zF,zF,zF,zF,zF,zF,zF,zF,zF,zF,zF,zF,zF,zF,zF,zF,zF,zF,zF,zF]) (by kernel_rfl) (by rfl) (by rfl) ?_
       have j10 : Below v7.heap.size v7 v7.drew := (Below.refl _ _).drew
       generalize v7.drew = v9 at *
       refine zE 0 #[zT,zF,zF,zF,zF,zF,zF,zF,zF,zF,zF,zF,zF,zF,zF,zF,zF,zF,zF,zF,zF,zF,zF,zF,zF] ?_ rfl ?hy1 ?rest1
       case hy1 => intro w; go_simp; (try with_reducible rfl)
       try simp only [Act.put, zp]
       refine zE 2 #[zT,zF,zT,zF,zF,zF,zF,zF,zF,zF,zF,zF,zF,zF,zF,zF,zF,zF,zF,zF,zF,zF,zF,zF,zF] ?_ rfl ?hy2 ?rest2
       case hy2 => intro w; go_simp; (try with_reducible rfl)
       try simp only [Act.put, zp]
       refine zE 8 #[zT,zF,zT,zF,zF,zF,zF,zF,zT,zF,zF,zF,zF,zF,zF,zF,zF,zF,zF,zF,zF,zF,zF,zF,zF] ?_ rfl ?hy3 ?rest3
       case hy3 => intro w; go_simp; (try with_reducible rfl)
       try simp only [Act.put, zp]
       refine zE 10 #[zT,zF,zT,zF,zF,zF,zF,zF,zT,zF,zT,zF,zF,zF,zF,zF,zF,zF,zF,zF,zF,zF,zF,zF,zF] ?_ rfl ?hy4 ?rest4
       case hy4 => intro w; go_simp; (try with_reducible rfl)
       try simp only [Act.put, zp]
       have kpy11 : Keeps v7 v9 := fun p hp => Below.block j10 p hp
       refine readE (i := 1) (L := #[zT,zT,zT,zF,zF,zF,zF,zF,zT,zF,zT,zF,zF,zF,zF,zF,zF,zF,zF,zF,zF,zF,zF,zF,zF]) (v := .agg #[.bool m.S.s, .slice m.S.A m.S.n m.S.c, .int .i64 m.S.e]) rfl (by rfl) (by kernel_rfl) (by kernel_rfl) (by kernel_rfl) (fun _ _ _ h => h) (by assumption) (by rfl) ?y11 ?z12
       case y11 =>
        intro w' h1
        obtain ⟨⟨k0, k1, k2, k3, k4, k5, k6, k7, k8, k9, k10, k11⟩, kf⟩ := MBox.cells ((h1 _ (Nat.lt_of_lt_of_le M1 (Below.size (later j2 j8)))).trans (box_later hM (later j2 j8) M1))
        go_simp
       try simp only [Act.put, zp]
       have kpy13 : Keeps v7 v9 := fun p hp => Below.block j10 p hp
       refine readE (i := 3) (L := #[zT,zT,zT,zT,zF,zF,zF,zF,zT,zF,zT,zF,zF,zF,zF,zF,zF,zF,zF,zF,zF,zF,zF,zF,zF]) (v := .agg #[.bool m.W.s, .slice m.W.A m.W.n m.W.c, .int .i64 m.W.e]) rfl (by rfl) (by kernel_rfl) (by kernel_rfl) (by kernel_rfl) (fun _ _ _ h => h) (by assumption) (by rfl) ?y13 ?z14
       case y13 =>
        intro w' h1
        obtain ⟨⟨k0, k1, k2, k3, k4, k5, k6, k7, k8, k9, k10, k11⟩, kf⟩ := MBox.cells ((h1 _ (Nat.lt_of_lt_of_le M1 (Below.size (later j2 j8)))).trans (box_later hM (later j2 j8) M1))
        go_simp
       try simp only [Act.put, zp]
       have kpy15 : Keeps v7 v9 := fun p hp => Below.block j10 p hp
       refine readE (i := 9) (L := #[zT,zT,zT,zT,zF,zF,zF,zF,zT,zT,zT,zF,zF,zF,zF,zF,zF,zF,zF,zF,zF,zF,zF,zF,zF]) (v := .agg #[.bool m.S.s, .slice m.S.A m.S.n m.S.c, .int .i64 m.S.e]) rfl (by rfl) (by kernel_rfl) (by kernel_rfl) (by kernel_rfl) (fun _ _ _ h => h) (by assumption) (by rfl) ?y15 ?z16
       case y15 =>
        intro w' h1
        obtain ⟨⟨k0, k1, k2, k3, k4, k5, k6, k7, k8, k9, k10, k11⟩, kf⟩ := MBox.cells ((h1 _ (Nat.lt_of_lt_of_le M1 (Below.size (later j2 j8)))).trans (box_later hM (later j2 j8) M1))
        go_simp
       try simp only [Act.put, zp]
       have kpy17 : Keeps v7 v9 := fun p hp => Below.block j10 p hp
       refine readE (i := 11) (L := #[zT,zT,zT,zT,zF,zF,zF,zF,zT,zT,zT,zT,zF,zF,zF,zF,zF,zF,zF,zF,zF,zF,zF,zF,zF]) (v := .agg #[.bool m.W.s, .slice m.W.A m.W.n m.W.c, .int .i64 m.W.e]) rfl (by rfl) (by kernel_rfl) (by kernel_rfl) (by kernel_rfl) (fun _ _ _ h => h) (by assumption) (by rfl) ?y17 ?z18
       case y17 =>
        intro w' h1
        obtain ⟨⟨k0, k1, k2, k3, k4, k5, k6, k7, k8, k9, k10, k11⟩, kf⟩ := MBox.cells ((h1 _ (Nat.lt_of_lt_of_le M1 (Below.size (later j2 j8)))).trans (box_later hM (later j2 j8) M1))
        go_simp
       try simp only [Act.put, zp]
       refine E_of_C (fun (A : Act) a' w' => ∃ (v37 v38 v39 v40 v45 v46 v47 v48 v32 : Value) (g6 g7 : Nat) (X Y : Dv) (c : Int), a' = ((((((((((((((A.put (some 37) (v37)).put (some 38) (v38)).put (some 39) (v39)).put (some 40) (v40)).put (some 45) (v45)).put (some 46) (v46)).put (some 47) (v47)).put (some 48) (v48)).put (some 32) (v32)).put (some 49) (.agg #[.bool X.s, .slice X.A X.n X.c, .int .i64 X.e])).put (some 50) (.agg #[.bool Y.s, .slice Y.A Y.n Y.c, .int .i64 Y.e])).put (some 51) (.int .i64 c)).put (some 8) (.pointer (some ⟨g6, 0, none⟩))).put (some 9) (.pointer (some ⟨g7, 0, none⟩))) ∧ v7.heap.size ≤ g6 ∧ v7.heap.size ≤ g7 ∧ g6 ≠ g7 ∧ w'.heap[g6]? = some (.cells #[.bool false, .slice none 0 0, .int .i64 0] 24 (0, 0)) ∧ w'.heap[g7]? = some (.cells #[.bool false, .slice none 0 0, .int .i64 0] 24 (0, 0)) ∧ Below v7.heap.size v7 w' ∧ Hid (BothN q1 q2 r1 r2 X Y c) ∧ OffD w' v7.heap.size g6 g7 X ∧ OffD w' v7.heap.size g6 g7 Y) #[zT,zT,zT,zT,zT,zT,zT,zT,zT,zT,zT,zT,zT,zT,zT,zT,zT,zT,zT,zT,zT,zT,zF,zF,zF] 3 ?leaf ?tree
       case leaf =>
        rintro a' w' ⟨v37, v38, v39, v40, v45, v46, v47, v48, v32, g6, g7, X, Y, c, rfl, lg6, lg7, hne, B6, B7, bw, HD2, OX, OY⟩
        try simp only [Act.put, zp]
        have lt6 := lt_of_heap B6
        have lt7 := lt_of_heap B7
        have kp_ : Keeps v7 w' := fun p hp => Below.block bw p hp
        refine stepK (i := 22) (L := #[zT,zT,zT,zT,zT,zT,zT,zT,zT,zT,zT,zT,zT,zT,zT,zT,zT,zT,zT,zT,zT,zT,zT,zF,zF]) rfl (by rfl) (by kernel_rfl) (by rfl) (fun K hK => ?_)
        obtain ⟨⟨z0, z1, z2⟩, z3, z4, z5⟩ := boxD B6
        obtain ⟨U, hU, hX1, hbU, hfU, y1, y2⟩ := zputR B6 (.bool X.s) (.slice X.A X.n X.c) (.int .i64 X.e)
        go_simp
        try rw [hU]
        clear z0 z1 z2 z3 z4 z5 hU
        replace kp_ : Keeps v7 U := fun p hp => (hfU p (by omega)).trans (kp_ p hp)
        replace bw := hbU _ _ bw (by omega)
        replace B7 := (hfU g7 (Ne.symm hne)).trans B7
        replace OX := OX.far hfU (by omega) (.inl rfl)
        replace OY := OY.far hfU (by omega) (.inl rfl)
        refine hK _ _ ⟨fun _ _ => kp_, ?_⟩
        clear hK K hfU hbU B6
        try simp only [Act.put, zp]
        refine stepK (i := 23) (L := #[zT,zT,zT,zT,zT,zT,zT,zT,zT,zT,zT,zT,zT,zT,zT,zT,zT,zT,zT,zT,zT,zT,zT,zT,zF]) rfl (by rfl) (by kernel_rfl) (by rfl) (fun K hK => ?_)
        obtain ⟨⟨z0, z1, z2⟩, z3, z4, z5⟩ := boxD B7
        obtain ⟨U2, hU, hX2, hbU, hfU, y3, y4⟩ := zputR B7 (.bool Y.s) (.slice Y.A Y.n Y.c) (.int .i64 Y.e)
        go_simp
        try rw [hU]
        clear z0 z1 z2 z3 z4 z5 hU
        replace kp_ : Keeps v7 U2 := fun p hp => (hfU p (by omega)).trans (kp_ p hp)
        replace bw := hbU _ _ bw (by omega)
        replace hX1 := (hfU g6 hne).trans hX1
        replace OX := OX.far hfU (by omega) (.inr rfl)
        replace OY := OY.far hfU (by omega) (.inr rfl)
        refine hK _ _ ⟨fun _ _ => kp_, ?_⟩
        clear hK K hfU hbU B7 kp_
        try simp only [Act.put, zp]
        refine zE 24 #[zT,zT,zT,zT,zT,zT,zT,zT,zT,zT,zT,zT,zT,zT,zT,zT,zT,zT,zT,zT,zT,zT,zT,zT,zT] ?_ rfl ?hy11 ?rest11
        case hy11 => intro w; go_simp; (try with_reducible rfl)
        try simp only [Act.put, zp]
        refine doneE (by kernel_rfl) ?_ _
        have RX := OX.1.more (Nat.zero_le _) (Nat.le_refl _)
        have RY := OY.1.more (Nat.zero_le _) (Nat.le_refl _)
        have sX : g6 < U2.heap.size := by omega
        have sY : g7 < U2.heap.size := by omega
        clear OX OY
        rcases HD2.out with ⟨e1, e2, rfl, iX, iY⟩ | ⟨hc0, hn⟩
        rotate_left
        · skip
          have hcode := HD.out
          unfold bothD at hcode
          have hq : ¬ (if q1 = 0 then (if q2 = 0 then ((r1, r2), (0 : Int)) else ((Dn.zero, Dn.zero), q2)) else ((Dn.zero, Dn.zero), q1)).2 = 0 := by
           by_cases k1 : q1 = 0
           · rw [if_pos k1, if_neg fun k => hn ⟨k1, k⟩]
             exact fun k => hn ⟨k1, k⟩
           · rw [if_neg k1]
             exact k1
          rw [if_neg hq] at hcode
          injection hcode with e1 e2
          subst e1 e2
          have hcb : (c != 0) = true := by simpa using hc0
          have hcb2 : (c == 0) = false := by simpa using hc0
          clear hn HD HD2 hq hc0
          go_wp2
          exact bodyPost_ret (v := .tuple #[.bool false, .int .i64 0]) (by simp [results, Tryd.results17, go_sem]) rfl ⟨rfl, (later hBL (later j2 (later j8 bw)))⟩
        · skip
          have hcode := HD.out
          unfold bothD at hcode
          rw [if_pos e1, if_pos e2, if_pos rfl] at hcode
          injection hcode with e3 e4
          subst e4
          have HE := Lib.hid e3
          have C1 := Lib.hid (cmp_is iX N1.out l0 l1 (s := decide (low < 0)) (v := low.natAbs) rfl rfl).1
          have C2 := Lib.hid (cmp_is iY N2.out h0 h1 (s := decide (high < 0)) (v := high.natAbs) rfl rfl).2
          clear e1 e2 e3 HD HD2 iX iY
          obtain ⟨c1, hc1⟩ : ∃ c, cmpD (whole low) r1 = c := ⟨_, rfl⟩
          obtain ⟨c2, hc2⟩ : ∃ c, cmpD r2 (whole high) = c := ⟨_, rfl⟩
          rw [hc1] at C1 HE
          rw [hc2] at C2 HE
          clear hc1 hc2
          obtain ⟨s1, hs1⟩ : ∃ s, decide (low < 0) = s := ⟨_, rfl⟩
          obtain ⟨a1, ha1⟩ : ∃ s, low.natAbs = s := ⟨_, rfl⟩
          obtain ⟨s2, hs2⟩ : ∃ s, decide (high < 0) = s := ⟨_, rfl⟩
          obtain ⟨a2, ha2⟩ : ∃ s, high.natAbs = s := ⟨_, rfl⟩
          rw [hs1, ha1] at C1
          rw [hs2, ha2] at C2
          have S1 := Lib.hid hs1
          have A1 := Lib.hid ha1
          have S2 := Lib.hid hs2
          have A2 := Lib.hid ha2
          clear hs1 ha1 hs2 ha2
          go_wp2_with fail
          try clear hw
          refine region_E (Keeps U2) [] (m := 9) (L := #[zF,zF,zF,zF,zF,zF,zF,zF,zF]) (by kernel_rfl) (by rfl) (by rfl) ?_
          have j20 : Below U2.heap.size U2 U2.drew := (Below.refl _ _).drew
          generalize U2.drew = v19 at *
          refine zE 0 #[zT,zF,zF,zF,zF,zF,zF,zF,zF] ?_ rfl ?hy12 ?rest12
          case hy12 => intro w; go_simp; (try with_reducible rfl)
          try simp only [Act.put, zp]
          have kpy21 : Keeps U2 v19 := fun p hp => Below.block j20 p hp
          refine readE (i := 2) (L := #[zT,zF,zT,zF,zF,zF,zF,zF,zF]) (v := .agg #[.bool X.s, .slice X.A X.n X.c, .int .i64 X.e]) rfl (by rfl) (by kernel_rfl) (by kernel_rfl) (by kernel_rfl) (fun _ _ _ h => h) (by assumption) (by rfl) ?y21 ?z22
          case y21 =>
           intro w' h1
           obtain ⟨⟨p1, p2, p3⟩, p4, p5, p6⟩ := boxD ((h1 _ sX).trans hX1)
           go_simp
          try simp only [Act.put, zp]
          refine stepK (i := 1) (L := #[zT,zT,zT,zF,zF,zF,zF,zF,zF]) rfl (by rfl) (by kernel_rfl) (by rfl) (fun K hK => ?_)
          go_simp
          go_at_call 11
          refine (Of_any v19 low l0 l1 s1 a1 S1.out A1.out).mono ?_
          rintro e' v23 ⟨X9, n9, rfl, j24, I9⟩
          replace I9 := ints_all I9
          refine hK _ _ ⟨fun _ _ => fun p hp => Below.block (later j20 j24) p hp, ?_⟩
          clear hK K
          try simp only [Act.put, zp]
          refine stepK (i := 3) (L := #[zT,zT,zT,zT,zF,zF,zF,zF,zF]) rfl (by rfl) (by kernel_rfl) (by rfl) (fun K hK => ?_)
          go_simp
          go_at_call 10
          refine (Cmp_allP v23 s1 X.s X9 X.A n9 n9 X.n X.c _ _ 0 X.e I9 (ints_on RX (later j20 j24))  c1 0 C1.out).mono ?_
          rintro e' v25 ⟨rfl, j26⟩
          refine hK _ _ ⟨fun _ _ => fun p hp => Below.block (later j20 (later j24 j26)) p hp, ?_⟩
          clear hK K
          try simp only [Act.put, zp]
          refine zE 4 #[zT,zT,zT,zT,zT,zF,zF,zF,zF] ?_ rfl ?hy16 ?rest16
          case hy16 => intro w; go_simp; (try with_reducible rfl)
          try simp only [Act.put, zp]
          refine zE 5 #[zT,zT,zT,zT,zT,zT,zF,zF,zF] ?_ rfl ?hy17 ?rest17
          case hy17 => intro w; go_simp; (try with_reducible rfl)
          try simp only [Act.put, zp]
          refine zE 6 #[zT,zT,zT,zT,zT,zT,zT,zF,zF] ?_ rfl ?hy18 ?rest18
          case hy18 => intro w; go_simp; (try with_reducible rfl)
          try simp only [Act.put, zp]
          refine zE 7 #[zT,zT,zT,zT,zT,zT,zT,zT,zF] ?_ rfl ?hy19 ?rest19
          case hy19 => intro w; go_simp; (try with_reducible rfl)
          try simp only [Act.put, zp]
          refine zE 8 #[zT,zT,zT,zT,zT,zT,zT,zT,zT] ?_ rfl ?hy20 ?rest20
          case hy20 => intro w; go_simp; (try with_reducible rfl)
          try simp only [Act.put, zp]
          refine doneE (by kernel_rfl) ?_ _
          go_wp2_with fail
          try clear hw
          refine region_E (Keeps v25) [] (m := 9) (L := #[zF,zF,zF,zF,zF,zF,zF,zF,zF]) (by kernel_rfl) (by rfl) (by rfl) ?_
          have j28 : Below v25.heap.size v25 v25.drew := (Below.refl _ _).drew
          generalize v25.drew = v27 at *
          have kpy29 : Keeps v25 v27 := fun p hp => Below.block j28 p hp
          refine readE (i := 0) (L := #[zT,zF,zF,zF,zF,zF,zF,zF,zF]) (v := .agg #[.bool Y.s, .slice Y.A Y.n Y.c, .int .i64 Y.e]) rfl (by rfl) (by kernel_rfl) (by kernel_rfl) (by kernel_rfl) (fun _ _ _ h => h) (by assumption) (by rfl) ?y29 ?z30
          case y29 =>
           intro w' h1
           obtain ⟨⟨p1, p2, p3⟩, p4, p5, p6⟩ := boxD ((h1 _ (Nat.lt_of_lt_of_le sY (Below.size (later j20 (later j24 j26))))).trans (box_later hX2 (later j20 (later j24 j26)) sY))
           go_simp
          try simp only [Act.put, zp]
          refine zE 1 #[zT,zT,zF,zF,zF,zF,zF,zF,zF] ?_ rfl ?hy22 ?rest22
          case hy22 => intro w; go_simp; (try with_reducible rfl)
          try simp only [Act.put, zp]
          refine stepK (i := 2) (L := #[zT,zT,zT,zF,zF,zF,zF,zF,zF]) rfl (by rfl) (by kernel_rfl) (by rfl) (fun K hK => ?_)
          go_simp
          go_at_call 11
          refine (Of_any v27 high h0 h1 s2 a2 S2.out A2.out).mono ?_
          rintro e' v31 ⟨X8, n8, rfl, j32, I8⟩
          replace I8 := ints_all I8
          refine hK _ _ ⟨fun _ _ => fun p hp => Below.block (later j28 j32) p hp, ?_⟩
          clear hK K
          try simp only [Act.put, zp]
          refine stepK (i := 3) (L := #[zT,zT,zT,zT,zF,zF,zF,zF,zF]) rfl (by rfl) (by kernel_rfl) (by rfl) (fun K hK => ?_)
          go_simp
          go_at_call 10
          refine (Cmp_allP v31 Y.s s2 Y.A X8 Y.n Y.c n8 n8 _ _ Y.e 0 (ints_on RY (later j20 (later j24 (later j26 (later j28 j32))))) I8  c2 0 C2.out).mono ?_
          rintro e' v33 ⟨rfl, j34⟩
          refine hK _ _ ⟨fun _ _ => fun p hp => Below.block (later j28 (later j32 j34)) p hp, ?_⟩
          clear hK K
          try simp only [Act.put, zp]
          refine zE 4 #[zT,zT,zT,zT,zT,zF,zF,zF,zF] ?_ rfl ?hy25 ?rest25
          case hy25 => intro w; go_simp; (try with_reducible rfl)
          try simp only [Act.put, zp]
          refine zE 5 #[zT,zT,zT,zT,zT,zT,zF,zF,zF] ?_ rfl ?hy26 ?rest26
          case hy26 => intro w; go_simp; (try with_reducible rfl)
          try simp only [Act.put, zp]
          refine zE 6 #[zT,zT,zT,zT,zT,zT,zT,zF,zF] ?_ rfl ?hy27 ?rest27
          case hy27 => intro w; go_simp; (try with_reducible rfl)
          try simp only [Act.put, zp]
          refine zE 7 #[zT,zT,zT,zT,zT,zT,zT,zT,zF] ?_ rfl ?hy28 ?rest28
          case hy28 => intro w; go_simp; (try with_reducible rfl)
          try simp only [Act.put, zp]
          refine zE 8 #[zT,zT,zT,zT,zT,zT,zT,zT,zT] ?_ rfl ?hy29 ?rest29
          case hy29 => intro w; go_simp; (try with_reducible rfl)
          try simp only [Act.put, zp]
          refine doneE (by kernel_rfl) ?_ _
          by_cases d1 : c1 ≤ 0
          · by_cases d2 : c2 ≤ 0
            · have hr : r = true := by rw [← HE.out]; simp [d1, d2]
              subst hr
              go_wp2
              exact bodyPost_ret (v := .tuple #[.bool true, .int .i64 0]) (by simp [results, Tryd.results17, go_sem]) rfl ⟨rfl, (later hBL (later j2 (later j8 (later bw (later j20 (later j24 (later j26 (later j28 (later j32 j34)))))))))⟩
            · have hr : r = false := by rw [← HE.out]; simp [d2]
              subst hr
              go_wp2
              exact bodyPost_ret (v := .tuple #[.bool false, .int .i64 0]) (by simp [results, Tryd.results17, go_sem]) rfl ⟨rfl, (later hBL (later j2 (later j8 (later bw (later j20 (later j24 (later j26 (later j28 (later j32 j34)))))))))⟩
          · have hr : r = false := by rw [← HE.out]; simp [d1]
            subst hr
            go_wp2
            exact bodyPost_ret (v := .tuple #[.bool false, .int .i64 0]) (by simp [results, Tryd.results17, go_sem]) rfl ⟨rfl, (later hBL (later j2 (later j8 (later bw (later j20 (later j24 (later j26 (later j28 (later j32 j34)))))))))⟩
       case tree =>
        have zv9 : v7.heap.size ≤ v9.heap.size := Below.size j10
        refine stepC3 (i := 4) (j := 20) (k := 21) (Li := #[zT,zT,zT,zT,zT,zF,zF,zF,zT,zT,zT,zT,zF,zF,zF,zF,zF,zF,zF,zF,zF,zF,zF,zF,zF]) (Lj := #[zT,zT,zT,zT,zF,zF,zF,zF,zT,zT,zT,zT,zF,zF,zF,zF,zF,zF,zF,zF,zT,zF,zF,zF,zF]) (Lk := #[zT,zT,zT,zT,zF,zF,zF,zF,zT,zT,zT,zT,zF,zF,zF,zF,zF,zF,zF,zF,zF,zT,zF,zF,zF]) rfl rfl rfl (by rfl) (by rfl) (by rfl) (by kernel_rfl) (by rfl) (by rfl) (by rfl) (fun K hK => ?o1_4) (fun K hK => ?o1_20) (fun K hK => ?o1_21)
        case o1_4 =>
         go_simp
         go_at_call 39
         refine (Floor_all v9 m.S.s m.W.s m.S.A m.W.A m.S.n m.S.c m.W.n m.W.c m.S.xs m.W.xs m.S.e m.W.e (MRows.on Rm (later j2 (later j8 j10))).S (MRows.on Rm (later j2 (later j8 j10))).W 0 r1 q1 H1.out).mono ?_
         rintro e' v35 ⟨G1, m1, o1, rfl, _, j36, I1⟩
         have zv35 : v9.heap.size ≤ v35.heap.size := Below.size j36
         refine hK _ _ ⟨fun _ _ => fun p hp => Below.block (later j10 j36) p hp, ?_⟩
         clear hK K
         try simp only [Act.put, zp]
         refine zC 5 #[zT,zT,zT,zT,zT,zT,zF,zF,zT,zT,zT,zT,zF,zF,zF,zF,zF,zF,zF,zF,zF,zF,zF,zF,zF] ?_ rfl ?hy30 ?rest30
         case hy30 => intro w; go_simp; (try with_reducible rfl)
         try simp only [Act.put, zp]
         refine zC 6 #[zT,zT,zT,zT,zT,zT,zT,zF,zT,zT,zT,zT,zF,zF,zF,zF,zF,zF,zF,zF,zF,zF,zF,zF,zF] ?_ rfl ?hy31 ?rest31
         case hy31 => intro w; go_simp; (try with_reducible rfl)
         try simp only [Act.put, zp]
         refine stepC3 (i := 7) (j := 20) (k := 21) (Li := #[zT,zT,zT,zT,zT,zT,zT,zT,zT,zT,zT,zT,zF,zF,zF,zF,zF,zF,zF,zF,zF,zF,zF,zF,zF]) (Lj := #[zT,zT,zT,zT,zT,zT,zT,zF,zT,zT,zT,zT,zF,zF,zF,zF,zF,zF,zF,zF,zT,zF,zF,zF,zF]) (Lk := #[zT,zT,zT,zT,zT,zT,zT,zF,zT,zT,zT,zT,zF,zF,zF,zF,zF,zF,zF,zF,zF,zT,zF,zF,zF]) rfl rfl rfl (by rfl) (by rfl) (by rfl) (by kernel_rfl) (by rfl) (by rfl) (by rfl) (fun K hK => ?o2_7) (fun K hK => ?o2_20) (fun K hK => ?o2_21)
         case o2_7 =>
          go_simp
          go_at_call 38
          refine (both_any v35 r1.neg G1 m1 o1 r1.e q1).mono ?_
          rintro e' v37 ⟨rfl, j38, D_, E_, lD_⟩
          have sD : v35.heap.size < v37.heap.size := by omega
          have sE : v35.heap.size + 1 < v37.heap.size := by omega
          have zv37 : v35.heap.size ≤ v37.heap.size := Below.size j38
          refine hK _ _ ⟨fun _ _ => fun p hp => Below.block (later j10 (later j36 j38)) p hp, ?_⟩
          clear hK K
          try simp only [Act.put, zp]
          refine stepC3 (i := 12) (j := 20) (k := 21) (Li := #[zT,zT,zT,zT,zT,zT,zT,zT,zT,zT,zT,zT,zT,zF,zF,zF,zF,zF,zF,zF,zF,zF,zF,zF,zF]) (Lj := #[zT,zT,zT,zT,zT,zT,zT,zT,zT,zT,zT,zT,zF,zF,zF,zF,zF,zF,zF,zF,zT,zF,zF,zF,zF]) (Lk := #[zT,zT,zT,zT,zT,zT,zT,zT,zT,zT,zT,zT,zF,zF,zF,zF,zF,zF,zF,zF,zF,zT,zF,zF,zF]) rfl rfl rfl (by rfl) (by rfl) (by rfl) (by kernel_rfl) (by rfl) (by rfl) (by rfl) (fun K hK => ?o3_12) (fun K hK => ?o3_20) (fun K hK => ?o3_21)
          case o3_12 =>
           go_simp
           go_at_call 40
           refine (Ceil_all v37 m.S.s m.W.s m.S.A m.W.A m.S.n m.S.c m.W.n m.W.c m.S.xs m.W.xs m.S.e m.W.e (MRows.on Rm (later j2 (later j8 (later j10 (later j36 j38))))).S (MRows.on Rm (later j2 (later j8 (later j10 (later j36 j38))))).W 0 r2 q2 H2.out).mono ?_
           rintro e' v39 ⟨G2, m2, o2, rfl, _, j40, I2⟩
           have zv39 : v37.heap.size ≤ v39.heap.size := Below.size j40
           refine hK _ _ ⟨fun _ _ => fun p hp => Below.block (later j10 (later j36 (later j38 j40))) p hp, ?_⟩
           clear hK K
           try simp only [Act.put, zp]
           refine zC 13 #[zT,zT,zT,zT,zT,zT,zT,zT,zT,zT,zT,zT,zT,zT,zF,zF,zF,zF,zF,zF,zF,zF,zF,zF,zF] ?_ rfl ?hy32 ?rest32
           case hy32 => intro w; go_simp; (try with_reducible rfl)
           try simp only [Act.put, zp]
           refine zC 14 #[zT,zT,zT,zT,zT,zT,zT,zT,zT,zT,zT,zT,zT,zT,zT,zF,zF,zF,zF,zF,zF,zF,zF,zF,zF] ?_ rfl ?hy33 ?rest33
           case hy33 => intro w; go_simp; (try with_reducible rfl)
           try simp only [Act.put, zp]
           refine stepC3 (i := 15) (j := 20) (k := 21) (Li := #[zT,zT,zT,zT,zT,zT,zT,zT,zT,zT,zT,zT,zT,zT,zT,zT,zF,zF,zF,zF,zF,zF,zF,zF,zF]) (Lj := #[zT,zT,zT,zT,zT,zT,zT,zT,zT,zT,zT,zT,zT,zT,zT,zF,zF,zF,zF,zF,zT,zF,zF,zF,zF]) (Lk := #[zT,zT,zT,zT,zT,zT,zT,zT,zT,zT,zT,zT,zT,zT,zT,zF,zF,zF,zF,zF,zF,zT,zF,zF,zF]) rfl rfl rfl (by rfl) (by rfl) (by rfl) (by kernel_rfl) (by rfl) (by rfl) (by rfl) (fun K hK => ?o4_15) (fun K hK => ?o4_20) (fun K hK => ?o4_21)
           case o4_15 =>
            go_simp
            obtain ⟨X, Y, c, hX⟩ := bothR ⟨r1.neg, G1, m1, o1, r1.e, canon 4294967296 r1.m⟩ ⟨r2.neg, G2, m2, o2, r2.e, canon 4294967296 r2.m⟩ q1 q2
            go_at_call 60
            refine (both1_any v39 ⟨r1.neg, G1, m1, o1, r1.e, canon 4294967296 r1.m⟩ ⟨r2.neg, G2, m2, o2, r2.e, canon 4294967296 r2.m⟩ q1 q2 (v35.heap.size + 1) (v35.heap.size) (Nat.lt_of_lt_of_le sE (Below.size j40)) (Nat.lt_of_lt_of_le sD (Below.size j40)) (box_later E_ j40 sE) (box_later D_ j40 sD) X Y c hX).mono ?_
            rintro e' v41 ⟨rfl, j42⟩
            have HX := Lib.hid hX
            clear hX
            have zv41 : v39.heap.size ≤ v41.heap.size := Below.size j42
            refine hK _ _ ⟨fun _ _ => fun p hp => Below.block (later j10 (later j36 (later j38 (later j40 j42)))) p hp, ?_⟩
            clear hK K
            try simp only [Act.put, zp]
            refine zC 16 #[zT,zT,zT,zT,zT,zT,zT,zT,zT,zT,zT,zT,zT,zT,zT,zT,zT,zF,zF,zF,zF,zF,zF,zF,zF] ?_ rfl ?hy34 ?rest34
            case hy34 => intro w; go_simp; (try with_reducible rfl)
            try simp only [Act.put, zp]
            refine zC 17 #[zT,zT,zT,zT,zT,zT,zT,zT,zT,zT,zT,zT,zT,zT,zT,zT,zT,zT,zF,zF,zF,zF,zF,zF,zF] ?_ rfl ?hy35 ?rest35
            case hy35 => intro w; go_simp; (try with_reducible rfl)
            try simp only [Act.put, zp]
            refine zC 18 #[zT,zT,zT,zT,zT,zT,zT,zT,zT,zT,zT,zT,zT,zT,zT,zT,zT,zT,zT,zF,zF,zF,zF,zF,zF] ?_ rfl ?hy36 ?rest36
            case hy36 => intro w; go_simp; (try with_reducible rfl)
            try simp only [Act.put, zp]
            refine zC 19 #[zT,zT,zT,zT,zT,zT,zT,zT,zT,zT,zT,zT,zT,zT,zT,zT,zT,zT,zT,zT,zF,zF,zF,zF,zF] ?_ rfl ?hy37 ?rest37
            case hy37 => intro w; go_simp; (try with_reducible rfl)
            try simp only [Act.put, zp]
            refine stepC2 (i := 20) (j := 21) (Li := #[zT,zT,zT,zT,zT,zT,zT,zT,zT,zT,zT,zT,zT,zT,zT,zT,zT,zT,zT,zT,zT,zF,zF,zF,zF]) (Lj := #[zT,zT,zT,zT,zT,zT,zT,zT,zT,zT,zT,zT,zT,zT,zT,zT,zT,zT,zT,zT,zF,zT,zF,zF,zF]) rfl rfl (by rfl) (by rfl) (by kernel_rfl) (by rfl) (by rfl) (fun K hK => ?o5_20) (fun K hK => ?o5_21)
            case o5_20 =>
             go_simp
             obtain ⟨v43, hc_, B6, j44, s45⟩ := alloc_d v41
             rw [hc_]
             clear hc_
             have zv43 : v41.heap.size ≤ v43.heap.size := Below.size j44
             refine hK _ _ ⟨fun _ _ => fun p hp => Below.block (later j10 (later j36 (later j38 (later j40 (later j42 j44))))) p hp, ?_⟩
             clear hK K
             try simp only [Act.put, zp]
             refine stepC (i := 21) (L := #[zT,zT,zT,zT,zT,zT,zT,zT,zT,zT,zT,zT,zT,zT,zT,zT,zT,zT,zT,zT,zT,zT,zF,zF,zF]) rfl (by rfl) (by kernel_rfl) (by rfl) (fun K hK => ?_)
             go_simp
             obtain ⟨v46, hc_, B7, j47, s48⟩ := alloc_d v43
             rw [hc_]
             clear hc_
             have zv46 : v43.heap.size ≤ v46.heap.size := Below.size j47
             refine hK _ _ ⟨fun _ _ => fun p hp => Below.block (later j10 (later j36 (later j38 (later j40 (later j42 (later j44 j47)))))) p hp, ?_⟩
             clear hK K
             try simp only [Act.put, zp]
             have O1 : OffD v46 v7.heap.size (v41.heap.size) (v43.heap.size) ⟨r1.neg, G1, m1, o1, r1.e, canon 4294967296 r1.m⟩ := OffD.of (d := ⟨r1.neg, G1, m1, o1, r1.e, canon 4294967296 r1.m⟩) (Ints.below I1 (later j38 (later j40 (later j42 (later j44 j47)))) (Nat.le_refl _)) (by omega) (by omega) (by omega) (by omega)
             have O2 : OffD v46 v7.heap.size (v41.heap.size) (v43.heap.size) ⟨r2.neg, G2, m2, o2, r2.e, canon 4294967296 r2.m⟩ := OffD.of (d := ⟨r2.neg, G2, m2, o2, r2.e, canon 4294967296 r2.m⟩) (Ints.below I2 (later j42 (later j44 j47)) (Nat.le_refl _)) (by omega) (by omega) (by omega) (by omega)
             obtain ⟨OX, OY⟩ := HX.out.all (P := OffD v46 v7.heap.size (v41.heap.size) (v43.heap.size)) O1 O2 (OffD.zero ..)
             exact leafC ⟨.tuple #[.agg #[.bool r1.neg, .slice G1 m1 o1, .int .i64 r1.e], .int .i64 q1], .agg #[.bool r1.neg, .slice G1 m1 o1, .int .i64 r1.e], .int .i64 q1, .func (.func 60) #[] #[.pointer (some ⟨v35.heap.size + 1, 0, none⟩), .pointer (some ⟨v35.heap.size, 0, none⟩)], .tuple #[.agg #[.bool r2.neg, .slice G2 m2 o2, .int .i64 r2.e], .int .i64 q2], .agg #[.bool r2.neg, .slice G2 m2 o2, .int .i64 r2.e], .int .i64 q2, .tuple #[.agg #[.bool X.s, .slice X.A X.n X.c, .int .i64 X.e], .agg #[.bool Y.s, .slice Y.A Y.n Y.c, .int .i64 Y.e], .int .i64 c], .tuple #[.agg #[.bool X.s, .slice X.A X.n X.c, .int .i64 X.e], .agg #[.bool Y.s, .slice Y.A Y.n Y.c, .int .i64 Y.e], .int .i64 c], v41.heap.size, v43.heap.size, X, Y, c, rfl, by omega, by omega, by omega, (box_later B6 j47 s45), B7, (later j10 (later j36 (later j38 (later j40 (later j42 (later j44 j47)))))), Lib.hid (bothN HX.out ⟨rfl, rfl, rfl⟩ ⟨rfl, rfl, rfl⟩), OX, OY⟩
            case o5_21 =>
             go_simp
             obtain ⟨v49, hc_, B7, j50, s51⟩ := alloc_d v41
             rw [hc_]
             clear hc_
             have zv49 : v41.heap.size ≤ v49.heap.size := Below.size j50
             refine hK _ _ ⟨fun _ _ => fun p hp => Below.block (later j10 (later j36 (later j38 (later j40 (later j42 j50))))) p hp, ?_⟩
             clear hK K
             try simp only [Act.put, zp]
             refine stepC (i := 20) (L := #[zT,zT,zT,zT,zT,zT,zT,zT,zT,zT,zT,zT,zT,zT,zT,zT,zT,zT,zT,zT,zT,zT,zF,zF,zF]) rfl (by rfl) (by kernel_rfl) (by rfl) (fun K hK => ?_)
             go_simp
             obtain ⟨v52, hc_, B6, j53, s54⟩ := alloc_d v49
             rw [hc_]
             clear hc_
             have zv52 : v49.heap.size ≤ v52.heap.size := Below.size j53
             refine hK _ _ ⟨fun _ _ => fun p hp => Below.block (later j10 (later j36 (later j38 (later j40 (later j42 (later j50 j53)))))) p hp, ?_⟩
             clear hK K
             try simp only [Act.put, zp]
             have O1 : OffD v52 v7.heap.size (v49.heap.size) (v41.heap.size) ⟨r1.neg, G1, m1, o1, r1.e, canon 4294967296 r1.m⟩ := OffD.of (d := ⟨r1.neg, G1, m1, o1, r1.e, canon 4294967296 r1.m⟩) (Ints.below I1 (later j38 (later j40 (later j42 (later j50 j53)))) (Nat.le_refl _)) (by omega) (by omega) (by omega) (by omega)
             have O2 : OffD v52 v7.heap.size (v49.heap.size) (v41.heap.size) ⟨r2.neg, G2, m2, o2, r2.e, canon 4294967296 r2.m⟩ := OffD.of (d := ⟨r2.neg, G2, m2, o2, r2.e, canon 4294967296 r2.m⟩) (Ints.below I2 (later j42 (later j50 j53)) (Nat.le_refl _)) (by omega) (by omega) (by omega) (by omega)
             obtain ⟨OX, OY⟩ := HX.out.all (P := OffD v52 v7.heap.size (v49.heap.size) (v41.heap.size)) O1 O2 (OffD.zero ..)
             exact leafC ⟨.tuple #[.agg #[.bool r1.neg, .slice G1 m1 o1, .int .i64 r1.e], .int .i64 q1], .agg #[.bool r1.neg, .slice G1 m1 o1, .int .i64 r1.e], .int .i64 q1, .func (.func 60) #[] #[.pointer (some ⟨v35.heap.size + 1, 0, none⟩), .pointer (some ⟨v35.heap.size, 0, none⟩)], .tuple #[.agg #[.bool r2.neg, .slice G2 m2 o2, .int .i64 r2.e], .int .i64 q2], .agg #[.bool r2.neg, .slice G2 m2 o2, .int .i64 r2.e], .int .i64 q2, .tuple #[.agg #[.bool X.s, .slice X.A X.n X.c, .int .i64 X.e], .agg #[.bool Y.s, .slice Y.A Y.n Y.c, .int .i64 Y.e], .int .i64 c], .tuple #[.agg #[.bool X.s, .slice X.A X.n X.c, .int .i64 X.e], .agg #[.bool Y.s, .slice Y.A Y.n Y.c, .int .i64 Y.e], .int .i64 c], v49.heap.size, v41.heap.size, X, Y, c, rfl, by omega, by omega, by omega, B6, (box_later B7 j53 s51), (later j10 (later j36 (later j38 (later j40 (later j42 (later j50 j53)))))), Lib.hid (bothN HX.out ⟨rfl, rfl, rfl⟩ ⟨rfl, rfl, rfl⟩), OX, OY⟩
           case o4_20 =>
            go_simp
            obtain ⟨v55, hc_, B6, j56, s57⟩ := alloc_d v39
            rw [hc_]
            clear hc_
            have zv55 : v39.heap.size ≤ v55.heap.size := Below.size j56
            refine hK _ _ ⟨fun _ _ => fun p hp => Below.block (later j10 (later j36 (later j38 (later j40 j56)))) p hp, ?_⟩
            clear hK K
            try simp only [Act.put, zp]
            refine stepC2 (i := 15) (j := 21) (Li := #[zT,zT,zT,zT,zT,zT,zT,zT,zT,zT,zT,zT,zT,zT,zT,zT,zF,zF,zF,zF,zT,zF,zF,zF,zF]) (Lj := #[zT,zT,zT,zT,zT,zT,zT,zT,zT,zT,zT,zT,zT,zT,zT,zF,zF,zF,zF,zF,zT,zT,zF,zF,zF]) rfl rfl (by rfl) (by rfl) (by kernel_rfl) (by rfl) (by rfl) (fun K hK => ?o6_15) (fun K hK => ?o6_21)
            case o6_15 =>
             go_simp
             obtain ⟨X, Y, c, hX⟩ := bothR ⟨r1.neg, G1, m1, o1, r1.e, canon 4294967296 r1.m⟩ ⟨r2.neg, G2, m2, o2, r2.e, canon 4294967296 r2.m⟩ q1 q2
             go_at_call 60
             refine (both1_any v55 ⟨r1.neg, G1, m1, o1, r1.e, canon 4294967296 r1.m⟩ ⟨r2.neg, G2, m2, o2, r2.e, canon 4294967296 r2.m⟩ q1 q2 (v35.heap.size + 1) (v35.heap.size) (Nat.lt_of_lt_of_le sE (Below.size (later j40 j56))) (Nat.lt_of_lt_of_le sD (Below.size (later j40 j56))) (box_later E_ (later j40 j56) sE) (box_later D_ (later j40 j56) sD) X Y c hX).mono ?_
             rintro e' v58 ⟨rfl, j59⟩
             have HX := Lib.hid hX
             clear hX
             have zv58 : v55.heap.size ≤ v58.heap.size := Below.size j59
             refine hK _ _ ⟨fun _ _ => fun p hp => Below.block (later j10 (later j36 (later j38 (later j40 (later j56 j59))))) p hp, ?_⟩
             clear hK K
             try simp only [Act.put, zp]
             refine zC 16 #[zT,zT,zT,zT,zT,zT,zT,zT,zT,zT,zT,zT,zT,zT,zT,zT,zT,zF,zF,zF,zT,zF,zF,zF,zF] ?_ rfl ?hy40 ?rest40
             case hy40 => intro w; go_simp; (try with_reducible rfl)
             try simp only [Act.put, zp]
             refine zC 17 #[zT,zT,zT,zT,zT,zT,zT,zT,zT,zT,zT,zT,zT,zT,zT,zT,zT,zT,zF,zF,zT,zF,zF,zF,zF] ?_ rfl ?hy41 ?rest41
             case hy41 => intro w; go_simp; (try with_reducible rfl)
             try simp only [Act.put, zp]
             refine zC 18 #[zT,zT,zT,zT,zT,zT,zT,zT,zT,zT,zT,zT,zT,zT,zT,zT,zT,zT,zT,zF,zT,zF,zF,zF,zF] ?_ rfl ?hy42 ?rest42
             case hy42 => intro w; go_simp; (try with_reducible rfl)
             try simp only [Act.put, zp]
             refine zC 19 #[zT,zT,zT,zT,zT,zT,zT,zT,zT,zT,zT,zT,zT,zT,zT,zT,zT,zT,zT,zT,zT,zF,zF,zF,zF] ?_ rfl ?hy43 ?rest43
             case hy43 => intro w; go_simp; (try with_reducible rfl)
             try simp only [Act.put, zp]
             refine stepC (i := 21) (L := #[zT,zT,zT,zT,zT,zT,zT,zT,zT,zT,zT,zT,zT,zT,zT,zT,zT,zT,zT,zT,zT,zT,zF,zF,zF]) rfl (by rfl) (by kernel_rfl) (by rfl) (fun K hK => ?_)
             go_simp
             obtain ⟨v60, hc_, B7, j61, s62⟩ := alloc_d v58
             rw [hc_]
             clear hc_
             have zv60 : v58.heap.size ≤ v60.heap.size := Below.size j61
             refine hK _ _ ⟨fun _ _ => fun p hp => Below.block (later j10 (later j36 (later j38 (later j40 (later j56 (later j59 j61)))))) p hp, ?_⟩
             clear hK K
             try simp only [Act.put, zp]
             have O1 : OffD v60 v7.heap.size (v39.heap.size) (v58.heap.size) ⟨r1.neg, G1, m1, o1, r1.e, canon 4294967296 r1.m⟩ := OffD.of (d := ⟨r1.neg, G1, m1, o1, r1.e, canon 4294967296 r1.m⟩) (Ints.below I1 (later j38 (later j40 (later j56 (later j59 j61)))) (Nat.le_refl _)) (by omega) (by omega) (by omega) (by omega)
             have O2 : OffD v60 v7.heap.size (v39.heap.size) (v58.heap.size) ⟨r2.neg, G2, m2, o2, r2.e, canon 4294967296 r2.m⟩ := OffD.of (d := ⟨r2.neg, G2, m2, o2, r2.e, canon 4294967296 r2.m⟩) (Ints.below I2 (later j56 (later j59 j61)) (Nat.le_refl _)) (by omega) (by omega) (by omega) (by omega)
             obtain ⟨OX, OY⟩ := HX.out.all (P := OffD v60 v7.heap.size (v39.heap.size) (v58.heap.size)) O1 O2 (OffD.zero ..)
             exact leafC ⟨.tuple #[.agg #[.bool r1.neg, .slice G1 m1 o1, .int .i64 r1.e], .int .i64 q1], .agg #[.bool r1.neg, .slice G1 m1 o1, .int .i64 r1.e], .int .i64 q1, .func (.func 60) #[] #[.pointer (some ⟨v35.heap.size + 1, 0, none⟩), .pointer (some ⟨v35.heap.size, 0, none⟩)], .tuple #[.agg #[.bool r2.neg, .slice G2 m2 o2, .int .i64 r2.e], .int .i64 q2], .agg #[.bool r2.neg, .slice G2 m2 o2, .int .i64 r2.e], .int .i64 q2, .tuple #[.agg #[.bool X.s, .slice X.A X.n X.c, .int .i64 X.e], .agg #[.bool Y.s, .slice Y.A Y.n Y.c, .int .i64 Y.e], .int .i64 c], .tuple #[.agg #[.bool X.s, .slice X.A X.n X.c, .int .i64 X.e], .agg #[.bool Y.s, .slice Y.A Y.n Y.c, .int .i64 Y.e], .int .i64 c], v39.heap.size, v58.heap.size, X, Y, c, rfl, by omega, by omega, by omega, (box_later B6 (later j59 j61) s57), B7, (later j10 (later j36 (later j38 (later j40 (later j56 (later j59 j61)))))), Lib.hid (bothN HX.out ⟨rfl, rfl, rfl⟩ ⟨rfl, rfl, rfl⟩), OX, OY⟩
            case o6_21 =>
             go_simp
             obtain ⟨v63, hc_, B7, j64, s65⟩ := alloc_d v55
             rw [hc_]
             clear hc_
             have zv63 : v55.heap.size ≤ v63.heap.size := Below.size j64
             refine hK _ _ ⟨fun _ _ => fun p hp => Below.block (later j10 (later j36 (later j38 (later j40 (later j56 j64))))) p hp, ?_⟩
             clear hK K
             try simp only [Act.put, zp]
             refine stepC (i := 15) (L := #[zT,zT,zT,zT,zT,zT,zT,zT,zT,zT,zT,zT,zT,zT,zT,zT,zF,zF,zF,zF,zT,zT,zF,zF,zF]) rfl (by rfl) (by kernel_rfl) (by rfl) (fun K hK => ?_)
             go_simp
             obtain ⟨X, Y, c, hX⟩ := bothR ⟨r1.neg, G1, m1, o1, r1.e, canon 4294967296 r1.m⟩ ⟨r2.neg, G2, m2, o2, r2.e, canon 4294967296 r2.m⟩ q1 q2
             go_at_call 60
             refine (both1_any v63 ⟨r1.neg, G1, m1, o1, r1.e, canon 4294967296 r1.m⟩ ⟨r2.neg, G2, m2, o2, r2.e, canon 4294967296 r2.m⟩ q1 q2 (v35.heap.size + 1) (v35.heap.size) (Nat.lt_of_lt_of_le sE (Below.size (later j40 (later j56 j64)))) (Nat.lt_of_lt_of_le sD (Below.size (later j40 (later j56 j64)))) (box_later E_ (later j40 (later j56 j64)) sE) (box_later D_ (later j40 (later j56 j64)) sD) X Y c hX).mono ?_
             rintro e' v66 ⟨rfl, j67⟩
             have HX := Lib.hid hX
             clear hX
             have zv66 : v63.heap.size ≤ v66.heap.size := Below.size j67
             refine hK _ _ ⟨fun _ _ => fun p hp => Below.block (later j10 (later j36 (later j38 (later j40 (later j56 (later j64 j67)))))) p hp, ?_⟩
             clear hK K
             try simp only [Act.put, zp]
             refine zC 16 #[zT,zT,zT,zT,zT,zT,zT,zT,zT,zT,zT,zT,zT,zT,zT,zT,zT,zF,zF,zF,zT,zT,zF,zF,zF] ?_ rfl ?hy46 ?rest46
             case hy46 => intro w; go_simp; (try with_reducible rfl)
             try simp only [Act.put, zp]
             refine zC 17 #[zT,zT,zT,zT,zT,zT,zT,zT,zT,zT,zT,zT,zT,zT,zT,zT,zT,zT,zF,zF,zT,zT,zF,zF,zF] ?_ rfl ?hy47 ?rest47
             case hy47 => intro w; go_simp; (try with_reducible rfl)
             try simp only [Act.put, zp]
             refine zC 18 #[zT,zT,zT,zT,zT,zT,zT,zT,zT,zT,zT,zT,zT,zT,zT,zT,zT,zT,zT,zF,zT,zT,zF,zF,zF] ?_ rfl ?hy48 ?rest48
             case hy48 => intro w; go_simp; (try with_reducible rfl)
             try simp only [Act.put, zp]
             refine zC 19 #[zT,zT,zT,zT,zT,zT,zT,zT,zT,zT,zT,zT,zT,zT,zT,zT,zT,zT,zT,zT,zT,zT,zF,zF,zF] ?_ rfl ?hy49 ?rest49
             case hy49 => intro w; go_simp; (try with_reducible rfl)
             try simp only [Act.put, zp]
             have O1 : OffD v66 v7.heap.size (v39.heap.size) (v55.heap.size) ⟨r1.neg, G1, m1, o1, r1.e, canon 4294967296 r1.m⟩ := OffD.of (d := ⟨r1.neg, G1, m1, o1, r1.e, canon 4294967296 r1.m⟩) (Ints.below I1 (later j38 (later j40 (later j56 (later j64 j67)))) (Nat.le_refl _)) (by omega) (by omega) (by omega) (by omega)
             have O2 : OffD v66 v7.heap.size (v39.heap.size) (v55.heap.size) ⟨r2.neg, G2, m2, o2, r2.e, canon 4294967296 r2.m⟩ := OffD.of (d := ⟨r2.neg, G2, m2, o2, r2.e, canon 4294967296 r2.m⟩) (Ints.below I2 (later j56 (later j64 j67)) (Nat.le_refl _)) (by omega) (by omega) (by omega) (by omega)
             obtain ⟨OX, OY⟩ := HX.out.all (P := OffD v66 v7.heap.size (v39.heap.size) (v55.heap.size)) O1 O2 (OffD.zero ..)
             exact leafC ⟨.tuple #[.agg #[.bool r1.neg, .slice G1 m1 o1, .int .i64 r1.e], .int .i64 q1], .agg #[.bool r1.neg, .slice G1 m1 o1, .int .i64 r1.e], .int .i64 q1, .func (.func 60) #[] #[.pointer (some ⟨v35.heap.size + 1, 0, none⟩), .pointer (some ⟨v35.heap.size, 0, none⟩)], .tuple #[.agg #[.bool r2.neg, .slice G2 m2 o2, .int .i64 r2.e], .int .i64 q2], .agg #[.bool r2.neg, .slice G2 m2 o2, .int .i64 r2.e], .int .i64 q2, .tuple #[.agg #[.bool X.s, .slice X.A X.n X.c, .int .i64 X.e], .agg #[.bool Y.s, .slice Y.A Y.n Y.c, .int .i64 Y.e], .int .i64 c], .tuple #[.agg #[.bool X.s, .slice X.A X.n X.c, .int .i64 X.e], .agg #[.bool Y.s, .slice Y.A Y.n Y.c, .int .i64 Y.e], .int .i64 c], v39.heap.size, v55.heap.size, X, Y, c, rfl, by omega, by omega, by omega, (box_later B6 (later j64 j67) s57), (box_later B7 j67 s65), (later j10 (later j36 (later j38 (later j40 (later j56 (later j64 j67)))))), Lib.hid (bothN HX.out ⟨rfl, rfl, rfl⟩ ⟨rfl, rfl, rfl⟩), OX, OY⟩
           case o4_21 =>
            go_simp
            obtain ⟨v68, hc_, B7, j69, s70⟩ := alloc_d v39
            rw [hc_]
            clear hc_
            have zv68 : v39.heap.size ≤ v68.heap.size := Below.size j69
            refine hK _ _ ⟨fun _ _ => fun p hp => Below.block (later j10 (later j36 (later j38 (later j40 j69)))) p hp, ?_⟩
            clear hK K
            try simp only [Act.put, zp]
            refine stepC2 (i := 15) (j := 20) (Li := #[zT,zT,zT,zT,zT,zT,zT,zT,zT,zT,zT,zT,zT,zT,zT,zT,zF,zF,zF,zF,zF,zT,zF,zF,zF]) (Lj := #[zT,zT,zT,zT,zT,zT,zT,zT,zT,zT,zT,zT,zT,zT,zT,zF,zF,zF,zF,zF,zT,zT,zF,zF,zF]) rfl rfl (by rfl) (by rfl) (by kernel_rfl) (by rfl) (by rfl) (fun K hK => ?o7_15) (fun K hK => ?o7_20)
            case o7_15 =>
             go_simp
             obtain ⟨X, Y, c, hX⟩ := bothR ⟨r1.neg, G1, m1, o1, r1.e, canon 4294967296 r1.m⟩ ⟨r2.neg, G2, m2, o2, r2.e, canon 4294967296 r2.m⟩ q1 q2
             go_at_call 60
             refine (both1_any v68 ⟨r1.neg, G1, m1, o1, r1.e, canon 4294967296 r1.m⟩ ⟨r2.neg, G2, m2, o2, r2.e, canon 4294967296 r2.m⟩ q1 q2 (v35.heap.size + 1) (v35.heap.size) (Nat.lt_of_lt_of_le sE (Below.size (later j40 j69))) (Nat.lt_of_lt_of_le sD (Below.size (later j40 j69))) (box_later E_ (later j40 j69) sE) (box_later D_ (later j40 j69) sD) X Y c hX).mono ?_
             rintro e' v71 ⟨rfl, j72⟩
             have HX := Lib.hid hX
             clear hX
             have zv71 : v68.heap.size ≤ v71.heap.size := Below.size j72
             refine hK _ _ ⟨fun _ _ => fun p hp => Below.block (later j10 (later j36 (later j38 (later j40 (later j69 j72))))) p hp, ?_⟩
             clear hK K
             try simp only [Act.put, zp]
             refine zC 16 #[zT,zT,zT,zT,zT,zT,zT,zT,zT,zT,zT,zT,zT,zT,zT,zT,zT,zF,zF,zF,zF,zT,zF,zF,zF] ?_ rfl ?hy50 ?rest50
             case hy50 => intro w; go_simp; (try with_reducible rfl)
             try simp only [Act.put, zp]
             refine zC 17 #[zT,zT,zT,zT,zT,zT,zT,zT,zT,zT,zT,zT,zT,zT,zT,zT,zT,zT,zF,zF,zF,zT,zF,zF,zF] ?_ rfl ?hy51 ?rest51
             case hy51 => intro w; go_simp; (try with_reducible rfl)
             try simp only [Act.put, zp]
             refine zC 18 #[zT,zT,zT,zT,zT,zT,zT,zT,zT,zT,zT,zT,zT,zT,zT,zT,zT,zT,zT,zF,zF,zT,zF,zF,zF] ?_ rfl ?hy52 ?rest52
             case hy52 => intro w; go_simp; (try with_reducible rfl)
             try simp only [Act.put, zp]
             refine zC 19 #[zT,zT,zT,zT,zT,zT,zT,zT,zT,zT,zT,zT,zT,zT,zT,zT,zT,zT,zT,zT,zF,zT,zF,zF,zF] ?_ rfl ?hy53 ?rest53
             case hy53 => intro w; go_simp; (try with_reducible rfl)
             try simp only [Act.put, zp]
             refine stepC (i := 20) (L := #[zT,zT,zT,zT,zT,zT,zT,zT,zT,zT,zT,zT,zT,zT,zT,zT,zT,zT,zT,zT,zT,zT,zF,zF,zF]) rfl (by rfl) (by kernel_rfl) (by rfl) (fun K hK => ?_)
             go_simp
             obtain ⟨v73, hc_, B6, j74, s75⟩ := alloc_d v71
             rw [hc_]
             clear hc_
             have zv73 : v71.heap.size ≤ v73.heap.size := Below.size j74
             refine hK _ _ ⟨fun _ _ => fun p hp => Below.block (later j10 (later j36 (later j38 (later j40 (later j69 (later j72 j74)))))) p hp, ?_⟩
             clear hK K
             try simp only [Act.put, zp]
             have O1 : OffD v73 v7.heap.size (v71.heap.size) (v39.heap.size) ⟨r1.neg, G1, m1, o1, r1.e, canon 4294967296 r1.m⟩ := OffD.of (d := ⟨r1.neg, G1, m1, o1, r1.e, canon 4294967296 r1.m⟩) (Ints.below I1 (later j38 (later j40 (later j69 (later j72 j74)))) (Nat.le_refl _)) (by omega) (by omega) (by omega) (by omega)
             have O2 : OffD v73 v7.heap.size (v71.heap.size) (v39.heap.size) ⟨r2.neg, G2, m2, o2, r2.e, canon 4294967296 r2.m⟩ := OffD.of (d := ⟨r2.neg, G2, m2, o2, r2.e, canon 4294967296 r2.m⟩) (Ints.below I2 (later j69 (later j72 j74)) (Nat.le_refl _)) (by omega) (by omega) (by omega) (by omega)
             obtain ⟨OX, OY⟩ := HX.out.all (P := OffD v73 v7.heap.size (v71.heap.size) (v39.heap.size)) O1 O2 (OffD.zero ..)
             exact leafC ⟨.tuple #[.agg #[.bool r1.neg, .slice G1 m1 o1, .int .i64 r1.e], .int .i64 q1], .agg #[.bool r1.neg, .slice G1 m1 o1, .int .i64 r1.e], .int .i64 q1, .func (.func 60) #[] #[.pointer (some ⟨v35.heap.size + 1, 0, none⟩), .pointer (some ⟨v35.heap.size, 0, none⟩)], .tuple #[.agg #[.bool r2.neg, .slice G2 m2 o2, .int .i64 r2.e], .int .i64 q2], .agg #[.bool r2.neg, .slice G2 m2 o2, .int .i64 r2.e], .int .i64 q2, .tuple #[.agg #[.bool X.s, .slice X.A X.n X.c, .int .i64 X.e], .agg #[.bool Y.s, .slice Y.A Y.n Y.c, .int .i64 Y.e], .int .i64 c], .tuple #[.agg #[.bool X.s, .slice X.A X.n X.c, .int .i64 X.e], .agg #[.bool Y.s, .slice Y.A Y.n Y.c, .int .i64 Y.e], .int .i64 c], v71.heap.size, v39.heap.size, X, Y, c, rfl, by omega, by omega, by omega, B6, (box_later B7 (later j72 j74) s70), (later j10 (later j36 (later j38 (later j40 (later j69 (later j72 j74)))))), Lib.hid (bothN HX.out ⟨rfl, rfl, rfl⟩ ⟨rfl, rfl, rfl⟩), OX, OY⟩
            case o7_20 =>
             go_simp
             obtain ⟨v76, hc_, B6, j77, s78⟩ := alloc_d v68
             rw [hc_]
             clear hc_
             have zv76 : v68.heap.size ≤ v76.heap.size := Below.size j77
             refine hK _ _ ⟨fun _ _ => fun p hp => Below.block (later j10 (later j36 (later j38 (later j40 (later j69 j77))))) p hp, ?_⟩
             clear hK K
             try simp only [Act.put, zp]
             refine stepC (i := 15) (L := #[zT,zT,zT,zT,zT,zT,zT,zT,zT,zT,zT,zT,zT,zT,zT,zT,zF,zF,zF,zF,zT,zT,zF,zF,zF]) rfl (by rfl) (by kernel_rfl) (by rfl) (fun K hK => ?_)
             go_simp
             obtain ⟨X, Y, c, hX⟩ := bothR ⟨r1.neg, G1, m1, o1, r1.e, canon 4294967296 r1.m⟩ ⟨r2.neg, G2, m2, o2, r2.e, canon 4294967296 r2.m⟩ q1 q2
             go_at_call 60
             refine (both1_any v76 ⟨r1.neg, G1, m1, o1, r1.e, canon 4294967296 r1.m⟩ ⟨r2.neg, G2, m2, o2, r2.e, canon 4294967296 r2.m⟩ q1 q2 (v35.heap.size + 1) (v35.heap.size) (Nat.lt_of_lt_of_le sE (Below.size (later j40 (later j69 j77)))) (Nat.lt_of_lt_of_le sD (Below.size (later j40 (later j69 j77)))) (box_later E_ (later j40 (later j69 j77)) sE) (box_later D_ (later j40 (later j69 j77)) sD) X Y c hX).mono ?_
             rintro e' v79 ⟨rfl, j80⟩
             have HX := Lib.hid hX
             clear hX
             have zv79 : v76.heap.size ≤ v79.heap.size := Below.size j80
             refine hK _ _ ⟨fun _ _ => fun p hp => Below.block (later j10 (later j36 (later j38 (later j40 (later j69 (later j77 j80)))))) p hp, ?_⟩
             clear hK K
             try simp only [Act.put, zp]
             refine zC 16 #[zT,zT,zT,zT,zT,zT,zT,zT,zT,zT,zT,zT,zT,zT,zT,zT,zT,zF,zF,zF,zT,zT,zF,zF,zF] ?_ rfl ?hy56 ?rest56
             case hy56 => intro w; go_simp; (try with_reducible rfl)
             try simp only [Act.put, zp]
             refine zC 17 #[zT,zT,zT,zT,zT,zT,zT,zT,zT,zT,zT,zT,zT,zT,zT,zT,zT,zT,zF,zF,zT,zT,zF,zF,zF] ?_ rfl ?hy57 ?rest57
             case hy57 => intro w; go_simp; (try with_reducible rfl)
             try simp only [Act.put, zp]
             refine zC 18 #[zT,zT,zT,zT,zT,zT,zT,zT,zT,zT,zT,zT,zT,zT,zT,zT,zT,zT,zT,zF,zT,zT,zF,zF,zF] ?_ rfl ?hy58 ?rest58
             case hy58 => intro w; go_simp; (try with_reducible rfl)
             try simp only [Act.put, zp]
             refine zC 19 #[zT,zT,zT,zT,zT,zT,zT,zT,zT,zT,zT,zT,zT,zT,zT,zT,zT,zT,zT,zT,zT,zT,zF,zF,zF] ?_ rfl ?hy59 ?rest59
             case hy59 => intro w; go_simp; (try with_reducible rfl)
             try simp only [Act.put, zp]
             have O1 : OffD v79 v7.heap.size (v68.heap.size) (v39.heap.size) ⟨r1.neg, G1, m1, o1, r1.e, canon 4294967296 r1.m⟩ := OffD.of (d := ⟨r1.neg, G1, m1, o1, r1.e, canon 4294967296 r1.m⟩) (Ints.below I1 (later j38 (later j40 (later j69 (later j77 j80)))) (Nat.le_refl _)) (by omega) (by omega) (by omega) (by omega)
             have O2 : OffD v79 v7.heap.size (v68.heap.size) (v39.heap.size) ⟨r2.neg, G2, m2, o2, r2.e, canon 4294967296 r2.m⟩ := OffD.of (d := ⟨r2.neg, G2, m2, o2, r2.e, canon 4294967296 r2.m⟩) (Ints.below I2 (later j69 (later j77 j80)) (Nat.le_refl _)) (by omega) (by omega) (by omega) (by omega)
             obtain ⟨OX, OY⟩ := HX.out.all (P := OffD v79 v7.heap.size (v68.heap.size) (v39.heap.size)) O1 O2 (OffD.zero ..)
             exact leafC ⟨.tuple #[.agg #[.bool r1.neg, .slice G1 m1 o1, .int .i64 r1.e], .int .i64 q1], .agg #[.bool r1.neg, .slice G1 m1 o1, .int .i64 r1.e], .int .i64 q1, .func (.func 60) #[] #[.pointer (some ⟨v35.heap.size + 1, 0, none⟩), .pointer (some ⟨v35.heap.size, 0, none⟩)], .tuple #[.agg #[.bool r2.neg, .slice G2 m2 o2, .int .i64 r2.e], .int .i64 q2], .agg #[.bool r2.neg, .slice G2 m2 o2, .int .i64 r2.e], .int .i64 q2, .tuple #[.agg #[.bool X.s, .slice X.A X.n X.c, .int .i64 X.e], .agg #[.bool Y.s, .slice Y.A Y.n Y.c, .int .i64 Y.e], .int .i64 c], .tuple #[.agg #[.bool X.s, .slice X.A X.n X.c, .int .i64 X.e], .agg #[.bool Y.s, .slice Y.A Y.n Y.c, .int .i64 Y.e], .int .i64 c], v68.heap.size, v39.heap.size, X, Y, c, rfl, by omega, by omega, by omega, (box_later B6 j80 s78), (box_later B7 (later j77 j80) s70), (later j10 (later j36 (later j38 (later j40 (later j69 (later j77 j80)))))), Lib.hid (bothN HX.out ⟨rfl, rfl, rfl⟩ ⟨rfl, rfl, rfl⟩), OX, OY⟩
          case o3_20 =>
           go_simp
           obtain ⟨v81, hc_, B6, j82, s83⟩ := alloc_d v37
           rw [hc_]
           clear hc_
           have zv81 : v37.heap.size ≤ v81.heap.size := Below.size j82
           refine hK _ _ ⟨fun _ _ => fun p hp => Below.block (later j10 (later j36 (later j38 j82))) p hp, ?_⟩
           clear hK K
           try simp only [Act.put, zp]
           refine stepC2 (i := 12) (j := 21) (Li := #[zT,zT,zT,zT,zT,zT,zT,zT,zT,zT,zT,zT,zT,zF,zF,zF,zF,zF,zF,zF,zT,zF,zF,zF,zF]) (Lj := #[zT,zT,zT,zT,zT,zT,zT,zT,zT,zT,zT,zT,zF,zF,zF,zF,zF,zF,zF,zF,zT,zT,zF,zF,zF]) rfl rfl (by rfl) (by rfl) (by kernel_rfl) (by rfl) (by rfl) (fun K hK => ?o8_12) (fun K hK => ?o8_21)
           case o8_12 =>
            go_simp
            go_at_call 40
            refine (Ceil_all v81 m.S.s m.W.s m.S.A m.W.A m.S.n m.S.c m.W.n m.W.c m.S.xs m.W.xs m.S.e m.W.e (MRows.on Rm (later j2 (later j8 (later j10 (later j36 (later j38 j82)))))).S (MRows.on Rm (later j2 (later j8 (later j10 (later j36 (later j38 j82)))))).W 0 r2 q2 H2.out).mono ?_
            rintro e' v84 ⟨G2, m2, o2, rfl, _, j85, I2⟩
            have zv84 : v81.heap.size ≤ v84.heap.size := Below.size j85
            refine hK _ _ ⟨fun _ _ => fun p hp => Below.block (later j10 (later j36 (later j38 (later j82 j85)))) p hp, ?_⟩
            clear hK K
            try simp only [Act.put, zp]
            refine zC 13 #[zT,zT,zT,zT,zT,zT,zT,zT,zT,zT,zT,zT,zT,zT,zF,zF,zF,zF,zF,zF,zT,zF,zF,zF,zF] ?_ rfl ?hy60 ?rest60
            case hy60 => intro w; go_simp; (try with_reducible rfl)
            try simp only [Act.put, zp]
            refine zC 14 #[zT,zT,zT,zT,zT,zT,zT,zT,zT,zT,zT,zT,zT,zT,zT,zF,zF,zF,zF,zF,zT,zF,zF,zF,zF] ?_ rfl ?hy61 ?rest61
            case hy61 => intro w; go_simp; (try with_reducible rfl)
            try simp only [Act.put, zp]
            refine stepC2 (i := 15) (j := 21) (Li := #[zT,zT,zT,zT,zT,zT,zT,zT,zT,zT,zT,zT,zT,zT,zT,zT,zF,zF,zF,zF,zT,zF,zF,zF,zF]) (Lj := #[zT,zT,zT,zT,zT,zT,zT,zT,zT,zT,zT,zT,zT,zT,zT,zF,zF,zF,zF,zF,zT,zT,zF,zF,zF]) rfl rfl (by rfl) (by rfl) (by kernel_rfl) (by rfl) (by rfl) (fun K hK => ?o9_15) (fun K hK => ?o9_21)
            case o9_15 =>
             go_simp
             obtain ⟨X, Y, c, hX⟩ := bothR ⟨r1.neg, G1, m1, o1, r1.e, canon 4294967296 r1.m⟩ ⟨r2.neg, G2, m2, o2, r2.e, canon 4294967296 r2.m⟩ q1 q2
             go_at_call 60
             refine (both1_any v84 ⟨r1.neg, G1, m1, o1, r1.e, canon 4294967296 r1.m⟩ ⟨r2.neg, G2, m2, o2, r2.e, canon 4294967296 r2.m⟩ q1 q2 (v35.heap.size + 1) (v35.heap.size) (Nat.lt_of_lt_of_le sE (Below.size (later j82 j85))) (Nat.lt_of_lt_of_le sD (Below.size (later j82 j85))) (box_later E_ (later j82 j85) sE) (box_later D_ (later j82 j85) sD) X Y c hX).mono ?_
             rintro e' v86 ⟨rfl, j87⟩
             have HX := Lib.hid hX
             clear hX
             have zv86 : v84.heap.size ≤ v86.heap.size := Below.size j87
             refine hK _ _ ⟨fun _ _ => fun p hp => Below.block (later j10 (later j36 (later j38 (later j82 (later j85 j87))))) p hp, ?_⟩
             clear hK K
             try simp only [Act.put, zp]
             refine zC 16 #[zT,zT,zT,zT,zT,zT,zT,zT,zT,zT,zT,zT,zT,zT,zT,zT,zT,zF,zF,zF,zT,zF,zF,zF,zF] ?_ rfl ?hy62 ?rest62
             case hy62 => intro w; go_simp; (try with_reducible rfl)
             try simp only [Act.put, zp]
             refine zC 17 #[zT,zT,zT,zT,zT,zT,zT,zT,zT,zT,zT,zT,zT,zT,zT,zT,zT,zT,zF,zF,zT,zF,zF,zF,zF] ?_ rfl ?hy63 ?rest63
             case hy63 => intro w; go_simp; (try with_reducible rfl)
             try simp only [Act.put, zp]
             refine zC 18 #[zT,zT,zT,zT,zT,zT,zT,zT,zT,zT,zT,zT,zT,zT,zT,zT,zT,zT,zT,zF,zT,zF,zF,zF,zF] ?_ rfl ?hy64 ?rest64
             case hy64 => intro w; go_simp; (try with_reducible rfl)
             try simp only [Act.put, zp]
             refine zC 19 #[zT,zT,zT,zT,zT,zT,zT,zT,zT,zT,zT,zT,zT,zT,zT,zT,zT,zT,zT,zT,zT,zF,zF,zF,zF] ?_ rfl ?hy65 ?rest65
             case hy65 => intro w; go_simp; (try with_reducible rfl)
             try simp only [Act.put, zp]
             refine stepC (i := 21) (L := #[zT,zT,zT,zT,zT,zT,zT,zT,zT,zT,zT,zT,zT,zT,zT,zT,zT,zT,zT,zT,zT,zT,zF,zF,zF]) rfl (by rfl) (by kernel_rfl) (by rfl) (fun K hK => ?_)
             go_simp
             obtain ⟨v88, hc_, B7, j89, s90⟩ := alloc_d v86
             rw [hc_]
             clear hc_
             have zv88 : v86.heap.size ≤ v88.heap.size := Below.size j89
             refine hK _ _ ⟨fun _ _ => fun p hp => Below.block (later j10 (later j36 (later j38 (later j82 (later j85 (later j87 j89)))))) p hp, ?_⟩
             clear hK K
             try simp only [Act.put, zp]
             have O1 : OffD v88 v7.heap.size (v37.heap.size) (v86.heap.size) ⟨r1.neg, G1, m1, o1, r1.e, canon 4294967296 r1.m⟩ := OffD.of (d := ⟨r1.neg, G1, m1, o1, r1.e, canon 4294967296 r1.m⟩) (Ints.below I1 (later j38 (later j82 (later j85 (later j87 j89)))) (Nat.le_refl _)) (by omega) (by omega) (by omega) (by omega)
             have O2 : OffD v88 v7.heap.size (v37.heap.size) (v86.heap.size) ⟨r2.neg, G2, m2, o2, r2.e, canon 4294967296 r2.m⟩ := OffD.of (d := ⟨r2.neg, G2, m2, o2, r2.e, canon 4294967296 r2.m⟩) (Ints.below I2 (later j87 j89) (Nat.le_refl _)) (by omega) (by omega) (by omega) (by omega)
             obtain ⟨OX, OY⟩ := HX.out.all (P := OffD v88 v7.heap.size (v37.heap.size) (v86.heap.size)) O1 O2 (OffD.zero ..)
             exact leafC ⟨.tuple #[.agg #[.bool r1.neg, .slice G1 m1 o1, .int .i64 r1.e], .int .i64 q1], .agg #[.bool r1.neg, .slice G1 m1 o1, .int .i64 r1.e], .int .i64 q1, .func (.func 60) #[] #[.pointer (some ⟨v35.heap.size + 1, 0, none⟩), .pointer (some ⟨v35.heap.size, 0, none⟩)], .tuple #[.agg #[.bool r2.neg, .slice G2 m2 o2, .int .i64 r2.e], .int .i64 q2], .agg #[.bool r2.neg, .slice G2 m2 o2, .int .i64 r2.e], .int .i64 q2, .tuple #[.agg #[.bool X.s, .slice X.A X.n X.c, .int .i64 X.e], .agg #[.bool Y.s, .slice Y.A Y.n Y.c, .int .i64 Y.e], .int .i64 c], .tuple #[.agg #[.bool X.s, .slice X.A X.n X.c, .int .i64 X.e], .agg #[.bool Y.s, .slice Y.A Y.n Y.c, .int .i64 Y.e], .int .i64 c], v37.heap.size, v86.heap.size, X, Y, c, rfl, by omega, by omega, by omega, (box_later B6 (later j85 (later j87 j89)) s83), B7, (later j10 (later j36 (later j38 (later j82 (later j85 (later j87 j89)))))), Lib.hid (bothN HX.out ⟨rfl, rfl, rfl⟩ ⟨rfl, rfl, rfl⟩), OX, OY⟩
            case o9_21 =>
             go_simp
             obtain ⟨v91, hc_, B7, j92, s93⟩ := alloc_d v84
             rw [hc_]
             clear hc_
             have zv91 : v84.heap.size ≤ v91.heap.size := Below.size j92
             refine hK _ _ ⟨fun _ _ => fun p hp => Below.block (later j10 (later j36 (later j38 (later j82 (later j85 j92))))) p hp, ?_⟩
             clear hK K
             try simp only [Act.put, zp]
             refine stepC (i := 15) (L := #[zT,zT,zT,zT,zT,zT,zT,zT,zT,zT,zT,zT,zT,zT,zT,zT,zF,zF,zF,zF,zT,zT,zF,zF,zF]) rfl (by rfl) (by kernel_rfl) (by rfl) (fun K hK => ?_)
             go_simp
             obtain ⟨X, Y, c, hX⟩ := bothR ⟨r1.neg, G1, m1, o1, r1.e, canon 4294967296 r1.m⟩ ⟨r2.neg, G2, m2, o2, r2.e, canon 4294967296 r2.m⟩ q1 q2
             go_at_call 60
             refine (both1_any v91 ⟨r1.neg, G1, m1, o1, r1.e, canon 4294967296 r1.m⟩ ⟨r2.neg, G2, m2, o2, r2.e, canon 4294967296 r2.m⟩ q1 q2 (v35.heap.size + 1) (v35.heap.size) (Nat.lt_of_lt_of_le sE (Below.size (later j82 (later j85 j92)))) (Nat.lt_of_lt_of_le sD (Below.size (later j82 (later j85 j92)))) (box_later E_ (later j82 (later j85 j92)) sE) (box_later D_ (later j82 (later j85 j92)) sD) X Y c hX).mono ?_
             rintro e' v94 ⟨rfl, j95⟩
             have HX := Lib.hid hX
             clear hX
             have zv94 : v91.heap.size ≤ v94.heap.size := Below.size j95
             refine hK _ _ ⟨fun _ _ => fun p hp => Below.block (later j10 (later j36 (later j38 (later j82 (later j85 (later j92 j95)))))) p hp, ?_⟩
             clear hK K
             try simp only [Act.put, zp]
             refine zC 16 #[zT,zT,zT,zT,zT,zT,zT,zT,zT,zT,zT,zT,zT,zT,zT,zT,zT,zF,zF,zF,zT,zT,zF,zF,zF] ?_ rfl ?hy68 ?rest68
             case hy68 => intro w; go_simp; (try with_reducible rfl)
             try simp only [Act.put, zp]
             refine zC 17 #[zT,zT,zT,zT,zT,zT,zT,zT,zT,zT,zT,zT,zT,zT,zT,zT,zT,zT,zF,zF,zT,zT,zF,zF,zF] ?_ rfl ?hy69 ?rest69
             case hy69 => intro w; go_simp; (try with_reducible rfl)
             try simp only [Act.put, zp]
             refine zC 18 #[zT,zT,zT,zT,zT,zT,zT,zT,zT,zT,zT,zT,zT,zT,zT,zT,zT,zT,zT,zF,zT,zT,zF,zF,zF] ?_ rfl ?hy70 ?rest70
             case hy70 => intro w; go_simp; (try with_reducible rfl)
             try simp only [Act.put, zp]
             refine zC 19 #[zT,zT,zT,zT,zT,zT,zT,zT,zT,zT,zT,zT,zT,zT,zT,zT,zT,zT,zT,zT,zT,zT,zF,zF,zF] ?_ rfl ?hy71 ?rest71
             case hy71 => intro w; go_simp; (try with_reducible rfl)
             try simp only [Act.put, zp]
             have O1 : OffD v94 v7.heap.size (v37.heap.size) (v84.heap.size) ⟨r1.neg, G1, m1, o1, r1.e, canon 4294967296 r1.m⟩ := OffD.of (d := ⟨r1.neg, G1, m1, o1, r1.e, canon 4294967296 r1.m⟩) (Ints.below I1 (later j38 (later j82 (later j85 (later j92 j95)))) (Nat.le_refl _)) (by omega) (by omega) (by omega) (by omega)
             have O2 : OffD v94 v7.heap.size (v37.heap.size) (v84.heap.size) ⟨r2.neg, G2, m2, o2, r2.e, canon 4294967296 r2.m⟩ := OffD.of (d := ⟨r2.neg, G2, m2, o2, r2.e, canon 4294967296 r2.m⟩) (Ints.below I2 (later j92 j95) (Nat.le_refl _)) (by omega) (by omega) (by omega) (by omega)
             obtain ⟨OX, OY⟩ := HX.out.all (P := OffD v94 v7.heap.size (v37.heap.size) (v84.heap.size)) O1 O2 (OffD.zero ..)
             exact leafC ⟨.tuple #[.agg #[.bool r1.neg, .slice G1 m1 o1, .int .i64 r1.e], .int .i64 q1], .agg #[.bool r1.neg, .slice G1 m1 o1, .int .i64 r1.e], .int .i64 q1, .func (.func 60) #[] #[.pointer (some ⟨v35.heap.size + 1, 0, none⟩), .pointer (some ⟨v35.heap.size, 0, none⟩)], .tuple #[.agg #[.bool r2.neg, .slice G2 m2 o2, .int .i64 r2.e], .int .i64 q2], .agg #[.bool r2.neg, .slice G2 m2 o2, .int .i64 r2.e], .int .i64 q2, .tuple #[.agg #[.bool X.s, .slice X.A X.n X.c, .int .i64 X.e], .agg #[.bool Y.s, .slice Y.A Y.n Y.c, .int .i64 Y.e], .int .i64 c], .tuple #[.agg #[.bool X.s, .slice X.A X.n X.c, .int .i64 X.e], .agg #[.bool Y.s, .slice Y.A Y.n Y.c, .int .i64 Y.e], .int .i64 c], v37.heap.size, v84.heap.size, X, Y, c, rfl, by omega, by omega, by omega, (box_later B6 (later j85 (later j92 j95)) s83), (box_later B7 j95 s93), (later j10 (later j36 (later j38 (later j82 (later j85 (later j92 j95)))))), Lib.hid (bothN HX.out ⟨rfl, rfl, rfl⟩ ⟨rfl, rfl, rfl⟩), OX, OY⟩
           case o8_21 =>
            go_simp
            obtain ⟨v96, hc_, B7, j97, s98⟩ := alloc_d v81
            rw [hc_]
            clear hc_
            have zv96 : v81.heap.size ≤ v96.heap.size := Below.size j97
            refine hK _ _ ⟨fun _ _ => fun p hp => Below.block (later j10 (later j36 (later j38 (later j82 j97)))) p hp, ?_⟩
            clear hK K
            try simp only [Act.put, zp]
            refine stepC (i := 12) (L := #[zT,zT,zT,zT,zT,zT,zT,zT,zT,zT,zT,zT,zT,zF,zF,zF,zF,zF,zF,zF,zT,zT,zF,zF,zF]) rfl (by rfl) (by kernel_rfl) (by rfl) (fun K hK => ?_)
            go_simp
            go_at_call 40
            refine (Ceil_all v96 m.S.s m.W.s m.S.A m.W.A m.S.n m.S.c m.W.n m.W.c m.S.xs m.W.xs m.S.e m.W.e (MRows.on Rm (later j2 (later j8 (later j10 (later j36 (later j38 (later j82 j97))))))).S (MRows.on Rm (later j2 (later j8 (later j10 (later j36 (later j38 (later j82 j97))))))).W 0 r2 q2 H2.out).mono ?_
            rintro e' v99 ⟨G2, m2, o2, rfl, _, j100, I2⟩
            have zv99 : v96.heap.size ≤ v99.heap.size := Below.size j100
            refine hK _ _ ⟨fun _ _ => fun p hp => Below.block (later j10 (later j36 (later j38 (later j82 (later j97 j100))))) p hp, ?_⟩
            clear hK K
            try simp only [Act.put, zp]
            refine zC 13 #[zT,zT,zT,zT,zT,zT,zT,zT,zT,zT,zT,zT,zT,zT,zF,zF,zF,zF,zF,zF,zT,zT,zF,zF,zF] ?_ rfl ?hy73 ?rest73
            case hy73 => intro w; go_simp; (try with_reducible rfl)
            try simp only [Act.put, zp]
            refine zC 14 #[zT,zT,zT,zT,zT,zT,zT,zT,zT,zT,zT,zT,zT,zT,zT,zF,zF,zF,zF,zF,zT,zT,zF,zF,zF] ?_ rfl ?hy74 ?rest74
            case hy74 => intro w; go_simp; (try with_reducible rfl)
            try simp only [Act.put, zp]
            refine stepC (i := 15) (L := #[zT,zT,zT,zT,zT,zT,zT,zT,zT,zT,zT,zT,zT,zT,zT,zT,zF,zF,zF,zF,zT,zT,zF,zF,zF]) rfl (by rfl) (by kernel_rfl) (by rfl) (fun K hK => ?_)
            go_simp
            obtain ⟨X, Y, c, hX⟩ := bothR ⟨r1.neg, G1, m1, o1, r1.e, canon 4294967296 r1.m⟩ ⟨r2.neg, G2, m2, o2, r2.e, canon 4294967296 r2.m⟩ q1 q2
            go_at_call 60
            refine (both1_any v99 ⟨r1.neg, G1, m1, o1, r1.e, canon 4294967296 r1.m⟩ ⟨r2.neg, G2, m2, o2, r2.e, canon 4294967296 r2.m⟩ q1 q2 (v35.heap.size + 1) (v35.heap.size) (Nat.lt_of_lt_of_le sE (Below.size (later j82 (later j97 j100)))) (Nat.lt_of_lt_of_le sD (Below.size (later j82 (later j97 j100)))) (box_later E_ (later j82 (later j97 j100)) sE) (box_later D_ (later j82 (later j97 j100)) sD) X Y c hX).mono ?_
            rintro e' v101 ⟨rfl, j102⟩
            have HX := Lib.hid hX
            clear hX
            have zv101 : v99.heap.size ≤ v101.heap.size := Below.size j102
            refine hK _ _ ⟨fun _ _ => fun p hp => Below.block (later j10 (later j36 (later j38 (later j82 (later j97 (later j100 j102)))))) p hp, ?_⟩
            clear hK K
            try simp only [Act.put, zp]
            refine zC 16 #[zT,zT,zT,zT,zT,zT,zT,zT,zT,zT,zT,zT,zT,zT,zT,zT,zT,zF,zF,zF,zT,zT,zF,zF,zF] ?_ rfl ?hy76 ?rest76
            case hy76 => intro w; go_simp; (try with_reducible rfl)
            try simp only [Act.put, zp]
            refine zC 17 #[zT,zT,zT,zT,zT,zT,zT,zT,zT,zT,zT,zT,zT,zT,zT,zT,zT,zT,zF,zF,zT,zT,zF,zF,zF] ?_ rfl ?hy77 ?rest77
            case hy77 => intro w; go_simp; (try with_reducible rfl)
            try simp only [Act.put, zp]
            refine zC 18 #[zT,zT,zT,zT,zT,zT,zT,zT,zT,zT,zT,zT,zT,zT,zT,zT,zT,zT,zT,zF,zT,zT,zF,zF,zF] ?_ rfl ?hy78 ?rest78
            case hy78 => intro w; go_simp; (try with_reducible rfl)
            try simp only [Act.put, zp]
            refine zC 19 #[zT,zT,zT,zT,zT,zT,zT,zT,zT,zT,zT,zT,zT,zT,zT,zT,zT,zT,zT,zT,zT,zT,zF,zF,zF] ?_ rfl ?hy79 ?rest79
            case hy79 => intro w; go_simp; (try with_reducible rfl)
            try simp only [Act.put, zp]
            have O1 : OffD v101 v7.heap.size (v37.heap.size) (v81.heap.size) ⟨r1.neg, G1, m1, o1, r1.e, canon 4294967296 r1.m⟩ := OffD.of (d := ⟨r1.neg, G1, m1, o1, r1.e, canon 4294967296 r1.m⟩) (Ints.below I1 (later j38 (later j82 (later j97 (later j100 j102)))) (Nat.le_refl _)) (by omega) (by omega) (by omega) (by omega)
            have O2 : OffD v101 v7.heap.size (v37.heap.size) (v81.heap.size) ⟨r2.neg, G2, m2, o2, r2.e, canon 4294967296 r2.m⟩ := OffD.of (d := ⟨r2.neg, G2, m2, o2, r2.e, canon 4294967296 r2.m⟩) (Ints.below I2 j102 (Nat.le_refl _)) (by omega) (by omega) (by omega) (by omega)
            obtain ⟨OX, OY⟩ := HX.out.all (P := OffD v101 v7.heap.size (v37.heap.size) (v81.heap.size)) O1 O2 (OffD.zero ..)
            exact leafC ⟨.tuple #[.agg #[.bool r1.neg, .slice G1 m1 o1, .int .i64 r1.e], .int .i64 q1], .agg #[.bool r1.neg, .slice G1 m1 o1, .int .i64 r1.e], .int .i64 q1, .func (.func 60) #[] #[.pointer (some ⟨v35.heap.size + 1, 0, none⟩), .pointer (some ⟨v35.heap.size, 0, none⟩)], .tuple #[.agg #[.bool r2.neg, .slice G2 m2 o2, .int .i64 r2.e], .int .i64 q2], .agg #[.bool r2.neg, .slice G2 m2 o2, .int .i64 r2.e], .int .i64 q2, .tuple #[.agg #[.bool X.s, .slice X.A X.n X.c, .int .i64 X.e], .agg #[.bool Y.s, .slice Y.A Y.n Y.c, .int .i64 Y.e], .int .i64 c], .tuple #[.agg #[.bool X.s, .slice X.A X.n X.c, .int .i64 X.e], .agg #[.bool Y.s, .slice Y.A Y.n Y.c, .int .i64 Y.e], .int .i64 c], v37.heap.size, v81.heap.size, X, Y, c, rfl, by omega, by omega, by omega, (box_later B6 (later j97 (later j100 j102)) s83), (box_later B7 (later j100 j102) s98), (later j10 (later j36 (later j38 (later j82 (later j97 (later j100 j102)))))), Lib.hid (bothN HX.out ⟨rfl, rfl, rfl⟩ ⟨rfl, rfl, rfl⟩), OX, OY⟩
          case o3_21 =>
           go_simp
           obtain ⟨v103, hc_, B7, j104, s105⟩ := alloc_d v37
           rw [hc_]
           clear hc_
           have zv103 : v37.heap.size ≤ v103.heap.size := Below.size j104
           refine hK _ _ ⟨fun _ _ => fun p hp => Below.block (later j10 (later j36 (later j38 j104))) p hp, ?_⟩
           clear hK K
           try simp only [Act.put, zp]
           refine stepC2 (i := 12) (j := 20) (Li := #[zT,zT,zT,zT,zT,zT,zT,zT,zT,zT,zT,zT,zT,zF,zF,zF,zF,zF,zF,zF,zF,zT,zF,zF,zF]) (Lj := #[zT,zT,zT,zT,zT,zT,zT,zT,zT,zT,zT,zT,zF,zF,zF,zF,zF,zF,zF,zF,zT,zT,zF,zF,zF]) rfl rfl (by rfl) (by rfl) (by kernel_rfl) (by rfl) (by rfl) (fun K hK => ?o10_12) (fun K hK => ?o10_20)
           case o10_12 =>
            go_simp
            go_at_call 40
            refine (Ceil_all v103 m.S.s m.W.s m.S.A m.W.A m.S.n m.S.c m.W.n m.W.c m.S.xs m.W.xs m.S.e m.W.e (MRows.on Rm (later j2 (later j8 (later j10 (later j36 (later j38 j104)))))).S (MRows.on Rm (later j2 (later j8 (later j10 (later j36 (later j38 j104)))))).W 0 r2 q2 H2.out).mono ?_
            rintro e' v106 ⟨G2, m2, o2, rfl, _, j107, I2⟩
            have zv106 : v103.heap.size ≤ v106.heap.size := Below.size j107
            refine hK _ _ ⟨fun _ _ => fun p hp => Below.block (later j10 (later j36 (later j38 (later j104 j107)))) p hp, ?_⟩
            clear hK K
            try simp only [Act.put, zp]
            refine zC 13 #[zT,zT,zT,zT,zT,zT,zT,zT,zT,zT,zT,zT,zT,zT,zF,zF,zF,zF,zF,zF,zF,zT,zF,zF,zF] ?_ rfl ?hy80 ?rest80
            case hy80 => intro w; go_simp; (try with_reducible rfl)
            try simp only [Act.put, zp]
            refine zC 14 #[zT,zT,zT,zT,zT,zT,zT,zT,zT,zT,zT,zT,zT,zT,zT,zF,zF,zF,zF,zF,zF,zT,zF,zF,zF] ?_ rfl ?hy81 ?rest81
            case hy81 => intro w; go_simp; (try with_reducible rfl)
            try simp only [Act.put, zp]
            refine stepC2 (i := 15) (j := 20) (Li := #[zT,zT,zT,zT,zT,zT,zT,zT,zT,zT,zT,zT,zT,zT,zT,zT,zF,zF,zF,zF,zF,zT,zF,zF,zF]) (Lj := #[zT,zT,zT,zT,zT,zT,zT,zT,zT,zT,zT,zT,zT,zT,zT,zF,zF,zF,zF,zF,zT,zT,zF,zF,zF]) rfl rfl (by rfl) (by rfl) (by kernel_rfl) (by rfl) (by rfl) (fun K hK => ?o11_15) (fun K hK => ?o11_20)
            case o11_15 =>
             go_simp
             obtain ⟨X, Y, c, hX⟩ := bothR ⟨r1.neg, G1, m1, o1, r1.e, canon 4294967296 r1.m⟩ ⟨r2.neg, G2, m2, o2, r2.e, canon 4294967296 r2.m⟩ q1 q2
             go_at_call 60
             refine (both1_any v106 ⟨r1.neg, G1, m1, o1, r1.e, canon 4294967296 r1.m⟩ ⟨r2.neg, G2, m2, o2, r2.e, canon 4294967296 r2.m⟩ q1 q2 (v35.heap.size + 1) (v35.heap.size) (Nat.lt_of_lt_of_le sE (Below.size (later j104 j107))) (Nat.lt_of_lt_of_le sD (Below.size (later j104 j107))) (box_later E_ (later j104 j107) sE) (box_later D_ (later j104 j107) sD) X Y c hX).mono ?_
             rintro e' v108 ⟨rfl, j109⟩
             have HX := Lib.hid hX
             clear hX
             have zv108 : v106.heap.size ≤ v108.heap.size := Below.size j109
             refine hK _ _ ⟨fun _ _ => fun p hp => Below.block (later j10 (later j36 (later j38 (later j104 (later j107 j109))))) p hp, ?_⟩
             clear hK K
             try simp only [Act.put, zp]
             refine zC 16 #[zT,zT,zT,zT,zT,zT,zT,zT,zT,zT,zT,zT,zT,zT,zT,zT,zT,zF,zF,zF,zF,zT,zF,zF,zF] ?_ rfl ?hy82 ?rest82
             case hy82 => intro w; go_simp; (try with_reducible rfl)
             try simp only [Act.put, zp]
             refine zC 17 #[zT,zT,zT,zT,zT,zT,zT,zT,zT,zT,zT,zT,zT,zT,zT,zT,zT,zT,zF,zF,zF,zT,zF,zF,zF] ?_ rfl ?hy83 ?rest83
             case hy83 => intro w; go_simp; (try with_reducible rfl)
             try simp only [Act.put, zp]
             refine zC 18 #[zT,zT,zT,zT,zT,zT,zT,zT,zT,zT,zT,zT,zT,zT,zT,zT,zT,zT,zT,zF,zF,zT,zF,zF,zF] ?_ rfl ?hy84 ?rest84
             case hy84 => intro w; go_simp; (try with_reducible rfl)
             try simp only [Act.put, zp]
             refine zC 19 #[zT,zT,zT,zT,zT,zT,zT,zT,zT,zT,zT,zT,zT,zT,zT,zT,zT,zT,zT,zT,zF,zT,zF,zF,zF] ?_ rfl ?hy85 ?rest85
             case hy85 => intro w; go_simp; (try with_reducible rfl)
             try simp only [Act.put, zp]
             refine stepC (i := 20) (L := #[zT,zT,zT,zT,zT,zT,zT,zT,zT,zT,zT,zT,zT,zT,zT,zT,zT,zT,zT,zT,zT,zT,zF,zF,zF]) rfl (by rfl) (by kernel_rfl) (by rfl) (fun K hK => ?_)
             go_simp
             obtain ⟨v110, hc_, B6, j111, s112⟩ := alloc_d v108
             rw [hc_]
             clear hc_
             have zv110 : v108.heap.size ≤ v110.heap.size := Below.size j111
             refine hK _ _ ⟨fun _ _ => fun p hp => Below.block (later j10 (later j36 (later j38 (later j104 (later j107 (later j109 j111)))))) p hp, ?_⟩
             clear hK K
             try simp only [Act.put, zp]
             have O1 : OffD v110 v7.heap.size (v108.heap.size) (v37.heap.size) ⟨r1.neg, G1, m1, o1, r1.e, canon 4294967296 r1.m⟩ := OffD.of (d := ⟨r1.neg, G1, m1, o1, r1.e, canon 4294967296 r1.m⟩) (Ints.below I1 (later j38 (later j104 (later j107 (later j109 j111)))) (Nat.le_refl _)) (by omega) (by omega) (by omega) (by omega)
             have O2 : OffD v110 v7.heap.size (v108.heap.size) (v37.heap.size) ⟨r2.neg, G2, m2, o2, r2.e, canon 4294967296 r2.m⟩ := OffD.of (d := ⟨r2.neg, G2, m2, o2, r2.e, canon 4294967296 r2.m⟩) (Ints.below I2 (later j109 j111) (Nat.le_refl _)) (by omega) (by omega) (by omega) (by omega)
             obtain ⟨OX, OY⟩ := HX.out.all (P := OffD v110 v7.heap.size (v108.heap.size) (v37.heap.size)) O1 O2 (OffD.zero ..)
             exact leafC ⟨.tuple #[.agg #[.bool r1.neg, .slice G1 m1 o1, .int .i64 r1.e], .int .i64 q1], .agg #[.bool r1.neg, .slice G1 m1 o1, .int .i64 r1.e], .int .i64 q1, .func (.func 60) #[] #[.pointer (some ⟨v35.heap.size + 1, 0, none⟩), .pointer (some ⟨v35.heap.size, 0, none⟩)], .tuple #[.agg #[.bool r2.neg, .slice G2 m2 o2, .int .i64 r2.e], .int .i64 q2], .agg #[.bool r2.neg, .slice G2 m2 o2, .int .i64 r2.e], .int .i64 q2, .tuple #[.agg #[.bool X.s, .slice X.A X.n X.c, .int .i64 X.e], .agg #[.bool Y.s, .slice Y.A Y.n Y.c, .int .i64 Y.e], .int .i64 c], .tuple #[.agg #[.bool X.s, .slice X.A X.n X.c, .int .i64 X.e], .agg #[.bool Y.s, .slice Y.A Y.n Y.c, .int .i64 Y.e], .int .i64 c], v108.heap.size, v37.heap.size, X, Y, c, rfl, by omega, by omega, by omega, B6, (box_later B7 (later j107 (later j109 j111)) s105), (later j10 (later j36 (later j38 (later j104 (later j107 (later j109 j111)))))), Lib.hid (bothN HX.out ⟨rfl, rfl, rfl⟩ ⟨rfl, rfl, rfl⟩), OX, OY⟩
            case o11_20 =>
             go_simp
             obtain ⟨v113, hc_, B6, j114, s115⟩ := alloc_d v106
             rw [hc_]
             clear hc_
             have zv113 : v106.heap.size ≤ v113.heap.size := Below.size j114
             refine hK _ _ ⟨fun _ _ => fun p hp => Below.block (later j10 (later j36 (later j38 (later j104 (later j107 j114))))) p hp, ?_⟩
             clear hK K
             try simp only [Act.put, zp]
             refine stepC (i := 15) (L := #[zT,zT,zT,zT,zT,zT,zT,zT,zT,zT,zT,zT,zT,zT,zT,zT,zF,zF,zF,zF,zT,zT,zF,zF,zF]) rfl (by rfl) (by kernel_rfl) (by rfl) (fun K hK => ?_)
             go_simp
             obtain ⟨X, Y, c, hX⟩ := bothR ⟨r1.neg, G1, m1, o1, r1.e, canon 4294967296 r1.m⟩ ⟨r2.neg, G2, m2, o2, r2.e, canon 4294967296 r2.m⟩ q1 q2
             go_at_call 60
             refine (both1_any v113 ⟨r1.neg, G1, m1, o1, r1.e, canon 4294967296 r1.m⟩ ⟨r2.neg, G2, m2, o2, r2.e, canon 4294967296 r2.m⟩ q1 q2 (v35.heap.size + 1) (v35.heap.size) (Nat.lt_of_lt_of_le sE (Below.size (later j104 (later j107 j114)))) (Nat.lt_of_lt_of_le sD (Below.size (later j104 (later j107 j114)))) (box_later E_ (later j104 (later j107 j114)) sE) (box_later D_ (later j104 (later j107 j114)) sD) X Y c hX).mono ?_
             rintro e' v116 ⟨rfl, j117⟩
             have HX := Lib.hid hX
             clear hX
             have zv116 : v113.heap.size ≤ v116.heap.size := Below.size j117
             refine hK _ _ ⟨fun _ _ => fun p hp => Below.block (later j10 (later j36 (later j38 (later j104 (later j107 (later j114 j117)))))) p hp, ?_⟩
             clear hK K
             try simp only [Act.put, zp]
             refine zC 16 #[zT,zT,zT,zT,zT,zT,zT,zT,zT,zT,zT,zT,zT,zT,zT,zT,zT,zF,zF,zF,zT,zT,zF,zF,zF] ?_ rfl ?hy88 ?rest88
             case hy88 => intro w; go_simp; (try with_reducible rfl)
             try simp only [Act.put, zp]
             refine zC 17 #[zT,zT,zT,zT,zT,zT,zT,zT,zT,zT,zT,zT,zT,zT,zT,zT,zT,zT,zF,zF,zT,zT,zF,zF,zF] ?_ rfl ?hy89 ?rest89
             case hy89 => intro w; go_simp; (try with_reducible rfl)
             try simp only [Act.put, zp]
             refine zC 18 #[zT,zT,zT,zT,zT,zT,zT,zT,zT,zT,zT,zT,zT,zT,zT,zT,zT,zT,zT,zF,zT,zT,zF,zF,zF] ?_ rfl ?hy90 ?rest90
             case hy90 => intro w; go_simp; (try with_reducible rfl)
             try simp only [Act.put, zp]
             refine zC 19 #[zT,zT,zT,zT,zT,zT,zT,zT,zT,zT,zT,zT,zT,zT,zT,zT,zT,zT,zT,zT,zT,zT,zF,zF,zF] ?_ rfl ?hy91 ?rest91
             case hy91 => intro w; go_simp; (try with_reducible rfl)
             try simp only [Act.put, zp]
             have O1 : OffD v116 v7.heap.size (v106.heap.size) (v37.heap.size) ⟨r1.neg, G1, m1, o1, r1.e, canon 4294967296 r1.m⟩ := OffD.of (d := ⟨r1.neg, G1, m1, o1, r1.e, canon 4294967296 r1.m⟩) (Ints.below I1 (later j38 (later j104 (later j107 (later j114 j117)))) (Nat.le_refl _)) (by omega) (by omega) (by omega) (by omega)
             have O2 : OffD v116 v7.heap.size (v106.heap.size) (v37.heap.size) ⟨r2.neg, G2, m2, o2, r2.e, canon 4294967296 r2.m⟩ := OffD.of (d := ⟨r2.neg, G2, m2, o2, r2.e, canon 4294967296 r2.m⟩) (Ints.below I2 (later j114 j117) (Nat.le_refl _)) (by omega) (by omega) (by omega) (by omega)
             obtain ⟨OX, OY⟩ := HX.out.all (P := OffD v116 v7.heap.size (v106.heap.size) (v37.heap.size)) O1 O2 (OffD.zero ..)
             exact leafC ⟨.tuple #[.agg #[.bool r1.neg, .slice G1 m1 o1, .int .i64 r1.e], .int .i64 q1], .agg #[.bool r1.neg, .slice G1 m1 o1, .int .i64 r1.e], .int .i64 q1, .func (.func 60) #[] #[.pointer (some ⟨v35.heap.size + 1, 0, none⟩), .pointer (some ⟨v35.heap.size, 0, none⟩)], .tuple #[.agg #[.bool r2.neg, .slice G2 m2 o2, .int .i64 r2.e], .int .i64 q2], .agg #[.bool r2.neg, .slice G2 m2 o2, .int .i64 r2.e], .int .i64 q2, .tuple #[.agg #[.bool X.s, .slice X.A X.n X.c, .int .i64 X.e], .agg #[.bool Y.s, .slice Y.A Y.n Y.c, .int .i64 Y.e], .int .i64 c], .tuple #[.agg #[.bool X.s, .slice X.A X.n X.c, .int .i64 X.e], .agg #[.bool Y.s, .slice Y.A Y.n Y.c, .int .i64 Y.e], .int .i64 c], v106.heap.size, v37.heap.size, X, Y, c, rfl, by omega, by omega, by omega, (box_later B6 j117 s115), (box_later B7 (later j107 (later j114 j117)) s105), (later j10 (later j36 (later j38 (later j104 (later j107 (later j114 j117)))))), Lib.hid (bothN HX.out ⟨rfl, rfl, rfl⟩ ⟨rfl, rfl, rfl⟩), OX, OY⟩
           case o10_20 =>
            go_simp
            obtain ⟨v118, hc_, B6, j119, s120⟩ := alloc_d v103
            rw [hc_]
            clear hc_
            have zv118 : v103.heap.size ≤ v118.heap.size := Below.size j119
            refine hK _ _ ⟨fun _ _ => fun p hp => Below.block (later j10 (later j36 (later j38 (later j104 j119)))) p hp, ?_⟩
            clear hK K
            try simp only [Act.put, zp]
            refine stepC (i := 12) (L := #[zT,zT,zT,zT,zT,zT,zT,zT,zT,zT,zT,zT,zT,zF,zF,zF,zF,zF,zF,zF,zT,zT,zF,zF,zF]) rfl (by rfl) (by kernel_rfl) (by rfl) (fun K hK => ?_)
            go_simp
            go_at_call 40
            refine (Ceil_all v118 m.S.s m.W.s m.S.A m.W.A m.S.n m.S.c m.W.n m.W.c m.S.xs m.W.xs m.S.e m.W.e (MRows.on Rm (later j2 (later j8 (later j10 (later j36 (later j38 (later j104 j119))))))).S (MRows.on Rm (later j2 (later j8 (later j10 (later j36 (later j38 (later j104 j119))))))).W 0 r2 q2 H2.out).mono ?_
            rintro e' v121 ⟨G2, m2, o2, rfl, _, j122, I2⟩
            have zv121 : v118.heap.size ≤ v121.heap.size := Below.size j122
            refine hK _ _ ⟨fun _ _ => fun p hp => Below.block (later j10 (later j36 (later j38 (later j104 (later j119 j122))))) p hp, ?_⟩
            clear hK K
            try simp only [Act.put, zp]
            refine zC 13 #[zT,zT,zT,zT,zT,zT,zT,zT,zT,zT,zT,zT,zT,zT,zF,zF,zF,zF,zF,zF,zT,zT,zF,zF,zF] ?_ rfl ?hy93 ?rest93
            case hy93 => intro w; go_simp; (try with_reducible rfl)
            try simp only [Act.put, zp]
            refine zC 14 #[zT,zT,zT,zT,zT,zT,zT,zT,zT,zT,zT,zT,zT,zT,zT,zF,zF,zF,zF,zF,zT,zT,zF,zF,zF] ?_ rfl ?hy94 ?rest94
            case hy94 => intro w; go_simp; (try with_reducible rfl)
            try simp only [Act.put, zp]
            refine stepC (i := 15) (L := #[zT,zT,zT,zT,zT,zT,zT,zT,zT,zT,zT,zT,zT,zT,zT,zT,zF,zF,zF,zF,zT,zT,zF,zF,zF]) rfl (by rfl) (by kernel_rfl) (by rfl) (fun K hK => ?_)
            go_simp
            obtain ⟨X, Y, c, hX⟩ := bothR ⟨r1.neg, G1, m1, o1, r1.e, canon 4294967296 r1.m⟩ ⟨r2.neg, G2, m2, o2, r2.e, canon 4294967296 r2.m⟩ q1 q2
            go_at_call 60
            refine (both1_any v121 ⟨r1.neg, G1, m1, o1, r1.e, canon 4294967296 r1.m⟩ ⟨r2.neg, G2, m2, o2, r2.e, canon 4294967296 r2.m⟩ q1 q2 (v35.heap.size + 1) (v35.heap.size) (Nat.lt_of_lt_of_le sE (Below.size (later j104 (later j119 j122)))) (Nat.lt_of_lt_of_le sD (Below.size (later j104 (later j119 j122)))) (box_later E_ (later j104 (later j119 j122)) sE) (box_later D_ (later j104 (later j119 j122)) sD) X Y c hX).mono ?_
            rintro e' v123 ⟨rfl, j124⟩
            have HX := Lib.hid hX
            clear hX
            have zv123 : v121.heap.size ≤ v123.heap.size := Below.size j124
            refine hK _ _ ⟨fun _ _ => fun p hp => Below.block (later j10 (later j36 (later j38 (later j104 (later j119 (later j122 j124)))))) p hp, ?_⟩
            clear hK K
            try simp only [Act.put, zp]
            refine zC 16 #[zT,zT,zT,zT,zT,zT,zT,zT,zT,zT,zT,zT,zT,zT,zT,zT,zT,zF,zF,zF,zT,zT,zF,zF,zF] ?_ rfl ?hy96 ?rest96
            case hy96 => intro w; go_simp; (try with_reducible rfl)
            try simp only [Act.put, zp]
            refine zC 17 #[zT,zT,zT,zT,zT,zT,zT,zT,zT,zT,zT,zT,zT,zT,zT,zT,zT,zT,zF,zF,zT,zT,zF,zF,zF] ?_ rfl ?hy97 ?rest97
            case hy97 => intro w; go_simp; (try with_reducible rfl)
            try simp only [Act.put, zp]
            refine zC 18 #[zT,zT,zT,zT,zT,zT,zT,zT,zT,zT,zT,zT,zT,zT,zT,zT,zT,zT,zT,zF,zT,zT,zF,zF,zF] ?_ rfl ?hy98 ?rest98
            case hy98 => intro w; go_simp; (try with_reducible rfl)
            try simp only [Act.put, zp]
            refine zC 19 #[zT,zT,zT,zT,zT,zT,zT,zT,zT,zT,zT,zT,zT,zT,zT,zT,zT,zT,zT,zT,zT,zT,zF,zF,zF] ?_ rfl ?hy99 ?rest99
            case hy99 => intro w; go_simp; (try with_reducible rfl)
            try simp only [Act.put, zp]
            have O1 : OffD v123 v7.heap.size (v103.heap.size) (v37.heap.size) ⟨r1.neg, G1, m1, o1, r1.e, canon 4294967296 r1.m⟩ := OffD.of (d := ⟨r1.neg, G1, m1, o1, r1.e, canon 4294967296 r1.m⟩) (Ints.below I1 (later j38 (later j104 (later j119 (later j122 j124)))) (Nat.le_refl _)) (by omega) (by omega) (by omega) (by omega)
            have O2 : OffD v123 v7.heap.size (v103.heap.size) (v37.heap.size) ⟨r2.neg, G2, m2, o2, r2.e, canon 4294967296 r2.m⟩ := OffD.of (d := ⟨r2.neg, G2, m2, o2, r2.e, canon 4294967296 r2.m⟩) (Ints.below I2 j124 (Nat.le_refl _)) (by omega) (by omega) (by omega) (by omega)
            obtain ⟨OX, OY⟩ := HX.out.all (P := OffD v123 v7.heap.size (v103.heap.size) (v37.heap.size)) O1 O2 (OffD.zero ..)
            exact leafC ⟨.tuple #[.agg #[.bool r1.neg, .slice G1 m1 o1, .int .i64 r1.e], .int .i64 q1], .agg #[.bool r1.neg, .slice G1 m1 o1, .int .i64 r1.e], .int .i64 q1, .func (.func 60) #[] #[.pointer (some ⟨v35.heap.size + 1, 0, none⟩), .pointer (some ⟨v35.heap.size, 0, none⟩)], .tuple #[.agg #[.bool r2.neg, .slice G2 m2 o2, .int .i64 r2.e], .int .i64 q2], .agg #[.bool r2.neg, .slice G2 m2 o2, .int .i64 r2.e], .int .i64 q2, .tuple #[.agg #[.bool X.s, .slice X.A X.n X.c, .int .i64 X.e], .agg #[.bool Y.s, .slice Y.A Y.n Y.c, .int .i64 Y.e], .int .i64 c], .tuple #[.agg #[.bool X.s, .slice X.A X.n X.c, .int .i64 X.e], .agg #[.bool Y.s, .slice Y.A Y.n Y.c, .int .i64 Y.e], .int .i64 c], v103.heap.size, v37.heap.size, X, Y, c, rfl, by omega, by omega, by omega, (box_later B6 (later j122 j124) s120), (box_later B7 (later j119 (later j122 j124)) s105), (later j10 (later j36 (later j38 (later j104 (later j119 (later j122 j124)))))), Lib.hid (bothN HX.out ⟨rfl, rfl, rfl⟩ ⟨rfl, rfl, rfl⟩), OX, OY⟩
         case o2_20 =>
          go_simp
          obtain ⟨v125, hc_, B6, j126, s127⟩ := alloc_d v35
          rw [hc_]
          clear hc_
          have zv125 : v35.heap.size ≤ v125.heap.size := Below.size j126
          refine hK _ _ ⟨fun _ _ => fun p hp => Below.block (later j10 (later j36 j126)) p hp, ?_⟩
          clear hK K
          try simp only [Act.put, zp]
          refine stepC2 (i := 7) (j := 21) (Li := #[zT,zT,zT,zT,zT,zT,zT,zT,zT,zT,zT,zT,zF,zF,zF,zF,zF,zF,zF,zF,zT,zF,zF,zF,zF]) (Lj := #[zT,zT,zT,zT,zT,zT,zT,zF,zT,zT,zT,zT,zF,zF,zF,zF,zF,zF,zF,zF,zT,zT,zF,zF,zF]) rfl rfl (by rfl) (by rfl) (by kernel_rfl) (by rfl) (by rfl) (fun K hK => ?o12_7) (fun K hK => ?o12_21)
          case o12_7 =>
           go_simp
           go_at_call 38
           refine (both_any v125 r1.neg G1 m1 o1 r1.e q1).mono ?_
           rintro e' v128 ⟨rfl, j129, D_, E_, lD_⟩
           have sD : v125.heap.size < v128.heap.size := by omega
           have sE : v125.heap.size + 1 < v128.heap.size := by omega
           have zv128 : v125.heap.size ≤ v128.heap.size := Below.size j129
           refine hK _ _ ⟨fun _ _ => fun p hp => Below.block (later j10 (later j36 (later j126 j129))) p hp, ?_⟩
           clear hK K
           try simp only [Act.put, zp]
           refine stepC2 (i := 12) (j := 21) (Li := #[zT,zT,zT,zT,zT,zT,zT,zT,zT,zT,zT,zT,zT,zF,zF,zF,zF,zF,zF,zF,zT,zF,zF,zF,zF]) (Lj := #[zT,zT,zT,zT,zT,zT,zT,zT,zT,zT,zT,zT,zF,zF,zF,zF,zF,zF,zF,zF,zT,zT,zF,zF,zF]) rfl rfl (by rfl) (by rfl) (by kernel_rfl) (by rfl) (by rfl) (fun K hK => ?o13_12) (fun K hK => ?o13_21)
           case o13_12 =>
            go_simp
            go_at_call 40
            refine (Ceil_all v128 m.S.s m.W.s m.S.A m.W.A m.S.n m.S.c m.W.n m.W.c m.S.xs m.W.xs m.S.e m.W.e (MRows.on Rm (later j2 (later j8 (later j10 (later j36 (later j126 j129)))))).S (MRows.on Rm (later j2 (later j8 (later j10 (later j36 (later j126 j129)))))).W 0 r2 q2 H2.out).mono ?_
            rintro e' v130 ⟨G2, m2, o2, rfl, _, j131, I2⟩
            have zv130 : v128.heap.size ≤ v130.heap.size := Below.size j131
            refine hK _ _ ⟨fun _ _ => fun p hp => Below.block (later j10 (later j36 (later j126 (later j129 j131)))) p hp, ?_⟩
            clear hK K
            try simp only [Act.put, zp]
            refine zC 13 #[zT,zT,zT,zT,zT,zT,zT,zT,zT,zT,zT,zT,zT,zT,zF,zF,zF,zF,zF,zF,zT,zF,zF,zF,zF] ?_ rfl ?hy100 ?rest100
            case hy100 => intro w; go_simp; (try with_reducible rfl)
            try simp only [Act.put, zp]
            refine zC 14 #[zT,zT,zT,zT,zT,zT,zT,zT,zT,zT,zT,zT,zT,zT,zT,zF,zF,zF,zF,zF,zT,zF,zF,zF,zF] ?_ rfl ?hy101 ?rest101
            case hy101 => intro w; go_simp; (try with_reducible rfl)
            try simp only [Act.put, zp]
            refine stepC2 (i := 15) (j := 21) (Li := #[zT,zT,zT,zT,zT,zT,zT,zT,zT,zT,zT,zT,zT,zT,zT,zT,zF,zF,zF,zF,zT,zF,zF,zF,zF]) (Lj := #[zT,zT,zT,zT,zT,zT,zT,zT,zT,zT,zT,zT,zT,zT,zT,zF,zF,zF,zF,zF,zT,zT,zF,zF,zF]) rfl rfl (by rfl) (by rfl) (by kernel_rfl) (by rfl) (by rfl) (fun K hK => ?o14_15) (fun K hK => ?o14_21)
            case o14_15 =>
             go_simp
             obtain ⟨X, Y, c, hX⟩ := bothR ⟨r1.neg, G1, m1, o1, r1.e, canon 4294967296 r1.m⟩ ⟨r2.neg, G2, m2, o2, r2.e, canon 4294967296 r2.m⟩ q1 q2
             go_at_call 60
             refine (both1_any v130 ⟨r1.neg, G1, m1, o1, r1.e, canon 4294967296 r1.m⟩ ⟨r2.neg, G2, m2, o2, r2.e, canon 4294967296 r2.m⟩ q1 q2 (v125.heap.size + 1) (v125.heap.size) (Nat.lt_of_lt_of_le sE (Below.size j131)) (Nat.lt_of_lt_of_le sD (Below.size j131)) (box_later E_ j131 sE) (box_later D_ j131 sD) X Y c hX).mono ?_
             rintro e' v132 ⟨rfl, j133⟩
             have HX := Lib.hid hX
             clear hX
             have zv132 : v130.heap.size ≤ v132.heap.size := Below.size j133
             refine hK _ _ ⟨fun _ _ => fun p hp => Below.block (later j10 (later j36 (later j126 (later j129 (later j131 j133))))) p hp, ?_⟩
             clear hK K
             try simp only [Act.put, zp]
             refine zC 16 #[zT,zT,zT,zT,zT,zT,zT,zT,zT,zT,zT,zT,zT,zT,zT,zT,zT,zF,zF,zF,zT,zF,zF,zF,zF] ?_ rfl ?hy102 ?rest102
             case hy102 => intro w; go_simp; (try with_reducible rfl)
             try simp only [Act.put, zp]
             refine zC 17 #[zT,zT,zT,zT,zT,zT,zT,zT,zT,zT,zT,zT,zT,zT,zT,zT,zT,zT,zF,zF,zT,zF,zF,zF,zF] ?_ rfl ?hy103 ?rest103
             case hy103 => intro w; go_simp; (try with_reducible rfl)
             try simp only [Act.put, zp]
             refine zC 18 #[zT,zT,zT,zT,zT,zT,zT,zT,zT,zT,zT,zT,zT,zT,zT,zT,zT,zT,zT,zF,zT,zF,zF,zF,zF] ?_ rfl ?hy104 ?rest104
             case hy104 => intro w; go_simp; (try with_reducible rfl)
             try simp only [Act.put, zp]
             refine zC 19 #[zT,zT,zT,zT,zT,zT,zT,zT,zT,zT,zT,zT,zT,zT,zT,zT,zT,zT,zT,zT,zT,zF,zF,zF,zF] ?_ rfl ?hy105 ?rest105
             case hy105 => intro w; go_simp; (try with_reducible rfl)
             try simp only [Act.put, zp]
             refine stepC (i := 21) (L := #[zT,zT,zT,zT,zT,zT,zT,zT,zT,zT,zT,zT,zT,zT,zT,zT,zT,zT,zT,zT,zT,zT,zF,zF,zF]) rfl (by rfl) (by kernel_rfl) (by rfl) (fun K hK => ?_)
             go_simp
             obtain ⟨v134, hc_, B7, j135, s136⟩ := alloc_d v132
             rw [hc_]
             clear hc_
             have zv134 : v132.heap.size ≤ v134.heap.size := Below.size j135
             refine hK _ _ ⟨fun _ _ => fun p hp => Below.block (later j10 (later j36 (later j126 (later j129 (later j131 (later j133 j135)))))) p hp, ?_⟩
             clear hK K
             try simp only [Act.put, zp]
             have O1 : OffD v134 v7.heap.size (v35.heap.size) (v132.heap.size) ⟨r1.neg, G1, m1, o1, r1.e, canon 4294967296 r1.m⟩ := OffD.of (d := ⟨r1.neg, G1, m1, o1, r1.e, canon 4294967296 r1.m⟩) (Ints.below I1 (later j126 (later j129 (later j131 (later j133 j135)))) (Nat.le_refl _)) (by omega) (by omega) (by omega) (by omega)
             have O2 : OffD v134 v7.heap.size (v35.heap.size) (v132.heap.size) ⟨r2.neg, G2, m2, o2, r2.e, canon 4294967296 r2.m⟩ := OffD.of (d := ⟨r2.neg, G2, m2, o2, r2.e, canon 4294967296 r2.m⟩) (Ints.below I2 (later j133 j135) (Nat.le_refl _)) (by omega) (by omega) (by omega) (by omega)
             obtain ⟨OX, OY⟩ := HX.out.all (P := OffD v134 v7.heap.size (v35.heap.size) (v132.heap.size)) O1 O2 (OffD.zero ..)
             exact leafC ⟨.tuple #[.agg #[.bool r1.neg, .slice G1 m1 o1, .int .i64 r1.e], .int .i64 q1], .agg #[.bool r1.neg, .slice G1 m1 o1, .int .i64 r1.e], .int .i64 q1, .func (.func 60) #[] #[.pointer (some ⟨v125.heap.size + 1, 0, none⟩), .pointer (some ⟨v125.heap.size, 0, none⟩)], .tuple #[.agg #[.bool r2.neg, .slice G2 m2 o2, .int .i64 r2.e], .int .i64 q2], .agg #[.bool r2.neg, .slice G2 m2 o2, .int .i64 r2.e], .int .i64 q2, .tuple #[.agg #[.bool X.s, .slice X.A X.n X.c, .int .i64 X.e], .agg #[.bool Y.s, .slice Y.A Y.n Y.c, .int .i64 Y.e], .int .i64 c], .tuple #[.agg #[.bool X.s, .slice X.A X.n X.c, .int .i64 X.e], .agg #[.bool Y.s, .slice Y.A Y.n Y.c, .int .i64 Y.e], .int .i64 c], v35.heap.size, v132.heap.size, X, Y, c, rfl, by omega, by omega, by omega, (box_later B6 (later j129 (later j131 (later j133 j135))) s127), B7, (later j10 (later j36 (later j126 (later j129 (later j131 (later j133 j135)))))), Lib.hid (bothN HX.out ⟨rfl, rfl, rfl⟩ ⟨rfl, rfl, rfl⟩), OX, OY⟩
            case o14_21 =>
             go_simp
             obtain ⟨v137, hc_, B7, j138, s139⟩ := alloc_d v130
             rw [hc_]
             clear hc_
             have zv137 : v130.heap.size ≤ v137.heap.size := Below.size j138
             refine hK _ _ ⟨fun _ _ => fun p hp => Below.block (later j10 (later j36 (later j126 (later j129 (later j131 j138))))) p hp, ?_⟩
             clear hK K
             try simp only [Act.put, zp]
             refine stepC (i := 15) (L := #[zT,zT,zT,zT,zT,zT,zT,zT,zT,zT,zT,zT,zT,zT,zT,zT,zF,zF,zF,zF,zT,zT,zF,zF,zF]) rfl (by rfl) (by kernel_rfl) (by rfl) (fun K hK => ?_)
             go_simp
             obtain ⟨X, Y, c, hX⟩ := bothR ⟨r1.neg, G1, m1, o1, r1.e, canon 4294967296 r1.m⟩ ⟨r2.neg, G2, m2, o2, r2.e, canon 4294967296 r2.m⟩ q1 q2
             go_at_call 60
             refine (both1_any v137 ⟨r1.neg, G1, m1, o1, r1.e, canon 4294967296 r1.m⟩ ⟨r2.neg, G2, m2, o2, r2.e, canon 4294967296 r2.m⟩ q1 q2 (v125.heap.size + 1) (v125.heap.size) (Nat.lt_of_lt_of_le sE (Below.size (later j131 j138))) (Nat.lt_of_lt_of_le sD (Below.size (later j131 j138))) (box_later E_ (later j131 j138) sE) (box_later D_ (later j131 j138) sD) X Y c hX).mono ?_
             rintro e' v140 ⟨rfl, j141⟩
             have HX := Lib.hid hX
             clear hX
             have zv140 : v137.heap.size ≤ v140.heap.size := Below.size j141
             refine hK _ _ ⟨fun _ _ => fun p hp => Below.block (later j10 (later j36 (later j126 (later j129 (later j131 (later j138 j141)))))) p hp, ?_⟩
             clear hK K
             try simp only [Act.put, zp]
             refine zC 16 #[zT,zT,zT,zT,zT,zT,zT,zT,zT,zT,zT,zT,zT,zT,zT,zT,zT,zF,zF,zF,zT,zT,zF,zF,zF] ?_ rfl ?hy108 ?rest108
             case hy108 => intro w; go_simp; (try with_reducible rfl)
             try simp only [Act.put, zp]
             refine zC 17 #[zT,zT,zT,zT,zT,zT,zT,zT,zT,zT,zT,zT,zT,zT,zT,zT,zT,zT,zF,zF,zT,zT,zF,zF,zF] ?_ rfl ?hy109 ?rest109
             case hy109 => intro w; go_simp; (try with_reducible rfl)
             try simp only [Act.put, zp]
             refine zC 18 #[zT,zT,zT,zT,zT,zT,zT,zT,zT,zT,zT,zT,zT,zT,zT,zT,zT,zT,zT,zF,zT,zT,zF,zF,zF] ?_ rfl ?hy110 ?rest110
             case hy110 => intro w; go_simp; (try with_reducible rfl)
             try simp only [Act.put, zp]
             refine zC 19 #[zT,zT,zT,zT,zT,zT,zT,zT,zT,zT,zT,zT,zT,zT,zT,zT,zT,zT,zT,zT,zT,zT,zF,zF,zF] ?_ rfl ?hy111 ?rest111
             case hy111 => intro w; go_simp; (try with_reducible rfl)
             try simp only [Act.put, zp]
             have O1 : OffD v140 v7.heap.size (v35.heap.size) (v130.heap.size) ⟨r1.neg, G1, m1, o1, r1.e, canon 4294967296 r1.m⟩ := OffD.of (d := ⟨r1.neg, G1, m1, o1, r1.e, canon 4294967296 r1.m⟩) (Ints.below I1 (later j126 (later j129 (later j131 (later j138 j141)))) (Nat.le_refl _)) (by omega) (by omega) (by omega) (by omega)
             have O2 : OffD v140 v7.heap.size (v35.heap.size) (v130.heap.size) ⟨r2.neg, G2, m2, o2, r2.e, canon 4294967296 r2.m⟩ := OffD.of (d := ⟨r2.neg, G2, m2, o2, r2.e, canon 4294967296 r2.m⟩) (Ints.below I2 (later j138 j141) (Nat.le_refl _)) (by omega) (by omega) (by omega) (by omega)
             obtain ⟨OX, OY⟩ := HX.out.all (P := OffD v140 v7.heap.size (v35.heap.size) (v130.heap.size)) O1 O2 (OffD.zero ..)
             exact leafC ⟨.tuple #[.agg #[.bool r1.neg, .slice G1 m1 o1, .int .i64 r1.e], .int .i64 q1], .agg #[.bool r1.neg, .slice G1 m1 o1, .int .i64 r1.e], .int .i64 q1, .func (.func 60) #[] #[.pointer (some ⟨v125.heap.size + 1, 0, none⟩), .pointer (some ⟨v125.heap.size, 0, none⟩)], .tuple #[.agg #[.bool r2.neg, .slice G2 m2 o2, .int .i64 r2.e], .int .i64 q2], .agg #[.bool r2.neg, .slice G2 m2 o2, .int .i64 r2.e], .int .i64 q2, .tuple #[.agg #[.bool X.s, .slice X.A X.n X.c, .int .i64 X.e], .agg #[.bool Y.s, .slice Y.A Y.n Y.c, .int .i64 Y.e], .int .i64 c], .tuple #[.agg #[.bool X.s, .slice X.A X.n X.c, .int .i64 X.e], .agg #[.bool Y.s, .slice Y.A Y.n Y.c, .int .i64 Y.e], .int .i64 c], v35.heap.size, v130.heap.size, X, Y, c, rfl, by omega, by omega, by omega, (box_later B6 (later j129 (later j131 (later j138 j141))) s127), (box_later B7 j141 s139), (later j10 (later j36 (later j126 (later j129 (later j131 (later j138 j141)))))), Lib.hid (bothN HX.out ⟨rfl, rfl, rfl⟩ ⟨rfl, rfl, rfl⟩), OX, OY⟩
           case o13_21 =>
            go_simp
            obtain ⟨v142, hc_, B7, j143, s144⟩ := alloc_d v128
            rw [hc_]
            clear hc_
            have zv142 : v128.heap.size ≤ v142.heap.size := Below.size j143
            refine hK _ _ ⟨fun _ _ => fun p hp => Below.block (later j10 (later j36 (later j126 (later j129 j143)))) p hp, ?_⟩
            clear hK K
            try simp only [Act.put, zp]
            refine stepC (i := 12) (L := #[zT,zT,zT,zT,zT,zT,zT,zT,zT,zT,zT,zT,zT,zF,zF,zF,zF,zF,zF,zF,zT,zT,zF,zF,zF]) rfl (by rfl) (by kernel_rfl) (by rfl) (fun K hK => ?_)
            go_simp
            go_at_call 40
            refine (Ceil_all v142 m.S.s m.W.s m.S.A m.W.A m.S.n m.S.c m.W.n m.W.c m.S.xs m.W.xs m.S.e m.W.e (MRows.on Rm (later j2 (later j8 (later j10 (later j36 (later j126 (later j129 j143))))))).S (MRows.on Rm (later j2 (later j8 (later j10 (later j36 (later j126 (later j129 j143))))))).W 0 r2 q2 H2.out).mono ?_
            rintro e' v145 ⟨G2, m2, o2, rfl, _, j146, I2⟩
            have zv145 : v142.heap.size ≤ v145.heap.size := Below.size j146
            refine hK _ _ ⟨fun _ _ => fun p hp => Below.block (later j10 (later j36 (later j126 (later j129 (later j143 j146))))) p hp, ?_⟩
            clear hK K
            try simp only [Act.put, zp]
            refine zC 13 #[zT,zT,zT,zT,zT,zT,zT,zT,zT,zT,zT,zT,zT,zT,zF,zF,zF,zF,zF,zF,zT,zT,zF,zF,zF] ?_ rfl ?hy113 ?rest113
            case hy113 => intro w; go_simp; (try with_reducible rfl)
            try simp only [Act.put, zp]
            refine zC 14 #[zT,zT,zT,zT,zT,zT,zT,zT,zT,zT,zT,zT,zT,zT,zT,zF,zF,zF,zF,zF,zT,zT,zF,zF,zF] ?_ rfl ?hy114 ?rest114
            case hy114 => intro w; go_simp; (try with_reducible rfl)
            try simp only [Act.put, zp]
            refine stepC (i := 15) (L := #[zT,zT,zT,zT,zT,zT,zT,zT,zT,zT,zT,zT,zT,zT,zT,zT,zF,zF,zF,zF,zT,zT,zF,zF,zF]) rfl (by rfl) (by kernel_rfl) (by rfl) (fun K hK => ?_)
            go_simp
            obtain ⟨X, Y, c, hX⟩ := bothR ⟨r1.neg, G1, m1, o1, r1.e, canon 4294967296 r1.m⟩ ⟨r2.neg, G2, m2, o2, r2.e, canon 4294967296 r2.m⟩ q1 q2
            go_at_call 60
            refine (both1_any v145 ⟨r1.neg, G1, m1, o1, r1.e, canon 4294967296 r1.m⟩ ⟨r2.neg, G2, m2, o2, r2.e, canon 4294967296 r2.m⟩ q1 q2 (v125.heap.size + 1) (v125.heap.size) (Nat.lt_of_lt_of_le sE (Below.size (later j143 j146))) (Nat.lt_of_lt_of_le sD (Below.size (later j143 j146))) (box_later E_ (later j143 j146) sE) (box_later D_ (later j143 j146) sD) X Y c hX).mono ?_
            rintro e' v147 ⟨rfl, j148⟩
            have HX := Lib.hid hX
            clear hX
            have zv147 : v145.heap.size ≤ v147.heap.size := Below.size j148
            refine hK _ _ ⟨fun _ _ => fun p hp => Below.block (later j10 (later j36 (later j126 (later j129 (later j143 (later j146 j148)))))) p hp, ?_⟩
            clear hK K
            try simp only [Act.put, zp]
            refine zC 16 #[zT,zT,zT,zT,zT,zT,zT,zT,zT,zT,zT,zT,zT,zT,zT,zT,zT,zF,zF,zF,zT,zT,zF,zF,zF] ?_ rfl ?hy116 ?rest116
            case hy116 => intro w; go_simp; (try with_reducible rfl)
            try simp only [Act.put, zp]
            refine zC 17 #[zT,zT,zT,zT,zT,zT,zT,zT,zT,zT,zT,zT,zT,zT,zT,zT,zT,zT,zF,zF,zT,zT,zF,zF,zF] ?_ rfl ?hy117 ?rest117
            case hy117 => intro w; go_simp; (try with_reducible rfl)
            try simp only [Act.put, zp]
            refine zC 18 #[zT,zT,zT,zT,zT,zT,zT,zT,zT,zT,zT,zT,zT,zT,zT,zT,zT,zT,zT,zF,zT,zT,zF,zF,zF] ?_ rfl ?hy118 ?rest118
            case hy118 => intro w; go_simp; (try with_reducible rfl)
            try simp only [Act.put, zp]
            refine zC 19 #[zT,zT,zT,zT,zT,zT,zT,zT,zT,zT,zT,zT,zT,zT,zT,zT,zT,zT,zT,zT,zT,zT,zF,zF,zF] ?_ rfl ?hy119 ?rest119
            case hy119 => intro w; go_simp; (try with_reducible rfl)
            try simp only [Act.put, zp]
            have O1 : OffD v147 v7.heap.size (v35.heap.size) (v128.heap.size) ⟨r1.neg, G1, m1, o1, r1.e, canon 4294967296 r1.m⟩ := OffD.of (d := ⟨r1.neg, G1, m1, o1, r1.e, canon 4294967296 r1.m⟩) (Ints.below I1 (later j126 (later j129 (later j143 (later j146 j148)))) (Nat.le_refl _)) (by omega) (by omega) (by omega) (by omega)
            have O2 : OffD v147 v7.heap.size (v35.heap.size) (v128.heap.size) ⟨r2.neg, G2, m2, o2, r2.e, canon 4294967296 r2.m⟩ := OffD.of (d := ⟨r2.neg, G2, m2, o2, r2.e, canon 4294967296 r2.m⟩) (Ints.below I2 j148 (Nat.le_refl _)) (by omega) (by omega) (by omega) (by omega)
            obtain ⟨OX, OY⟩ := HX.out.all (P := OffD v147 v7.heap.size (v35.heap.size) (v128.heap.size)) O1 O2 (OffD.zero ..)
            exact leafC ⟨.tuple #[.agg #[.bool r1.neg, .slice G1 m1 o1, .int .i64 r1.e], .int .i64 q1], .agg #[.bool r1.neg, .slice G1 m1 o1, .int .i64 r1.e], .int .i64 q1, .func (.func 60) #[] #[.pointer (some ⟨v125.heap.size + 1, 0, none⟩), .pointer (some ⟨v125.heap.size, 0, none⟩)], .tuple #[.agg #[.bool r2.neg, .slice G2 m2 o2, .int .i64 r2.e], .int .i64 q2], .agg #[.bool r2.neg, .slice G2 m2 o2, .int .i64 r2.e], .int .i64 q2, .tuple #[.agg #[.bool X.s, .slice X.A X.n X.c, .int .i64 X.e], .agg #[.bool Y.s, .slice Y.A Y.n Y.c, .int .i64 Y.e], .int .i64 c], .tuple #[.agg #[.bool X.s, .slice X.A X.n X.c, .int .i64 X.e], .agg #[.bool Y.s, .slice Y.A Y.n Y.c, .int .i64 Y.e], .int .i64 c], v35.heap.size, v128.heap.size, X, Y, c, rfl, by omega, by omega, by omega, (box_later B6 (later j129 (later j143 (later j146 j148))) s127), (box_later B7 (later j146 j148) s144), (later j10 (later j36 (later j126 (later j129 (later j143 (later j146 j148)))))), Lib.hid (bothN HX.out ⟨rfl, rfl, rfl⟩ ⟨rfl, rfl, rfl⟩), OX, OY⟩
          case o12_21 =>
           go_simp
           obtain ⟨v149, hc_, B7, j150, s151⟩ := alloc_d v125
           rw [hc_]
           clear hc_
           have zv149 : v125.heap.size ≤ v149.heap.size := Below.size j150
           refine hK _ _ ⟨fun _ _ => fun p hp => Below.block (later j10 (later j36 (later j126 j150))) p hp, ?_⟩
           clear hK K
           try simp only [Act.put, zp]
           refine stepC (i := 7) (L := #[zT,zT,zT,zT,zT,zT,zT,zT,zT,zT,zT,zT,zF,zF,zF,zF,zF,zF,zF,zF,zT,zT,zF,zF,zF]) rfl (by rfl) (by kernel_rfl) (by rfl) (fun K hK => ?_)
           go_simp
           go_at_call 38
           refine (both_any v149 r1.neg G1 m1 o1 r1.e q1).mono ?_
           rintro e' v152 ⟨rfl, j153, D_, E_, lD_⟩
           have sD : v149.heap.size < v152.heap.size := by omega
           have sE : v149.heap.size + 1 < v152.heap.size := by omega
           have zv152 : v149.heap.size ≤ v152.heap.size := Below.size j153
           refine hK _ _ ⟨fun _ _ => fun p hp => Below.block (later j10 (later j36 (later j126 (later j150 j153)))) p hp, ?_⟩
           clear hK K
           try simp only [Act.put, zp]
           refine stepC (i := 12) (L := #[zT,zT,zT,zT,zT,zT,zT,zT,zT,zT,zT,zT,zT,zF,zF,zF,zF,zF,zF,zF,zT,zT,zF,zF,zF]) rfl (by rfl) (by kernel_rfl) (by rfl) (fun K hK => ?_)
           go_simp
           go_at_call 40
           refine (Ceil_all v152 m.S.s m.W.s m.S.A m.W.A m.S.n m.S.c m.W.n m.W.c m.S.xs m.W.xs m.S.e m.W.e (MRows.on Rm (later j2 (later j8 (later j10 (later j36 (later j126 (later j150 j153))))))).S (MRows.on Rm (later j2 (later j8 (later j10 (later j36 (later j126 (later j150 j153))))))).W 0 r2 q2 H2.out).mono ?_
           rintro e' v154 ⟨G2, m2, o2, rfl, _, j155, I2⟩
           have zv154 : v152.heap.size ≤ v154.heap.size := Below.size j155
           refine hK _ _ ⟨fun _ _ => fun p hp => Below.block (later j10 (later j36 (later j126 (later j150 (later j153 j155))))) p hp, ?_⟩
           clear hK K
           try simp only [Act.put, zp]
           refine zC 13 #[zT,zT,zT,zT,zT,zT,zT,zT,zT,zT,zT,zT,zT,zT,zF,zF,zF,zF,zF,zF,zT,zT,zF,zF,zF] ?_ rfl ?hy122 ?rest122
           case hy122 => intro w; go_simp; (try with_reducible rfl)
           try simp only [Act.put, zp]
           refine zC 14 #[zT,zT,zT,zT,zT,zT,zT,zT,zT,zT,zT,zT,zT,zT,zT,zF,zF,zF,zF,zF,zT,zT,zF,zF,zF] ?_ rfl ?hy123 ?rest123
           case hy123 => intro w; go_simp; (try with_reducible rfl)
           try simp only [Act.put, zp]
           refine stepC (i := 15) (L := #[zT,zT,zT,zT,zT,zT,zT,zT,zT,zT,zT,zT,zT,zT,zT,zT,zF,zF,zF,zF,zT,zT,zF,zF,zF]) rfl (by rfl) (by kernel_rfl) (by rfl) (fun K hK => ?_)
           go_simp
           obtain ⟨X, Y, c, hX⟩ := bothR ⟨r1.neg, G1, m1, o1, r1.e, canon 4294967296 r1.m⟩ ⟨r2.neg, G2, m2, o2, r2.e, canon 4294967296 r2.m⟩ q1 q2
           go_at_call 60
           refine (both1_any v154 ⟨r1.neg, G1, m1, o1, r1.e, canon 4294967296 r1.m⟩ ⟨r2.neg, G2, m2, o2, r2.e, canon 4294967296 r2.m⟩ q1 q2 (v149.heap.size + 1) (v149.heap.size) (Nat.lt_of_lt_of_le sE (Below.size j155)) (Nat.lt_of_lt_of_le sD (Below.size j155)) (box_later E_ j155 sE) (box_later D_ j155 sD) X Y c hX).mono ?_
           rintro e' v156 ⟨rfl, j157⟩
           have HX := Lib.hid hX
           clear hX
           have zv156 : v154.heap.size ≤ v156.heap.size := Below.size j157
           refine hK _ _ ⟨fun _ _ => fun p hp => Below.block (later j10 (later j36 (later j126 (later j150 (later j153 (later j155 j157)))))) p hp, ?_⟩
           clear hK K
           try simp only [Act.put, zp]
           refine zC 16 #[zT,zT,zT,zT,zT,zT,zT,zT,zT,zT,zT,zT,zT,zT,zT,zT,zT,zF,zF,zF,zT,zT,zF,zF,zF] ?_ rfl ?hy125 ?rest125
           case hy125 => intro w; go_simp; (try with_reducible rfl)
           try simp only [Act.put, zp]
           refine zC 17 #[zT,zT,zT,zT,zT,zT,zT,zT,zT,zT,zT,zT,zT,zT,zT,zT,zT,zT,zF,zF,zT,zT,zF,zF,zF] ?_ rfl ?hy126 ?rest126
           case hy126 => intro w; go_simp; (try with_reducible rfl)
           try simp only [Act.put, zp]
           refine zC 18 #[zT,zT,zT,zT,zT,zT,zT,zT,zT,zT,zT,zT,zT,zT,zT,zT,zT,zT,zT,zF,zT,zT,zF,zF,zF] ?_ rfl ?hy127 ?rest127
           case hy127 => intro w; go_simp; (try with_reducible rfl)
           try simp only [Act.put, zp]
           refine zC 19 #[zT,zT,zT,zT,zT,zT,zT,zT,zT,zT,zT,zT,zT,zT,zT,zT,zT,zT,zT,zT,zT,zT,zF,zF,zF] ?_ rfl ?hy128 ?rest128
           case hy128 => intro w; go_simp; (try with_reducible rfl)
           try simp only [Act.put, zp]
           have O1 : OffD v156 v7.heap.size (v35.heap.size) (v125.heap.size) ⟨r1.neg, G1, m1, o1, r1.e, canon 4294967296 r1.m⟩ := OffD.of (d := ⟨r1.neg, G1, m1, o1, r1.e, canon 4294967296 r1.m⟩) (Ints.below I1 (later j126 (later j150 (later j153 (later j155 j157)))) (Nat.le_refl _)) (by omega) (by omega) (by omega) (by omega)
           have O2 : OffD v156 v7.heap.size (v35.heap.size) (v125.heap.size) ⟨r2.neg, G2, m2, o2, r2.e, canon 4294967296 r2.m⟩ := OffD.of (d := ⟨r2.neg, G2, m2, o2, r2.e, canon 4294967296 r2.m⟩) (Ints.below I2 j157 (Nat.le_refl _)) (by omega) (by omega) (by omega) (by omega)
           obtain ⟨OX, OY⟩ := HX.out.all (P := OffD v156 v7.heap.size (v35.heap.size) (v125.heap.size)) O1 O2 (OffD.zero ..)
           exact leafC ⟨.tuple #[.agg #[.bool r1.neg, .slice G1 m1 o1, .int .i64 r1.e], .int .i64 q1], .agg #[.bool r1.neg, .slice G1 m1 o1, .int .i64 r1.e], .int .i64 q1, .func (.func 60) #[] #[.pointer (some ⟨v149.heap.size + 1, 0, none⟩), .pointer (some ⟨v149.heap.size, 0, none⟩)], .tuple #[.agg #[.bool r2.neg, .slice G2 m2 o2, .int .i64 r2.e], .int .i64 q2], .agg #[.bool r2.neg, .slice G2 m2 o2, .int .i64 r2.e], .int .i64 q2, .tuple #[.agg #[.bool X.s, .slice X.A X.n X.c, .int .i64 X.e], .agg #[.bool Y.s, .slice Y.A Y.n Y.c, .int .i64 Y.e], .int .i64 c], .tuple #[.agg #[.bool X.s, .slice X.A X.n X.c, .int .i64 X.e], .agg #[.bool Y.s, .slice Y.A Y.n Y.c, .int .i64 Y.e], .int .i64 c], v35.heap.size, v125.heap.size, X, Y, c, rfl, by omega, by omega, by omega, (box_later B6 (later j150 (later j153 (later j155 j157))) s127), (box_later B7 (later j153 (later j155 j157)) s151), (later j10 (later j36 (later j126 (later j150 (later j153 (later j155 j157)))))), Lib.hid (bothN HX.out ⟨rfl, rfl, rfl⟩ ⟨rfl, rfl, rfl⟩), OX, OY⟩
         case o2_21 =>
          go_simp
          obtain ⟨v158, hc_, B7, j159, s160⟩ := alloc_d v35
          rw [hc_]
          clear hc_
          have zv158 : v35.heap.size ≤ v158.heap.size := Below.size j159
          refine hK _ _ ⟨fun _ _ => fun p hp => Below.block (later j10 (later j36 j159)) p hp, ?_⟩
          clear hK K
          try simp only [Act.put, zp]
          refine stepC2 (i := 7) (j := 20) (Li := #[zT,zT,zT,zT,zT,zT,zT,zT,zT,zT,zT,zT,zF,zF,zF,zF,zF,zF,zF,zF,zF,zT,zF,zF,zF]) (Lj := #[zT,zT,zT,zT,zT,zT,zT,zF,zT,zT,zT,zT,zF,zF,zF,zF,zF,zF,zF,zF,zT,zT,zF,zF,zF]) rfl rfl (by rfl) (by rfl) (by kernel_rfl) (by rfl) (by rfl) (fun K hK => ?o15_7) (fun K hK => ?o15_20)
          case o15_7 =>
           go_simp
           go_at_call 38
           refine (both_any v158 r1.neg G1 m1 o1 r1.e q1).mono ?_
           rintro e' v161 ⟨rfl, j162, D_, E_, lD_⟩
           have sD : v158.heap.size < v161.heap.size := by omega
           have sE : v158.heap.size + 1 < v161.heap.size := by omega
           have zv161 : v158.heap.size ≤ v161.heap.size := Below.size j162
           refine hK _ _ ⟨fun _ _ => fun p hp => Below.block (later j10 (later j36 (later j159 j162))) p hp, ?_⟩
           clear hK K
           try simp only [Act.put, zp]
           refine stepC2 (i := 12) (j := 20) (Li := #[zT,zT,zT,zT,zT,zT,zT,zT,zT,zT,zT,zT,zT,zF,zF,zF,zF,zF,zF,zF,zF,zT,zF,zF,zF]) (Lj := #[zT,zT,zT,zT,zT,zT,zT,zT,zT,zT,zT,zT,zF,zF,zF,zF,zF,zF,zF,zF,zT,zT,zF,zF,zF]) rfl rfl (by rfl) (by rfl) (by kernel_rfl) (by rfl) (by rfl) (fun K hK => ?o16_12) (fun K hK => ?o16_20)
           case o16_12 =>
            go_simp
            go_at_call 40
            refine (Ceil_all v161 m.S.s m.W.s m.S.A m.W.A m.S.n m.S.c m.W.n m.W.c m.S.xs m.W.xs m.S.e m.W.e (MRows.on Rm (later j2 (later j8 (later j10 (later j36 (later j159 j162)))))).S (MRows.on Rm (later j2 (later j8 (later j10 (later j36 (later j159 j162)))))).W 0 r2 q2 H2.out).mono ?_
            rintro e' v163 ⟨G2, m2, o2, rfl, _, j164, I2⟩
            have zv163 : v161.heap.size ≤ v163.heap.size := Below.size j164
            refine hK _ _ ⟨fun _ _ => fun p hp => Below.block (later j10 (later j36 (later j159 (later j162 j164)))) p hp, ?_⟩
            clear hK K
            try simp only [Act.put, zp]
            refine zC 13 #[zT,zT,zT,zT,zT,zT,zT,zT,zT,zT,zT,zT,zT,zT,zF,zF,zF,zF,zF,zF,zF,zT,zF,zF,zF] ?_ rfl ?hy129 ?rest129
            case hy129 => intro w; go_simp; (try with_reducible rfl)
            try simp only [Act.put, zp]
            refine zC 14 #[zT,zT,zT,zT,zT,zT,zT,zT,zT,zT,zT,zT,zT,zT,zT,zF,zF,zF,zF,zF,zF,zT,zF,zF,zF] ?_ rfl ?hy130 ?rest130
            case hy130 => intro w; go_simp; (try with_reducible rfl)
            try simp only [Act.put, zp]
            refine stepC2 (i := 15) (j := 20) (Li := #[zT,zT,zT,zT,zT,zT,zT,zT,zT,zT,zT,zT,zT,zT,zT,zT,zF,zF,zF,zF,zF,zT,zF,zF,zF]) (Lj := #[zT,zT,zT,zT,zT,zT,zT,zT,zT,zT,zT,zT,zT,zT,zT,zF,zF,zF,zF,zF,zT,zT,zF,zF,zF]) rfl rfl (by rfl) (by rfl) (by kernel_rfl) (by rfl) (by rfl) (fun K hK => ?o17_15) (fun K hK => ?o17_20)
            case o17_15 =>
             go_simp
             obtain ⟨X, Y, c, hX⟩ := bothR ⟨r1.neg, G1, m1, o1, r1.e, canon 4294967296 r1.m⟩ ⟨r2.neg, G2, m2, o2, r2.e, canon 4294967296 r2.m⟩ q1 q2
             go_at_call 60
             refine (both1_any v163 ⟨r1.neg, G1, m1, o1, r1.e, canon 4294967296 r1.m⟩ ⟨r2.neg, G2, m2, o2, r2.e, canon 4294967296 r2.m⟩ q1 q2 (v158.heap.size + 1) (v158.heap.size) (Nat.lt_of_lt_of_le sE (Below.size j164)) (Nat.lt_of_lt_of_le sD (Below.size j164)) (box_later E_ j164 sE) (box_later D_ j164 sD) X Y c hX).mono ?_
             rintro e' v165 ⟨rfl, j166⟩
             have HX := Lib.hid hX
             clear hX
             have zv165 : v163.heap.size ≤ v165.heap.size := Below.size j166
             refine hK _ _ ⟨fun _ _ => fun p hp => Below.block (later j10 (later j36 (later j159 (later j162 (later j164 j166))))) p hp, ?_⟩
             clear hK K
             try simp only [Act.put, zp]
             refine zC 16 #[zT,zT,zT,zT,zT,zT,zT,zT,zT,zT,zT,zT,zT,zT,zT,zT,zT,zF,zF,zF,zF,zT,zF,zF,zF] ?_ rfl ?hy131 ?rest131
             case hy131 => intro w; go_simp; (try with_reducible rfl)
             try simp only [Act.put, zp]
             refine zC 17 #[zT,zT,zT,zT,zT,zT,zT,zT,zT,zT,zT,zT,zT,zT,zT,zT,zT,zT,zF,zF,zF,zT,zF,zF,zF] ?_ rfl ?hy132 ?rest132
             case hy132 => intro w; go_simp; (try with_reducible rfl)
             try simp only [Act.put, zp]
             refine zC 18 #[zT,zT,zT,zT,zT,zT,zT,zT,zT,zT,zT,zT,zT,zT,zT,zT,zT,zT,zT,zF,zF,zT,zF,zF,zF] ?_ rfl ?hy133 ?rest133
             case hy133 => intro w; go_simp; (try with_reducible rfl)
             try simp only [Act.put, zp]
             refine zC 19 #[zT,zT,zT,zT,zT,zT,zT,zT,zT,zT,zT,zT,zT,zT,zT,zT,zT,zT,zT,zT,zF,zT,zF,zF,zF] ?_ rfl ?hy134 ?rest134
             case hy134 => intro w; go_simp; (try with_reducible rfl)
             try simp only [Act.put, zp]
             refine stepC (i := 20) (L := #[zT,zT,zT,zT,zT,zT,zT,zT,zT,zT,zT,zT,zT,zT,zT,zT,zT,zT,zT,zT,zT,zT,zF,zF,zF]) rfl (by rfl) (by kernel_rfl) (by rfl) (fun K hK => ?_)
             go_simp
             obtain ⟨v167, hc_, B6, j168, s169⟩ := alloc_d v165
             rw [hc_]
             clear hc_
             have zv167 : v165.heap.size ≤ v167.heap.size := Below.size j168
             refine hK _ _ ⟨fun _ _ => fun p hp => Below.block (later j10 (later j36 (later j159 (later j162 (later j164 (later j166 j168)))))) p hp, ?_⟩
             clear hK K
             try simp only [Act.put, zp]
             have O1 : OffD v167 v7.heap.size (v165.heap.size) (v35.heap.size) ⟨r1.neg, G1, m1, o1, r1.e, canon 4294967296 r1.m⟩ := OffD.of (d := ⟨r1.neg, G1, m1, o1, r1.e, canon 4294967296 r1.m⟩) (Ints.below I1 (later j159 (later j162 (later j164 (later j166 j168)))) (Nat.le_refl _)) (by omega) (by omega) (by omega) (by omega)
             have O2 : OffD v167 v7.heap.size (v165.heap.size) (v35.heap.size) ⟨r2.neg, G2, m2, o2, r2.e, canon 4294967296 r2.m⟩ := OffD.of (d := ⟨r2.neg, G2, m2, o2, r2.e, canon 4294967296 r2.m⟩) (Ints.below I2 (later j166 j168) (Nat.le_refl _)) (by omega) (by omega) (by omega) (by omega)
             obtain ⟨OX, OY⟩ := HX.out.all (P := OffD v167 v7.heap.size (v165.heap.size) (v35.heap.size)) O1 O2 (OffD.zero ..)
             exact leafC ⟨.tuple #[.agg #[.bool r1.neg, .slice G1 m1 o1, .int .i64 r1.e], .int .i64 q1], .agg #[.bool r1.neg, .slice G1 m1 o1, .int .i64 r1.e], .int .i64 q1, .func (.func 60) #[] #[.pointer (some ⟨v158.heap.size + 1, 0, none⟩), .pointer (some ⟨v158.heap.size, 0, none⟩)], .tuple #[.agg #[.bool r2.neg, .slice G2 m2 o2, .int .i64 r2.e], .int .i64 q2], .agg #[.bool r2.neg, .slice G2 m2 o2, .int .i64 r2.e], .int .i64 q2, .tuple #[.agg #[.bool X.s, .slice X.A X.n X.c, .int .i64 X.e], .agg #[.bool Y.s, .slice Y.A Y.n Y.c, .int .i64 Y.e], .int .i64 c], .tuple #[.agg #[.bool X.s, .slice X.A X.n X.c, .int .i64 X.e], .agg #[.bool Y.s, .slice Y.A Y.n Y.c, .int .i64 Y.e], .int .i64 c], v165.heap.size, v35.heap.size, X, Y, c, rfl, by omega, by omega, by omega, B6, (box_later B7 (later j162 (later j164 (later j166 j168))) s160), (later j10 (later j36 (later j159 (later j162 (later j164 (later j166 j168)))))), Lib.hid (bothN HX.out ⟨rfl, rfl, rfl⟩ ⟨rfl, rfl, rfl⟩), OX, OY⟩
            case o17_20 =>
             go_simp
             obtain ⟨v170, hc_, B6, j171, s172⟩ := alloc_d v163
             rw [hc_]
             clear hc_
             have zv170 : v163.heap.size ≤ v170.heap.size := Below.size j171
             refine hK _ _ ⟨fun _ _ => fun p hp => Below.block (later j10 (later j36 (later j159 (later j162 (later j164 j171))))) p hp, ?_⟩
             clear hK K
             try simp only [Act.put, zp]
             refine stepC (i := 15) (L := #[zT,zT,zT,zT,zT,zT,zT,zT,zT,zT,zT,zT,zT,zT,zT,zT,zF,zF,zF,zF,zT,zT,zF,zF,zF]) rfl (by rfl) (by kernel_rfl) (by rfl) (fun K hK => ?_)
             go_simp
             obtain ⟨X, Y, c, hX⟩ := bothR ⟨r1.neg, G1, m1, o1, r1.e, canon 4294967296 r1.m⟩ ⟨r2.neg, G2, m2, o2, r2.e, canon 4294967296 r2.m⟩ q1 q2
             go_at_call 60
             refine (both1_any v170 ⟨r1.neg, G1, m1, o1, r1.e, canon 4294967296 r1.m⟩ ⟨r2.neg, G2, m2, o2, r2.e, canon 4294967296 r2.m⟩ q1 q2 (v158.heap.size + 1) (v158.heap.size) (Nat.lt_of_lt_of_le sE (Below.size (later j164 j171))) (Nat.lt_of_lt_of_le sD (Below.size (later j164 j171))) (box_later E_ (later j164 j171) sE) (box_later D_ (later j164 j171) sD) X Y c hX).mono ?_
             rintro e' v173 ⟨rfl, j174⟩
             have HX := Lib.hid hX
             clear hX
             have zv173 : v170.heap.size ≤ v173.heap.size := Below.size j174
             refine hK _ _ ⟨fun _ _ => fun p hp => Below.block (later j10 (later j36 (later j159 (later j162 (later j164 (later j171 j174)))))) p hp, ?_⟩
             clear hK K
             try simp only [Act.put, zp]
             refine zC 16 #[zT,zT,zT,zT,zT,zT,zT,zT,zT,zT,zT,zT,zT,zT,zT,zT,zT,zF,zF,zF,zT,zT,zF,zF,zF] ?_ rfl ?hy137 ?rest137
             case hy137 => intro w; go_simp; (try with_reducible rfl)
             try simp only [Act.put, zp]
             refine zC 17 #[zT,zT,zT,zT,zT,zT,zT,zT,zT,zT,zT,zT,zT,zT,zT,zT,zT,zT,zF,zF,zT,zT,zF,zF,zF] ?_ rfl ?hy138 ?rest138
             case hy138 => intro w; go_simp; (try with_reducible rfl)
             try simp only [Act.put, zp]
             refine zC 18 #[zT,zT,zT,zT,zT,zT,zT,zT,zT,zT,zT,zT,zT,zT,zT,zT,zT,zT,zT,zF,zT,zT,zF,zF,zF] ?_ rfl ?hy139 ?rest139
             case hy139 => intro w; go_simp; (try with_reducible rfl)
             try simp only [Act.put, zp]
             refine zC 19 #[zT,zT,zT,zT,zT,zT,zT,zT,zT,zT,zT,zT,zT,zT,zT,zT,zT,zT,zT,zT,zT,zT,zF,zF,zF] ?_ rfl ?hy140 ?rest140
             case hy140 => intro w; go_simp; (try with_reducible rfl)
             try simp only [Act.put, zp]
             have O1 : OffD v173 v7.heap.size (v163.heap.size) (v35.heap.size) ⟨r1.neg, G1, m1, o1, r1.e, canon 4294967296 r1.m⟩ := OffD.of (d := ⟨r1.neg, G1, m1, o1, r1.e, canon 4294967296 r1.m⟩) (Ints.below I1 (later j159 (later j162 (later j164 (later j171 j174)))) (Nat.le_refl _)) (by omega) (by omega) (by omega) (by omega)
             have O2 : OffD v173 v7.heap.size (v163.heap.size) (v35.heap.size) ⟨r2.neg, G2, m2, o2, r2.e, canon 4294967296 r2.m⟩ := OffD.of (d := ⟨r2.neg, G2, m2, o2, r2.e, canon 4294967296 r2.m⟩) (Ints.below I2 (later j171 j174) (Nat.le_refl _)) (by omega) (by omega) (by omega) (by omega)
             obtain ⟨OX, OY⟩ := HX.out.all (P := OffD v173 v7.heap.size (v163.heap.size) (v35.heap.size)) O1 O2 (OffD.zero ..)
             exact leafC ⟨.tuple #[.agg #[.bool r1.neg, .slice G1 m1 o1, .int .i64 r1.e], .int .i64 q1], .agg #[.bool r1.neg, .slice G1 m1 o1, .int .i64 r1.e], .int .i64 q1, .func (.func 60) #[] #[.pointer (some ⟨v158.heap.size + 1, 0, none⟩), .pointer (some ⟨v158.heap.size, 0, none⟩)], .tuple #[.agg #[.bool r2.neg, .slice G2 m2 o2, .int .i64 r2.e], .int .i64 q2], .agg #[.bool r2.neg, .slice G2 m2 o2, .int .i64 r2.e], .int .i64 q2, .tuple #[.agg #[.bool X.s, .slice X.A X.n X.c, .int .i64 X.e], .agg #[.bool Y.s, .slice Y.A Y.n Y.c, .int .i64 Y.e], .int .i64 c], .tuple #[.agg #[.bool X.s, .slice X.A X.n X.c, .int .i64 X.e], .agg #[.bool Y.s, .slice Y.A Y.n Y.c, .int .i64 Y.e], .int .i64 c], v163.heap.size, v35.heap.size, X, Y, c, rfl, by omega, by omega, by omega, (box_later B6 j174 s172), (box_later B7 (later j162 (later j164 (later j171 j174))) s160), (later j10 (later j36 (later j159 (later j162 (later j164 (later j171 j174)))))), Lib.hid (bothN HX.out ⟨rfl, rfl, rfl⟩ ⟨rfl, rfl, rfl⟩), OX, OY⟩
           case o16_20 =>
            go_simp
            obtain ⟨v175, hc_, B6, j176, s177⟩ := alloc_d v161
            rw [hc_]
            clear hc_
            have zv175 : v161.heap.size ≤ v175.heap.size := Below.size j176
            refine hK _ _ ⟨fun _ _ => fun p hp => Below.block (later j10 (later j36 (later j159 (later j162 j176)))) p hp, ?_⟩
            clear hK K
            try simp only [Act.put, zp]
            refine stepC (i := 12) (L := #[zT,zT,zT,zT,zT,zT,zT,zT,zT,zT,zT,zT,zT,zF,zF,zF,zF,zF,zF,zF,zT,zT,zF,zF,zF]) rfl (by rfl) (by kernel_rfl) (by rfl) (fun K hK => ?_)
            go_simp
            go_at_call 40
            refine (Ceil_all v175 m.S.s m.W.s m.S.A m.W.A m.S.n m.S.c m.W.n m.W.c m.S.xs m.W.xs m.S.e m.W.e (MRows.on Rm (later j2 (later j8 (later j10 (later j36 (later j159 (later j162 j176))))))).S (MRows.on Rm (later j2 (later j8 (later j10 (later j36 (later j159 (later j162 j176))))))).W 0 r2 q2 H2.out).mono ?_
            rintro e' v178 ⟨G2, m2, o2, rfl, _, j179, I2⟩
            have zv178 : v175.heap.size ≤ v178.heap.size := Below.size j179
            refine hK _ _ ⟨fun _ _ => fun p hp => Below.block (later j10 (later j36 (later j159 (later j162 (later j176 j179))))) p hp, ?_⟩
            clear hK K
            try simp only [Act.put, zp]
            refine zC 13 #[zT,zT,zT,zT,zT,zT,zT,zT,zT,zT,zT,zT,zT,zT,zF,zF,zF,zF,zF,zF,zT,zT,zF,zF,zF] ?_ rfl ?hy142 ?rest142
            case hy142 => intro w; go_simp; (try with_reducible rfl)
            try simp only [Act.put, zp]
            refine zC 14 #[zT,zT,zT,zT,zT,zT,zT,zT,zT,zT,zT,zT,zT,zT,zT,zF,zF,zF,zF,zF,zT,zT,zF,zF,zF] ?_ rfl ?hy143 ?rest143
            case hy143 => intro w; go_simp; (try with_reducible rfl)
            try simp only [Act.put, zp]
            refine stepC (i := 15) (L := #[zT,zT,zT,zT,zT,zT,zT,zT,zT,zT,zT,zT,zT,zT,zT,zT,zF,zF,zF,zF,zT,zT,zF,zF,zF]) rfl (by rfl) (by kernel_rfl) (by rfl) (fun K hK => ?_)
            go_simp
            obtain ⟨X, Y, c, hX⟩ := bothR ⟨r1.neg, G1, m1, o1, r1.e, canon 4294967296 r1.m⟩ ⟨r2.neg, G2, m2, o2, r2.e, canon 4294967296 r2.m⟩ q1 q2
            go_at_call 60
            refine (both1_any v178 ⟨r1.neg, G1, m1, o1, r1.e, canon 4294967296 r1.m⟩ ⟨r2.neg, G2, m2, o2, r2.e, canon 4294967296 r2.m⟩ q1 q2 (v158.heap.size + 1) (v158.heap.size) (Nat.lt_of_lt_of_le sE (Below.size (later j176 j179))) (Nat.lt_of_lt_of_le sD (Below.size (later j176 j179))) (box_later E_ (later j176 j179) sE) (box_later D_ (later j176 j179) sD) X Y c hX).mono ?_
            rintro e' v180 ⟨rfl, j181⟩
            have HX := Lib.hid hX
            clear hX
            have zv180 : v178.heap.size ≤ v180.heap.size := Below.size j181
            refine hK _ _ ⟨fun _ _ => fun p hp => Below.block (later j10 (later j36 (later j159 (later j162 (later j176 (later j179 j181)))))) p hp, ?_⟩
            clear hK K
            try simp only [Act.put, zp]
            refine zC 16 #[zT,zT,zT,zT,zT,zT,zT,zT,zT,zT,zT,zT,zT,zT,zT,zT,zT,zF,zF,zF,zT,zT,zF,zF,zF] ?_ rfl ?hy145 ?rest145
            case hy145 => intro w; go_simp; (try with_reducible rfl)
            try simp only [Act.put, zp]
            refine zC 17 #[zT,zT,zT,zT,zT,zT,zT,zT,zT,zT,zT,zT,zT,zT,zT,zT,zT,zT,zF,zF,zT,zT,zF,zF,zF] ?_ rfl ?hy146 ?rest146
            case hy146 => intro w; go_simp; (try with_reducible rfl)
            try simp only [Act.put, zp]
            refine zC 18 #[zT,zT,zT,zT,zT,zT,zT,zT,zT,zT,zT,zT,zT,zT,zT,zT,zT,zT,zT,zF,zT,zT,zF,zF,zF] ?_ rfl ?hy147 ?rest147
            case hy147 => intro w; go_simp; (try with_reducible rfl)
            try simp only [Act.put, zp]
            refine zC 19 #[zT,zT,zT,zT,zT,zT,zT,zT,zT,zT,zT,zT,zT,zT,zT,zT,zT,zT,zT,zT,zT,zT,zF,zF,zF] ?_ rfl ?hy148 ?rest148
            case hy148 => intro w; go_simp; (try with_reducible rfl)
            try simp only [Act.put, zp]
            have O1 : OffD v180 v7.heap.size (v161.heap.size) (v35.heap.size) ⟨r1.neg, G1, m1, o1, r1.e, canon 4294967296 r1.m⟩ := OffD.of (d := ⟨r1.neg, G1, m1, o1, r1.e, canon 4294967296 r1.m⟩) (Ints.below I1 (later j159 (later j162 (later j176 (later j179 j181)))) (Nat.le_refl _)) (by omega) (by omega) (by omega) (by omega)
            have O2 : OffD v180 v7.heap.size (v161.heap.size) (v35.heap.size) ⟨r2.neg, G2, m2, o2, r2.e, canon 4294967296 r2.m⟩ := OffD.of (d := ⟨r2.neg, G2, m2, o2, r2.e, canon 4294967296 r2.m⟩) (Ints.below I2 j181 (Nat.le_refl _)) (by omega) (by omega) (by omega) (by omega)
            obtain ⟨OX, OY⟩ := HX.out.all (P := OffD v180 v7.heap.size (v161.heap.size) (v35.heap.size)) O1 O2 (OffD.zero ..)
            exact leafC ⟨.tuple #[.agg #[.bool r1.neg, .slice G1 m1 o1, .int .i64 r1.e], .int .i64 q1], .agg #[.bool r1.neg, .slice G1 m1 o1, .int .i64 r1.e], .int .i64 q1, .func (.func 60) #[] #[.pointer (some ⟨v158.heap.size + 1, 0, none⟩), .pointer (some ⟨v158.heap.size, 0, none⟩)], .tuple #[.agg #[.bool r2.neg, .slice G2 m2 o2, .int .i64 r2.e], .int .i64 q2], .agg #[.bool r2.neg, .slice G2 m2 o2, .int .i64 r2.e], .int .i64 q2, .tuple #[.agg #[.bool X.s, .slice X.A X.n X.c, .int .i64 X.e], .agg #[.bool Y.s, .slice Y.A Y.n Y.c, .int .i64 Y.e], .int .i64 c], .tuple #[.agg #[.bool X.s, .slice X.A X.n X.c, .int .i64 X.e], .agg #[.bool Y.s, .slice Y.A Y.n Y.c, .int .i64 Y.e], .int .i64 c], v161.heap.size, v35.heap.size, X, Y, c, rfl, by omega, by omega, by omega, (box_later B6 (later j179 j181) s177), (box_later B7 (later j162 (later j176 (later j179 j181))) s160), (later j10 (later j36 (later j159 (later j162 (later j176 (later j179 j181)))))), Lib.hid (bothN HX.out ⟨rfl, rfl, rfl⟩ ⟨rfl, rfl, rfl⟩), OX, OY⟩
          case o15_20 =>
           go_simp
           obtain ⟨v182, hc_, B6, j183, s184⟩ := alloc_d v158
           rw [hc_]
           clear hc_
           have zv182 : v158.heap.size ≤ v182.heap.size := Below.size j183
           refine hK _ _ ⟨fun _ _ => fun p hp => Below.block (later j10 (later j36 (later j159 j183))) p hp, ?_⟩
           clear hK K
           try simp only [Act.put, zp]
           refine stepC (i := 7) (L := #[zT,zT,zT,zT,zT,zT,zT,zT,zT,zT,zT,zT,zF,zF,zF,zF,zF,zF,zF,zF,zT,zT,zF,zF,zF]) rfl (by rfl) (by kernel_rfl) (by rfl) (fun K hK => ?_)
           go_simp
           go_at_call 38
           refine (both_any v182 r1.neg G1 m1 o1 r1.e q1).mono ?_
           rintro e' v185 ⟨rfl, j186, D_, E_, lD_⟩
           have sD : v182.heap.size < v185.heap.size := by omega
           have sE : v182.heap.size + 1 < v185.heap.size := by omega
           have zv185 : v182.heap.size ≤ v185.heap.size := Below.size j186
           refine hK _ _ ⟨fun _ _ => fun p hp => Below.block (later j10 (later j36 (later j159 (later j183 j186)))) p hp, ?_⟩
           clear hK K
           try simp only [Act.put, zp]
           refine stepC (i := 12) (L := #[zT,zT,zT,zT,zT,zT,zT,zT,zT,zT,zT,zT,zT,zF,zF,zF,zF,zF,zF,zF,zT,zT,zF,zF,zF]) rfl (by rfl) (by kernel_rfl) (by rfl) (fun K hK => ?_)
           go_simp
           go_at_call 40
           refine (Ceil_all v185 m.S.s m.W.s m.S.A m.W.A m.S.n m.S.c m.W.n m.W.c m.S.xs m.W.xs m.S.e m.W.e (MRows.on Rm (later j2 (later j8 (later j10 (later j36 (later j159 (later j183 j186))))))).S (MRows.on Rm (later j2 (later j8 (later j10 (later j36 (later j159 (later j183 j186))))))).W 0 r2 q2 H2.out).mono ?_
           rintro e' v187 ⟨G2, m2, o2, rfl, _, j188, I2⟩
           have zv187 : v185.heap.size ≤ v187.heap.size := Below.size j188
           refine hK _ _ ⟨fun _ _ => fun p hp => Below.block (later j10 (later j36 (later j159 (later j183 (later j186 j188))))) p hp, ?_⟩
           clear hK K
           try simp only [Act.put, zp]
           refine zC 13 #[zT,zT,zT,zT,zT,zT,zT,zT,zT,zT,zT,zT,zT,zT,zF,zF,zF,zF,zF,zF,zT,zT,zF,zF,zF] ?_ rfl ?hy151 ?rest151
           case hy151 => intro w; go_simp; (try with_reducible rfl)
           try simp only [Act.put, zp]
           refine zC 14 #[zT,zT,zT,zT,zT,zT,zT,zT,zT,zT,zT,zT,zT,zT,zT,zF,zF,zF,zF,zF,zT,zT,zF,zF,zF] ?_ rfl ?hy152 ?rest152
           case hy152 => intro w; go_simp; (try with_reducible rfl)
           try simp only [Act.put, zp]
           refine stepC (i := 15) (L := #[zT,zT,zT,zT,zT,zT,zT,zT,zT,zT,zT,zT,zT,zT,zT,zT,zF,zF,zF,zF,zT,zT,zF,zF,zF]) rfl (by rfl) (by kernel_rfl) (by rfl) (fun K hK => ?_)
           go_simp
           obtain ⟨X, Y, c, hX⟩ := bothR ⟨r1.neg, G1, m1, o1, r1.e, canon 4294967296 r1.m⟩ ⟨r2.neg, G2, m2, o2, r2.e, canon 4294967296 r2.m⟩ q1 q2
           go_at_call 60
           refine (both1_any v187 ⟨r1.neg, G1, m1, o1, r1.e, canon 4294967296 r1.m⟩ ⟨r2.neg, G2, m2, o2, r2.e, canon 4294967296 r2.m⟩ q1 q2 (v182.heap.size + 1) (v182.heap.size) (Nat.lt_of_lt_of_le sE (Below.size j188)) (Nat.lt_of_lt_of_le sD (Below.size j188)) (box_later E_ j188 sE) (box_later D_ j188 sD) X Y c hX).mono ?_
           rintro e' v189 ⟨rfl, j190⟩
           have HX := Lib.hid hX
           clear hX
           have zv189 : v187.heap.size ≤ v189.heap.size := Below.size j190
           refine hK _ _ ⟨fun _ _ => fun p hp => Below.block (later j10 (later j36 (later j159 (later j183 (later j186 (later j188 j190)))))) p hp, ?_⟩
           clear hK K
           try simp only [Act.put, zp]
           refine zC 16 #[zT,zT,zT,zT,zT,zT,zT,zT,zT,zT,zT,zT,zT,zT,zT,zT,zT,zF,zF,zF,zT,zT,zF,zF,zF] ?_ rfl ?hy154 ?rest154
           case hy154 => intro w; go_simp; (try with_reducible rfl)
           try simp only [Act.put, zp]
           refine zC 17 #[zT,zT,zT,zT,zT,zT,zT,zT,zT,zT,zT,zT,zT,zT,zT,zT,zT,zT,zF,zF,zT,zT,zF,zF,zF] ?_ rfl ?hy155 ?rest155
           case hy155 => intro w; go_simp; (try with_reducible rfl)
           try simp only [Act.put, zp]
           refine zC 18 #[zT,zT,zT,zT,zT,zT,zT,zT,zT,zT,zT,zT,zT,zT,zT,zT,zT,zT,zT,zF,zT,zT,zF,zF,zF] ?_ rfl ?hy156 ?rest156
           case hy156 => intro w; go_simp; (try with_reducible rfl)
           try simp only [Act.put, zp]
           refine zC 19 #[zT,zT,zT,zT,zT,zT,zT,zT,zT,zT,zT,zT,zT,zT,zT,zT,zT,zT,zT,zT,zT,zT,zF,zF,zF] ?_ rfl ?hy157 ?rest157
           case hy157 => intro w; go_simp; (try with_reducible rfl)
           try simp only [Act.put, zp]
           have O1 : OffD v189 v7.heap.size (v158.heap.size) (v35.heap.size) ⟨r1.neg, G1, m1, o1, r1.e, canon 4294967296 r1.m⟩ := OffD.of (d := ⟨r1.neg, G1, m1, o1, r1.e, canon 4294967296 r1.m⟩) (Ints.below I1 (later j159 (later j183 (later j186 (later j188 j190)))) (Nat.le_refl _)) (by omega) (by omega) (by omega) (by omega)
           have O2 : OffD v189 v7.heap.size (v158.heap.size) (v35.heap.size) ⟨r2.neg, G2, m2, o2, r2.e, canon 4294967296 r2.m⟩ := OffD.of (d := ⟨r2.neg, G2, m2, o2, r2.e, canon 4294967296 r2.m⟩) (Ints.below I2 j190 (Nat.le_refl _)) (by omega) (by omega) (by omega) (by omega)
           obtain ⟨OX, OY⟩ := HX.out.all (P := OffD v189 v7.heap.size (v158.heap.size) (v35.heap.size)) O1 O2 (OffD.zero ..)
           exact leafC ⟨.tuple #[.agg #[.bool r1.neg, .slice G1 m1 o1, .int .i64 r1.e], .int .i64 q1], .agg #[.bool r1.neg, .slice G1 m1 o1, .int .i64 r1.e], .int .i64 q1, .func (.func 60) #[] #[.pointer (some ⟨v182.heap.size + 1, 0, none⟩), .pointer (some ⟨v182.heap.size, 0, none⟩)], .tuple #[.agg #[.bool r2.neg, .slice G2 m2 o2, .int .i64 r2.e], .int .i64 q2], .agg #[.bool r2.neg, .slice G2 m2 o2, .int .i64 r2.e], .int .i64 q2, .tuple #[.agg #[.bool X.s, .slice X.A X.n X.c, .int .i64 X.e], .agg #[.bool Y.s, .slice Y.A Y.n Y.c, .int .i64 Y.e], .int .i64 c], .tuple #[.agg #[.bool X.s, .slice X.A X.n X.c, .int .i64 X.e], .agg #[.bool Y.s, .slice Y.A Y.n Y.c, .int .i64 Y.e], .int .i64 c], v158.heap.size, v35.heap.size, X, Y, c, rfl, by omega, by omega, by omega, (box_later B6 (later j186 (later j188 j190)) s184), (box_later B7 (later j183 (later j186 (later j188 j190))) s160), (later j10 (later j36 (later j159 (later j183 (later j186 (later j188 j190)))))), Lib.hid (bothN HX.out ⟨rfl, rfl, rfl⟩ ⟨rfl, rfl, rfl⟩), OX, OY⟩
        case o1_20 =>
         go_simp
         obtain ⟨v191, hc_, B6, j192, s193⟩ := alloc_d v9
         rw [hc_]
         clear hc_
         have zv191 : v9.heap.size ≤ v191.heap.size := Below.size j192
         refine hK _ _ ⟨fun _ _ => fun p hp => Below.block (later j10 j192) p hp, ?_⟩
         clear hK K
         try simp only [Act.put, zp]
         refine stepC2 (i := 4) (j := 21) (Li := #[zT,zT,zT,zT,zT,zF,zF,zF,zT,zT,zT,zT,zF,zF,zF,zF,zF,zF,zF,zF,zT,zF,zF,zF,zF]) (Lj := #[zT,zT,zT,zT,zF,zF,zF,zF,zT,zT,zT,zT,zF,zF,zF,zF,zF,zF,zF,zF,zT,zT,zF,zF,zF]) rfl rfl (by rfl) (by rfl) (by kernel_rfl) (by rfl) (by rfl) (fun K hK => ?o18_4) (fun K hK => ?o18_21)
         case o18_4 =>
          go_simp
          go_at_call 39
          refine (Floor_all v191 m.S.s m.W.s m.S.A m.W.A m.S.n m.S.c m.W.n m.W.c m.S.xs m.W.xs m.S.e m.W.e (MRows.on Rm (later j2 (later j8 (later j10 j192)))).S (MRows.on Rm (later j2 (later j8 (later j10 j192)))).W 0 r1 q1 H1.out).mono ?_
          rintro e' v194 ⟨G1, m1, o1, rfl, _, j195, I1⟩
          have zv194 : v191.heap.size ≤ v194.heap.size := Below.size j195
          refine hK _ _ ⟨fun _ _ => fun p hp => Below.block (later j10 (later j192 j195)) p hp, ?_⟩
          clear hK K
          try simp only [Act.put, zp]
          refine zC 5 #[zT,zT,zT,zT,zT,zT,zF,zF,zT,zT,zT,zT,zF,zF,zF,zF,zF,zF,zF,zF,zT,zF,zF,zF,zF] ?_ rfl ?hy158 ?rest158
          case hy158 => intro w; go_simp; (try with_reducible rfl)
          try simp only [Act.put, zp]
          refine zC 6 #[zT,zT,zT,zT,zT,zT,zT,zF,zT,zT,zT,zT,zF,zF,zF,zF,zF,zF,zF,zF,zT,zF,zF,zF,zF] ?_ rfl ?hy159 ?rest159
          case hy159 => intro w; go_simp; (try with_reducible rfl)
          try simp only [Act.put, zp]
          refine stepC2 (i := 7) (j := 21) (Li := #[zT,zT,zT,zT,zT,zT,zT,zT,zT,zT,zT,zT,zF,zF,zF,zF,zF,zF,zF,zF,zT,zF,zF,zF,zF]) (Lj := #[zT,zT,zT,zT,zT,zT,zT,zF,zT,zT,zT,zT,zF,zF,zF,zF,zF,zF,zF,zF,zT,zT,zF,zF,zF]) rfl rfl (by rfl) (by rfl) (by kernel_rfl) (by rfl) (by rfl) (fun K hK => ?o19_7) (fun K hK => ?o19_21)
          case o19_7 =>
           go_simp
           go_at_call 38
           refine (both_any v194 r1.neg G1 m1 o1 r1.e q1).mono ?_
           rintro e' v196 ⟨rfl, j197, D_, E_, lD_⟩
           have sD : v194.heap.size < v196.heap.size := by omega
           have sE : v194.heap.size + 1 < v196.heap.size := by omega
           have zv196 : v194.heap.size ≤ v196.heap.size := Below.size j197
           refine hK _ _ ⟨fun _ _ => fun p hp => Below.block (later j10 (later j192 (later j195 j197))) p hp, ?_⟩
           clear hK K
           try simp only [Act.put, zp]
           refine stepC2 (i := 12) (j := 21) (Li := #[zT,zT,zT,zT,zT,zT,zT,zT,zT,zT,zT,zT,zT,zF,zF,zF,zF,zF,zF,zF,zT,zF,zF,zF,zF]) (Lj := #[zT,zT,zT,zT,zT,zT,zT,zT,zT,zT,zT,zT,zF,zF,zF,zF,zF,zF,zF,zF,zT,zT,zF,zF,zF]) rfl rfl (by rfl) (by rfl) (by kernel_rfl) (by rfl) (by rfl) (fun K hK => ?o20_12) (fun K hK => ?o20_21)
           case o20_12 =>
            go_simp
            go_at_call 40
            refine (Ceil_all v196 m.S.s m.W.s m.S.A m.W.A m.S.n m.S.c m.W.n m.W.c m.S.xs m.W.xs m.S.e m.W.e (MRows.on Rm (later j2 (later j8 (later j10 (later j192 (later j195 j197)))))).S (MRows.on Rm (later j2 (later j8 (later j10 (later j192 (later j195 j197)))))).W 0 r2 q2 H2.out).mono ?_
            rintro e' v198 ⟨G2, m2, o2, rfl, _, j199, I2⟩
            have zv198 : v196.heap.size ≤ v198.heap.size := Below.size j199
            refine hK _ _ ⟨fun _ _ => fun p hp => Below.block (later j10 (later j192 (later j195 (later j197 j199)))) p hp, ?_⟩
            clear hK K
            try simp only [Act.put, zp]
            refine zC 13 #[zT,zT,zT,zT,zT,zT,zT,zT,zT,zT,zT,zT,zT,zT,zF,zF,zF,zF,zF,zF,zT,zF,zF,zF,zF] ?_ rfl ?hy160 ?rest160
            case hy160 => intro w; go_simp; (try with_reducible rfl)
            try simp only [Act.put, zp]
            refine zC 14 #[zT,zT,zT,zT,zT,zT,zT,zT,zT,zT,zT,zT,zT,zT,zT,zF,zF,zF,zF,zF,zT,zF,zF,zF,zF] ?_ rfl ?hy161 ?rest161
            case hy161 => intro w; go_simp; (try with_reducible rfl)
            try simp only [Act.put, zp]
            refine stepC2 (i := 15) (j := 21) (Li := #[zT,zT,zT,zT,zT,zT,zT,zT,zT,zT,zT,zT,zT,zT,zT,zT,zF,zF,zF,zF,zT,zF,zF,zF,zF]) (Lj := #[zT,zT,zT,zT,zT,zT,zT,zT,zT,zT,zT,zT,zT,zT,zT,zF,zF,zF,zF,zF,zT,zT,zF,zF,zF]) rfl rfl (by rfl) (by rfl) (by kernel_rfl) (by rfl) (by rfl) (fun K hK => ?o21_15) (fun K hK => ?o21_21)
            case o21_15 =>
             go_simp
             obtain ⟨X, Y, c, hX⟩ := bothR ⟨r1.neg, G1, m1, o1, r1.e, canon 4294967296 r1.m⟩ ⟨r2.neg, G2, m2, o2, r2.e, canon 4294967296 r2.m⟩ q1 q2
             go_at_call 60
             refine (both1_any v198 ⟨r1.neg, G1, m1, o1, r1.e, canon 4294967296 r1.m⟩ ⟨r2.neg, G2, m2, o2, r2.e, canon 4294967296 r2.m⟩ q1 q2 (v194.heap.size + 1) (v194.heap.size) (Nat.lt_of_lt_of_le sE (Below.size j199)) (Nat.lt_of_lt_of_le sD (Below.size j199)) (box_later E_ j199 sE) (box_later D_ j199 sD) X Y c hX).mono ?_
             rintro e' v200 ⟨rfl, j201⟩
             have HX := Lib.hid hX
             clear hX
             have zv200 : v198.heap.size ≤ v200.heap.size := Below.size j201
             refine hK _ _ ⟨fun _ _ => fun p hp => Below.block (later j10 (later j192 (later j195 (later j197 (later j199 j201))))) p hp, ?_⟩
             clear hK K
             try simp only [Act.put, zp]
             refine zC 16 #[zT,zT,zT,zT,zT,zT,zT,zT,zT,zT,zT,zT,zT,zT,zT,zT,zT,zF,zF,zF,zT,zF,zF,zF,zF] ?_ rfl ?hy162 ?rest162
             case hy162 => intro w; go_simp; (try with_reducible rfl)
             try simp only [Act.put, zp]
             refine zC 17 #[zT,zT,zT,zT,zT,zT,zT,zT,zT,zT,zT,zT,zT,zT,zT,zT,zT,zT,zF,zF,zT,zF,zF,zF,zF] ?_ rfl ?hy163 ?rest163
             case hy163 => intro w; go_simp; (try with_reducible rfl)
             try simp only [Act.put, zp]
             refine zC 18 #[zT,zT,zT,zT,zT,zT,zT,zT,zT,zT,zT,zT,zT,zT,zT,zT,zT,zT,zT,zF,zT,zF,zF,zF,zF] ?_ rfl ?hy164 ?rest164
             case hy164 => intro w; go_simp; (try with_reducible rfl)
             try simp only [Act.put, zp]
             refine zC 19 #[zT,zT,zT,zT,zT,zT,zT,zT,zT,zT,zT,zT,zT,zT,zT,zT,zT,zT,zT,zT,zT,zF,zF,zF,zF] ?_ rfl ?hy165 ?rest165
             case hy165 => intro w; go_simp; (try with_reducible rfl)
             try simp only [Act.put, zp]
             refine stepC (i := 21) (L := #[zT,zT,zT,zT,zT,zT,zT,zT,zT,zT,zT,zT,zT,zT,zT,zT,zT,zT,zT,zT,zT,zT,zF,zF,zF]) rfl (by rfl) (by kernel_rfl) (by rfl) (fun K hK => ?_)
             go_simp
             obtain ⟨v202, hc_, B7, j203, s204⟩ := alloc_d v200
             rw [hc_]
             clear hc_
             have zv202 : v200.heap.size ≤ v202.heap.size := Below.size j203
             refine hK _ _ ⟨fun _ _ => fun p hp => Below.block (later j10 (later j192 (later j195 (later j197 (later j199 (later j201 j203)))))) p hp, ?_⟩
             clear hK K
             try simp only [Act.put, zp]
             have O1 : OffD v202 v7.heap.size (v9.heap.size) (v200.heap.size) ⟨r1.neg, G1, m1, o1, r1.e, canon 4294967296 r1.m⟩ := OffD.of (d := ⟨r1.neg, G1, m1, o1, r1.e, canon 4294967296 r1.m⟩) (Ints.below I1 (later j197 (later j199 (later j201 j203))) (Nat.le_refl _)) (by omega) (by omega) (by omega) (by omega)
             have O2 : OffD v202 v7.heap.size (v9.heap.size) (v200.heap.size) ⟨r2.neg, G2, m2, o2, r2.e, canon 4294967296 r2.m⟩ := OffD.of (d := ⟨r2.neg, G2, m2, o2, r2.e, canon 4294967296 r2.m⟩) (Ints.below I2 (later j201 j203) (Nat.le_refl _)) (by omega) (by omega) (by omega) (by omega)
             obtain ⟨OX, OY⟩ := HX.out.all (P := OffD v202 v7.heap.size (v9.heap.size) (v200.heap.size)) O1 O2 (OffD.zero ..)
             exact leafC ⟨.tuple #[.agg #[.bool r1.neg, .slice G1 m1 o1, .int .i64 r1.e], .int .i64 q1], .agg #[.bool r1.neg, .slice G1 m1 o1, .int .i64 r1.e], .int .i64 q1, .func (.func 60) #[] #[.pointer (some ⟨v194.heap.size + 1, 0, none⟩), .pointer (some ⟨v194.heap.size, 0, none⟩)], .tuple #[.agg #[.bool r2.neg, .slice G2 m2 o2, .int .i64 r2.e], .int .i64 q2], .agg #[.bool r2.neg, .slice G2 m2 o2, .int .i64 r2.e], .int .i64 q2, .tuple #[.agg #[.bool X.s, .slice X.A X.n X.c, .int .i64 X.e], .agg #[.bool Y.s, .slice Y.A Y.n Y.c, .int .i64 Y.e], .int .i64 c], .tuple #[.agg #[.bool X.s, .slice X.A X.n X.c, .int .i64 X.e], .agg #[.bool Y.s, .slice Y.A Y.n Y.c, .int .i64 Y.e], .int .i64 c], v9.heap.size, v200.heap.size, X, Y, c, rfl, by omega, by omega, by omega, (box_later B6 (later j195 (later j197 (later j199 (later j201 j203)))) s193), B7, (later j10 (later j192 (later j195 (later j197 (later j199 (later j201 j203)))))), Lib.hid (bothN HX.out ⟨rfl, rfl, rfl⟩ ⟨rfl, rfl, rfl⟩), OX, OY⟩
            case o21_21 =>
             go_simp
             obtain ⟨v205, hc_, B7, j206, s207⟩ := alloc_d v198
             rw [hc_]
             clear hc_
             have zv205 : v198.heap.size ≤ v205.heap.size := Below.size j206
             refine hK _ _ ⟨fun _ _ => fun p hp => Below.block (later j10 (later j192 (later j195 (later j197 (later j199 j206))))) p hp, ?_⟩
             clear hK K
             try simp only [Act.put, zp]
             refine stepC (i := 15) (L := #[zT,zT,zT,zT,zT,zT,zT,zT,zT,zT,zT,zT,zT,zT,zT,zT,zF,zF,zF,zF,zT,zT,zF,zF,zF]) rfl (by rfl) (by kernel_rfl) (by rfl) (fun K hK => ?_)
             go_simp
             obtain ⟨X, Y, c, hX⟩ := bothR ⟨r1.neg, G1, m1, o1, r1.e, canon 4294967296 r1.m⟩ ⟨r2.neg, G2, m2, o2, r2.e, canon 4294967296 r2.m⟩ q1 q2
             go_at_call 60
             refine (both1_any v205 ⟨r1.neg, G1, m1, o1, r1.e, canon 4294967296 r1.m⟩ ⟨r2.neg, G2, m2, o2, r2.e, canon 4294967296 r2.m⟩ q1 q2 (v194.heap.size + 1) (v194.heap.size) (Nat.lt_of_lt_of_le sE (Below.size (later j199 j206))) (Nat.lt_of_lt_of_le sD (Below.size (later j199 j206))) (box_later E_ (later j199 j206) sE) (box_later D_ (later j199 j206) sD) X Y c hX).mono ?_
             rintro e' v208 ⟨rfl, j209⟩
             have HX := Lib.hid hX
             clear hX
             have zv208 : v205.heap.size ≤ v208.heap.size := Below.size j209
             refine hK _ _ ⟨fun _ _ => fun p hp => Below.block (later j10 (later j192 (later j195 (later j197 (later j199 (later j206 j209)))))) p hp, ?_⟩
             clear hK K
             try simp only [Act.put, zp]
             refine zC 16 #[zT,zT,zT,zT,zT,zT,zT,zT,zT,zT,zT,zT,zT,zT,zT,zT,zT,zF,zF,zF,zT,zT,zF,zF,zF] ?_ rfl ?hy168 ?rest168
             case hy168 => intro w; go_simp; (try with_reducible rfl)
             try simp only [Act.put, zp]
             refine zC 17 #[zT,zT,zT,zT,zT,zT,zT,zT,zT,zT,zT,zT,zT,zT,zT,zT,zT,zT,zF,zF,zT,zT,zF,zF,zF] ?_ rfl ?hy169 ?rest169
             case hy169 => intro w; go_simp; (try with_reducible rfl)
             try simp only [Act.put, zp]
             refine zC 18 #[zT,zT,zT,zT,zT,zT,zT,zT,zT,zT,zT,zT,zT,zT,zT,zT,zT,zT,zT,zF,zT,zT,zF,zF,zF] ?_ rfl ?hy170 ?rest170
             case hy170 => intro w; go_simp; (try with_reducible rfl)
             try simp only [Act.put, zp]
             refine zC 19 #[zT,zT,zT,zT,zT,zT,zT,zT,zT,zT,zT,zT,zT,zT,zT,zT,zT,zT,zT,zT,zT,zT,zF,zF,zF] ?_ rfl ?hy171 ?rest171
             case hy171 => intro w; go_simp; (try with_reducible rfl)
             try simp only [Act.put, zp]
             have O1 : OffD v208 v7.heap.size (v9.heap.size) (v198.heap.size) ⟨r1.neg, G1, m1, o1, r1.e, canon 4294967296 r1.m⟩ := OffD.of (d := ⟨r1.neg, G1, m1, o1, r1.e, canon 4294967296 r1.m⟩) (Ints.below I1 (later j197 (later j199 (later j206 j209))) (Nat.le_refl _)) (by omega) (by omega) (by omega) (by omega)
             have O2 : OffD v208 v7.heap.size (v9.heap.size) (v198.heap.size) ⟨r2.neg, G2, m2, o2, r2.e, canon 4294967296 r2.m⟩ := OffD.of (d := ⟨r2.neg, G2, m2, o2, r2.e, canon 4294967296 r2.m⟩) (Ints.below I2 (later j206 j209) (Nat.le_refl _)) (by omega) (by omega) (by omega) (by omega)
             obtain ⟨OX, OY⟩ := HX.out.all (P := OffD v208 v7.heap.size (v9.heap.size) (v198.heap.size)) O1 O2 (OffD.zero ..)
             exact leafC ⟨.tuple #[.agg #[.bool r1.neg, .slice G1 m1 o1, .int .i64 r1.e], .int .i64 q1], .agg #[.bool r1.neg, .slice G1 m1 o1, .int .i64 r1.e], .int .i64 q1, .func (.func 60) #[] #[.pointer (some ⟨v194.heap.size + 1, 0, none⟩), .pointer (some ⟨v194.heap.size, 0, none⟩)], .tuple #[.agg #[.bool r2.neg, .slice G2 m2 o2, .int .i64 r2.e], .int .i64 q2], .agg #[.bool r2.neg, .slice G2 m2 o2, .int .i64 r2.e], .int .i64 q2, .tuple #[.agg #[.bool X.s, .slice X.A X.n X.c, .int .i64 X.e], .agg #[.bool Y.s, .slice Y.A Y.n Y.c, .int .i64 Y.e], .int .i64 c], .tuple #[.agg #[.bool X.s, .slice X.A X.n X.c, .int .i64 X.e], .agg #[.bool Y.s, .slice Y.A Y.n Y.c, .int .i64 Y.e], .int .i64 c], v9.heap.size, v198.heap.size, X, Y, c, rfl, by omega, by omega, by omega, (box_later B6 (later j195 (later j197 (later j199 (later j206 j209)))) s193), (box_later B7 j209 s207), (later j10 (later j192 (later j195 (later j197 (later j199 (later j206 j209)))))), Lib.hid (bothN HX.out ⟨rfl, rfl, rfl⟩ ⟨rfl, rfl, rfl⟩), OX, OY⟩
           case o20_21 =>
            go_simp
            obtain ⟨v210, hc_, B7, j211, s212⟩ := alloc_d v196
            rw [hc_]
            clear hc_
            have zv210 : v196.heap.size ≤ v210.heap.size := Below.size j211
            refine hK _ _ ⟨fun _ _ => fun p hp => Below.block (later j10 (later j192 (later j195 (later j197 j211)))) p hp, ?_⟩
            clear hK K
            try simp only [Act.put, zp]
            refine stepC (i := 12) (L := #[zT,zT,zT,zT,zT,zT,zT,zT,zT,zT,zT,zT,zT,zF,zF,zF,zF,zF,zF,zF,zT,zT,zF,zF,zF]) rfl (by rfl) (by kernel_rfl) (by rfl) (fun K hK => ?_)
            go_simp
            go_at_call 40
            refine (Ceil_all v210 m.S.s m.W.s m.S.A m.W.A m.S.n m.S.c m.W.n m.W.c m.S.xs m.W.xs m.S.e m.W.e (MRows.on Rm (later j2 (later j8 (later j10 (later j192 (later j195 (later j197 j211))))))).S (MRows.on Rm (later j2 (later j8 (later j10 (later j192 (later j195 (later j197 j211))))))).W 0 r2 q2 H2.out).mono ?_
            rintro e' v213 ⟨G2, m2, o2, rfl, _, j214, I2⟩
            have zv213 : v210.heap.size ≤ v213.heap.size := Below.size j214
            refine hK _ _ ⟨fun _ _ => fun p hp => Below.block (later j10 (later j192 (later j195 (later j197 (later j211 j214))))) p hp, ?_⟩
            clear hK K
            try simp only [Act.put, zp]
            refine zC 13 #[zT,zT,zT,zT,zT,zT,zT,zT,zT,zT,zT,zT,zT,zT,zF,zF,zF,zF,zF,zF,zT,zT,zF,zF,zF] ?_ rfl ?hy173 ?rest173
            case hy173 => intro w; go_simp; (try with_reducible rfl)
            try simp only [Act.put, zp]
            refine zC 14 #[zT,zT,zT,zT,zT,zT,zT,zT,zT,zT,zT,zT,zT,zT,zT,zF,zF,zF,zF,zF,zT,zT,zF,zF,zF] ?_ rfl ?hy174 ?rest174
            case hy174 => intro w; go_simp; (try with_reducible rfl)
            try simp only [Act.put, zp]
            refine stepC (i := 15) (L := #[zT,zT,zT,zT,zT,zT,zT,zT,zT,zT,zT,zT,zT,zT,zT,zT,zF,zF,zF,zF,zT,zT,zF,zF,zF]) rfl (by rfl) (by kernel_rfl) (by rfl) (fun K hK => ?_)
            go_simp
            obtain ⟨X, Y, c, hX⟩ := bothR ⟨r1.neg, G1, m1, o1, r1.e, canon 4294967296 r1.m⟩ ⟨r2.neg, G2, m2, o2, r2.e, canon 4294967296 r2.m⟩ q1 q2
            go_at_call 60
            refine (both1_any v213 ⟨r1.neg, G1, m1, o1, r1.e, canon 4294967296 r1.m⟩ ⟨r2.neg, G2, m2, o2, r2.e, canon 4294967296 r2.m⟩ q1 q2 (v194.heap.size + 1) (v194.heap.size) (Nat.lt_of_lt_of_le sE (Below.size (later j211 j214))) (Nat.lt_of_lt_of_le sD (Below.size (later j211 j214))) (box_later E_ (later j211 j214) sE) (box_later D_ (later j211 j214) sD) X Y c hX).mono ?_
            rintro e' v215 ⟨rfl, j216⟩
            have HX := Lib.hid hX
            clear hX
            have zv215 : v213.heap.size ≤ v215.heap.size := Below.size j216
            refine hK _ _ ⟨fun _ _ => fun p hp => Below.block (later j10 (later j192 (later j195 (later j197 (later j211 (later j214 j216)))))) p hp, ?_⟩
            clear hK K
            try simp only [Act.put, zp]
            refine zC 16 #[zT,zT,zT,zT,zT,zT,zT,zT,zT,zT,zT,zT,zT,zT,zT,zT,zT,zF,zF,zF,zT,zT,zF,zF,zF] ?_ rfl ?hy176 ?rest176
            case hy176 => intro w; go_simp; (try with_reducible rfl)
            try simp only [Act.put, zp]
            refine zC 17 #[zT,zT,zT,zT,zT,zT,zT,zT,zT,zT,zT,zT,zT,zT,zT,zT,zT,zT,zF,zF,zT,zT,zF,zF,zF] ?_ rfl ?hy177 ?rest177
            case hy177 => intro w; go_simp; (try with_reducible rfl)
            try simp only [Act.put, zp]
            refine zC 18 #[zT,zT,zT,zT,zT,zT,zT,zT,zT,zT,zT,zT,zT,zT,zT,zT,zT,zT,zT,zF,zT,zT,zF,zF,zF] ?_ rfl ?hy178 ?rest178
            case hy178 => intro w; go_simp; (try with_reducible rfl)
            try simp only [Act.put, zp]
            refine zC 19 #[zT,zT,zT,zT,zT,zT,zT,zT,zT,zT,zT,zT,zT,zT,zT,zT,zT,zT,zT,zT,zT,zT,zF,zF,zF] ?_ rfl ?hy179 ?rest179
            case hy179 => intro w; go_simp; (try with_reducible rfl)
            try simp only [Act.put, zp]
            have O1 : OffD v215 v7.heap.size (v9.heap.size) (v196.heap.size) ⟨r1.neg, G1, m1, o1, r1.e, canon 4294967296 r1.m⟩ := OffD.of (d := ⟨r1.neg, G1, m1, o1, r1.e, canon 4294967296 r1.m⟩) (Ints.below I1 (later j197 (later j211 (later j214 j216))) (Nat.le_refl _)) (by omega) (by omega) (by omega) (by omega)
            have O2 : OffD v215 v7.heap.size (v9.heap.size) (v196.heap.size) ⟨r2.neg, G2, m2, o2, r2.e, canon 4294967296 r2.m⟩ := OffD.of (d := ⟨r2.neg, G2, m2, o2, r2.e, canon 4294967296 r2.m⟩) (Ints.below I2 j216 (Nat.le_refl _)) (by omega) (by omega) (by omega) (by omega)
            obtain ⟨OX, OY⟩ := HX.out.all (P := OffD v215 v7.heap.size (v9.heap.size) (v196.heap.size)) O1 O2 (OffD.zero ..)
            exact leafC ⟨.tuple #[.agg #[.bool r1.neg, .slice G1 m1 o1, .int .i64 r1.e], .int .i64 q1], .agg #[.bool r1.neg, .slice G1 m1 o1, .int .i64 r1.e], .int .i64 q1, .func (.func 60) #[] #[.pointer (some ⟨v194.heap.size + 1, 0, none⟩), .pointer (some ⟨v194.heap.size, 0, none⟩)], .tuple #[.agg #[.bool r2.neg, .slice G2 m2 o2, .int .i64 r2.e], .int .i64 q2], .agg #[.bool r2.neg, .slice G2 m2 o2, .int .i64 r2.e], .int .i64 q2, .tuple #[.agg #[.bool X.s, .slice X.A X.n X.c, .int .i64 X.e], .agg #[.bool Y.s, .slice Y.A Y.n Y.c, .int .i64 Y.e], .int .i64 c], .tuple #[.agg #[.bool X.s, .slice X.A X.n X.c, .int .i64 X.e], .agg #[.bool Y.s, .slice Y.A Y.n Y.c, .int .i64 Y.e], .int .i64 c], v9.heap.size, v196.heap.size, X, Y, c, rfl, by omega, by omega, by omega, (box_later B6 (later j195 (later j197 (later j211 (later j214 j216)))) s193), (box_later B7 (later j214 j216) s212), (later j10 (later j192 (later j195 (later j197 (later j211 (later j214 j216)))))), Lib.hid (bothN HX.out ⟨rfl, rfl, rfl⟩ ⟨rfl, rfl, rfl⟩), OX, OY⟩
          case o19_21 =>
           go_simp
           obtain ⟨v217, hc_, B7, j218, s219⟩ := alloc_d v194
           rw [hc_]
           clear hc_
           have zv217 : v194.heap.size ≤ v217.heap.size := Below.size j218
           refine hK _ _ ⟨fun _ _ => fun p hp => Below.block (later j10 (later j192 (later j195 j218))) p hp, ?_⟩
           clear hK K
           try simp only [Act.put, zp]
           refine stepC (i := 7) (L := #[zT,zT,zT,zT,zT,zT,zT,zT,zT,zT,zT,zT,zF,zF,zF,zF,zF,zF,zF,zF,zT,zT,zF,zF,zF]) rfl (by rfl) (by kernel_rfl) (by rfl) (fun K hK => ?_)
           go_simp
           go_at_call 38
           refine (both_any v217 r1.neg G1 m1 o1 r1.e q1).mono ?_
           rintro e' v220 ⟨rfl, j221, D_, E_, lD_⟩
           have sD : v217.heap.size < v220.heap.size := by omega
           have sE : v217.heap.size + 1 < v220.heap.size := by omega
           have zv220 : v217.heap.size ≤ v220.heap.size := Below.size j221
           refine hK _ _ ⟨fun _ _ => fun p hp => Below.block (later j10 (later j192 (later j195 (later j218 j221)))) p hp, ?_⟩
           clear hK K
           try simp only [Act.put, zp]
           refine stepC (i := 12) (L := #[zT,zT,zT,zT,zT,zT,zT,zT,zT,zT,zT,zT,zT,zF,zF,zF,zF,zF,zF,zF,zT,zT,zF,zF,zF]) rfl (by rfl) (by kernel_rfl) (by rfl) (fun K hK => ?_)
           go_simp
           go_at_call 40
           refine (Ceil_all v220 m.S.s m.W.s m.S.A m.W.A m.S.n m.S.c m.W.n m.W.c m.S.xs m.W.xs m.S.e m.W.e (MRows.on Rm (later j2 (later j8 (later j10 (later j192 (later j195 (later j218 j221))))))).S (MRows.on Rm (later j2 (later j8 (later j10 (later j192 (later j195 (later j218 j221))))))).W 0 r2 q2 H2.out).mono ?_
           rintro e' v222 ⟨G2, m2, o2, rfl, _, j223, I2⟩
           have zv222 : v220.heap.size ≤ v222.heap.size := Below.size j223
           refine hK _ _ ⟨fun _ _ => fun p hp => Below.block (later j10 (later j192 (later j195 (later j218 (later j221 j223))))) p hp, ?_⟩
           clear hK K
           try simp only [Act.put, zp]
           refine zC 13 #[zT,zT,zT,zT,zT,zT,zT,zT,zT,zT,zT,zT,zT,zT,zF,zF,zF,zF,zF,zF,zT,zT,zF,zF,zF] ?_ rfl ?hy182 ?rest182
           case hy182 => intro w; go_simp; (try with_reducible rfl)
           try simp only [Act.put, zp]
           refine zC 14 #[zT,zT,zT,zT,zT,zT,zT,zT,zT,zT,zT,zT,zT,zT,zT,zF,zF,zF,zF,zF,zT,zT,zF,zF,zF] ?_ rfl ?hy183 ?rest183
           case hy183 => intro w; go_simp; (try with_reducible rfl)
           try simp only [Act.put, zp]
           refine stepC (i := 15) (L := #[zT,zT,zT,zT,zT,zT,zT,zT,zT,zT,zT,zT,zT,zT,zT,zT,zF,zF,zF,zF,zT,zT,zF,zF,zF]) rfl (by rfl) (by kernel_rfl) (by rfl) (fun K hK => ?_)
           go_simp
           obtain ⟨X, Y, c, hX⟩ := bothR ⟨r1.neg, G1, m1, o1, r1.e, canon 4294967296 r1.m⟩ ⟨r2.neg, G2, m2, o2, r2.e, canon 4294967296 r2.m⟩ q1 q2
           go_at_call 60
           refine (both1_any v222 ⟨r1.neg, G1, m1, o1, r1.e, canon 4294967296 r1.m⟩ ⟨r2.neg, G2, m2, o2, r2.e, canon 4294967296 r2.m⟩ q1 q2 (v217.heap.size + 1) (v217.heap.size) (Nat.lt_of_lt_of_le sE (Below.size j223)) (Nat.lt_of_lt_of_le sD (Below.size j223)) (box_later E_ j223 sE) (box_later D_ j223 sD) X Y c hX).mono ?_
           rintro e' v224 ⟨rfl, j225⟩
           have HX := Lib.hid hX
           clear hX
           have zv224 : v222.heap.size ≤ v224.heap.size := Below.size j225
           refine hK _ _ ⟨fun _ _ => fun p hp => Below.block (later j10 (later j192 (later j195 (later j218 (later j221 (later j223 j225)))))) p hp, ?_⟩
           clear hK K
           try simp only [Act.put, zp]
           refine zC 16 #[zT,zT,zT,zT,zT,zT,zT,zT,zT,zT,zT,zT,zT,zT,zT,zT,zT,zF,zF,zF,zT,zT,zF,zF,zF] ?_ rfl ?hy185 ?rest185
           case hy185 => intro w; go_simp; (try with_reducible rfl)
           try simp only [Act.put, zp]
           refine zC 17 #[zT,zT,zT,zT,zT,zT,zT,zT,zT,zT,zT,zT,zT,zT,zT,zT,zT,zT,zF,zF,zT,zT,zF,zF,zF] ?_ rfl ?hy186 ?rest186
           case hy186 => intro w; go_simp; (try with_reducible rfl)
           try simp only [Act.put, zp]
           refine zC 18 #[zT,zT,zT,zT,zT,zT,zT,zT,zT,zT,zT,zT,zT,zT,zT,zT,zT,zT,zT,zF,zT,zT,zF,zF,zF] ?_ rfl ?hy187 ?rest187
           case hy187 => intro w; go_simp; (try with_reducible rfl)
           try simp only [Act.put, zp]
           refine zC 19 #[zT,zT,zT,zT,zT,zT,zT,zT,zT,zT,zT,zT,zT,zT,zT,zT,zT,zT,zT,zT,zT,zT,zF,zF,zF] ?_ rfl ?hy188 ?rest188
           case hy188 => intro w; go_simp; (try with_reducible rfl)
           try simp only [Act.put, zp]
           have O1 : OffD v224 v7.heap.size (v9.heap.size) (v194.heap.size) ⟨r1.neg, G1, m1, o1, r1.e, canon 4294967296 r1.m⟩ := OffD.of (d := ⟨r1.neg, G1, m1, o1, r1.e, canon 4294967296 r1.m⟩) (Ints.below I1 (later j218 (later j221 (later j223 j225))) (Nat.le_refl _)) (by omega) (by omega) (by omega) (by omega)
           have O2 : OffD v224 v7.heap.size (v9.heap.size) (v194.heap.size) ⟨r2.neg, G2, m2, o2, r2.e, canon 4294967296 r2.m⟩ := OffD.of (d := ⟨r2.neg, G2, m2, o2, r2.e, canon 4294967296 r2.m⟩) (Ints.below I2 j225 (Nat.le_refl _)) (by omega) (by omega) (by omega) (by omega)
           obtain ⟨OX, OY⟩ := HX.out.all (P := OffD v224 v7.heap.size (v9.heap.size) (v194.heap.size)) O1 O2 (OffD.zero ..)
           exact leafC ⟨.tuple #[.agg #[.bool r1.neg, .slice G1 m1 o1, .int .i64 r1.e], .int .i64 q1], .agg #[.bool r1.neg, .slice G1 m1 o1, .int .i64 r1.e], .int .i64 q1, .func (.func 60) #[] #[.pointer (some ⟨v217.heap.size + 1, 0, none⟩), .pointer (some ⟨v217.heap.size, 0, none⟩)], .tuple #[.agg #[.bool r2.neg, .slice G2 m2 o2, .int .i64 r2.e], .int .i64 q2], .agg #[.bool r2.neg, .slice G2 m2 o2, .int .i64 r2.e], .int .i64 q2, .tuple #[.agg #[.bool X.s, .slice X.A X.n X.c, .int .i64 X.e], .agg #[.bool Y.s, .slice Y.A Y.n Y.c, .int .i64 Y.e], .int .i64 c], .tuple #[.agg #[.bool X.s, .slice X.A X.n X.c, .int .i64 X.e], .agg #[.bool Y.s, .slice Y.A Y.n Y.c, .int .i64 Y.e], .int .i64 c], v9.heap.size, v194.heap.size, X, Y, c, rfl, by omega, by omega, by omega, (box_later B6 (later j195 (later j218 (later j221 (later j223 j225)))) s193), (box_later B7 (later j221 (later j223 j225)) s219), (later j10 (later j192 (later j195 (later j218 (later j221 (later j223 j225)))))), Lib.hid (bothN HX.out ⟨rfl, rfl, rfl⟩ ⟨rfl, rfl, rfl⟩), OX, OY⟩
         case o18_21 =>
          go_simp
          obtain ⟨v226, hc_, B7, j227, s228⟩ := alloc_d v191
          rw [hc_]
          clear hc_
          have zv226 : v191.heap.size ≤ v226.heap.size := Below.size j227
          refine hK _ _ ⟨fun _ _ => fun p hp => Below.block (later j10 (later j192 j227)) p hp, ?_⟩
          clear hK K
          try simp only [Act.put, zp]
          refine stepC (i := 4) (L := #[zT,zT,zT,zT,zT,zF,zF,zF,zT,zT,zT,zT,zF,zF,zF,zF,zF,zF,zF,zF,zT,zT,zF,zF,zF]) rfl (by rfl) (by kernel_rfl) (by rfl) (fun K hK => ?_)
          go_simp
          go_at_call 39
          refine (Floor_all v226 m.S.s m.W.s m.S.A m.W.A m.S.n m.S.c m.W.n m.W.c m.S.xs m.W.xs m.S.e m.W.e (MRows.on Rm (later j2 (later j8 (later j10 (later j192 j227))))).S (MRows.on Rm (later j2 (later j8 (later j10 (later j192 j227))))).W 0 r1 q1 H1.out).mono ?_
          rintro e' v229 ⟨G1, m1, o1, rfl, _, j230, I1⟩
          have zv229 : v226.heap.size ≤ v229.heap.size := Below.size j230
          refine hK _ _ ⟨fun _ _ => fun p hp => Below.block (later j10 (later j192 (later j227 j230))) p hp, ?_⟩
          clear hK K
          try simp only [Act.put, zp]
          refine zC 5 #[zT,zT,zT,zT,zT,zT,zF,zF,zT,zT,zT,zT,zF,zF,zF,zF,zF,zF,zF,zF,zT,zT,zF,zF,zF] ?_ rfl ?hy190 ?rest190
          case hy190 => intro w; go_simp; (try with_reducible rfl)
          try simp only [Act.put, zp]
          refine zC 6 #[zT,zT,zT,zT,zT,zT,zT,zF,zT,zT,zT,zT,zF,zF,zF,zF,zF,zF,zF,zF,zT,zT,zF,zF,zF] ?_ rfl ?hy191 ?rest191
          case hy191 => intro w; go_simp; (try with_reducible rfl)
          try simp only [Act.put, zp]
          refine stepC (i := 7) (L := #[zT,zT,zT,zT,zT,zT,zT,zT,zT,zT,zT,zT,zF,zF,zF,zF,zF,zF,zF,zF,zT,zT,zF,zF,zF]) rfl (by rfl) (by kernel_rfl) (by rfl) (fun K hK => ?_)
          go_simp
          go_at_call 38
          refine (both_any v229 r1.neg G1 m1 o1 r1.e q1).mono ?_
          rintro e' v231 ⟨rfl, j232, D_, E_, lD_⟩
          have sD : v229.heap.size < v231.heap.size := by omega
          have sE : v229.heap.size + 1 < v231.heap.size := by omega
          have zv231 : v229.heap.size ≤ v231.heap.size := Below.size j232
          refine hK _ _ ⟨fun _ _ => fun p hp => Below.block (later j10 (later j192 (later j227 (later j230 j232)))) p hp, ?_⟩
          clear hK K
          try simp only [Act.put, zp]
          refine stepC (i := 12) (L := #[zT,zT,zT,zT,zT,zT,zT,zT,zT,zT,zT,zT,zT,zF,zF,zF,zF,zF,zF,zF,zT,zT,zF,zF,zF]) rfl (by rfl) (by kernel_rfl) (by rfl) (fun K hK => ?_)
          go_simp
          go_at_call 40
          refine (Ceil_all v231 m.S.s m.W.s m.S.A m.W.A m.S.n m.S.c m.W.n m.W.c m.S.xs m.W.xs m.S.e m.W.e (MRows.on Rm (later j2 (later j8 (later j10 (later j192 (later j227 (later j230 j232))))))).S (MRows.on Rm (later j2 (later j8 (later j10 (later j192 (later j227 (later j230 j232))))))).W 0 r2 q2 H2.out).mono ?_
          rintro e' v233 ⟨G2, m2, o2, rfl, _, j234, I2⟩
          have zv233 : v231.heap.size ≤ v233.heap.size := Below.size j234
          refine hK _ _ ⟨fun _ _ => fun p hp => Below.block (later j10 (later j192 (later j227 (later j230 (later j232 j234))))) p hp, ?_⟩
          clear hK K
          try simp only [Act.put, zp]
          refine zC 13 #[zT,zT,zT,zT,zT,zT,zT,zT,zT,zT,zT,zT,zT,zT,zF,zF,zF,zF,zF,zF,zT,zT,zF,zF,zF] ?_ rfl ?hy194 ?rest194
          case hy194 => intro w; go_simp; (try with_reducible rfl)
          try simp only [Act.put, zp]
          refine zC 14 #[zT,zT,zT,zT,zT,zT,zT,zT,zT,zT,zT,zT,zT,zT,zT,zF,zF,zF,zF,zF,zT,zT,zF,zF,zF] ?_ rfl ?hy195 ?rest195
          case hy195 => intro w; go_simp; (try with_reducible rfl)
          try simp only [Act.put, zp]
          refine stepC (i := 15) (L := #[zT,zT,zT,zT,zT,zT,zT,zT,zT,zT,zT,zT,zT,zT,zT,zT,zF,zF,zF,zF,zT,zT,zF,zF,zF]) rfl (by rfl) (by kernel_rfl) (by rfl) (fun K hK => ?_)
          go_simp
          obtain ⟨X, Y, c, hX⟩ := bothR ⟨r1.neg, G1, m1, o1, r1.e, canon 4294967296 r1.m⟩ ⟨r2.neg, G2, m2, o2, r2.e, canon 4294967296 r2.m⟩ q1 q2
          go_at_call 60
          refine (both1_any v233 ⟨r1.neg, G1, m1, o1, r1.e, canon 4294967296 r1.m⟩ ⟨r2.neg, G2, m2, o2, r2.e, canon 4294967296 r2.m⟩ q1 q2 (v229.heap.size + 1) (v229.heap.size) (Nat.lt_of_lt_of_le sE (Below.size j234)) (Nat.lt_of_lt_of_le sD (Below.size j234)) (box_later E_ j234 sE) (box_later D_ j234 sD) X Y c hX).mono ?_
          rintro e' v235 ⟨rfl, j236⟩
          have HX := Lib.hid hX
          clear hX
          have zv235 : v233.heap.size ≤ v235.heap.size := Below.size j236
          refine hK _ _ ⟨fun _ _ => fun p hp => Below.block (later j10 (later j192 (later j227 (later j230 (later j232 (later j234 j236)))))) p hp, ?_⟩
          clear hK K
          try simp only [Act.put, zp]
          refine zC 16 #[zT,zT,zT,zT,zT,zT,zT,zT,zT,zT,zT,zT,zT,zT,zT,zT,zT,zF,zF,zF,zT,zT,zF,zF,zF] ?_ rfl ?hy197 ?rest197
          case hy197 => intro w; go_simp; (try with_reducible rfl)
          try simp only [Act.put, zp]
          refine zC 17 #[zT,zT,zT,zT,zT,zT,zT,zT,zT,zT,zT,zT,zT,zT,zT,zT,zT,zT,zF,zF,zT,zT,zF,zF,zF] ?_ rfl ?hy198 ?rest198
          case hy198 => intro w; go_simp; (try with_reducible rfl)
          try simp only [Act.put, zp]
          refine zC 18 #[zT,zT,zT,zT,zT,zT,zT,zT,zT,zT,zT,zT,zT,zT,zT,zT,zT,zT,zT,zF,zT,zT,zF,zF,zF] ?_ rfl ?hy199 ?rest199
          case hy199 => intro w; go_simp; (try with_reducible rfl)
          try simp only [Act.put, zp]
          refine zC 19 #[zT,zT,zT,zT,zT,zT,zT,zT,zT,zT,zT,zT,zT,zT,zT,zT,zT,zT,zT,zT,zT,zT,zF,zF,zF] ?_ rfl ?hy200 ?rest200
          case hy200 => intro w; go_simp; (try with_reducible rfl)
          try simp only [Act.put, zp]
          have O1 : OffD v235 v7.heap.size (v9.heap.size) (v191.heap.size) ⟨r1.neg, G1, m1, o1, r1.e, canon 4294967296 r1.m⟩ := OffD.of (d := ⟨r1.neg, G1, m1, o1, r1.e, canon 4294967296 r1.m⟩) (Ints.below I1 (later j232 (later j234 j236)) (Nat.le_refl _)) (by omega) (by omega) (by omega) (by omega)
          have O2 : OffD v235 v7.heap.size (v9.heap.size) (v191.heap.size) ⟨r2.neg, G2, m2, o2, r2.e, canon 4294967296 r2.m⟩ := OffD.of (d := ⟨r2.neg, G2, m2, o2, r2.e, canon 4294967296 r2.m⟩) (Ints.below I2 j236 (Nat.le_refl _)) (by omega) (by omega) (by omega) (by omega)
          obtain ⟨OX, OY⟩ := HX.out.all (P := OffD v235 v7.heap.size (v9.heap.size) (v191.heap.size)) O1 O2 (OffD.zero ..)
          exact leafC ⟨.tuple #[.agg #[.bool r1.neg, .slice G1 m1 o1, .int .i64 r1.e], .int .i64 q1], .agg #[.bool r1.neg, .slice G1 m1 o1, .int .i64 r1.e], .int .i64 q1, .func (.func 60) #[] #[.pointer (some ⟨v229.heap.size + 1, 0, none⟩), .pointer (some ⟨v229.heap.size, 0, none⟩)], .tuple #[.agg #[.bool r2.neg, .slice G2 m2 o2, .int .i64 r2.e], .int .i64 q2], .agg #[.bool r2.neg, .slice G2 m2 o2, .int .i64 r2.e], .int .i64 q2, .tuple #[.agg #[.bool X.s, .slice X.A X.n X.c, .int .i64 X.e], .agg #[.bool Y.s, .slice Y.A Y.n Y.c, .int .i64 Y.e], .int .i64 c], .tuple #[.agg #[.bool X.s, .slice X.A X.n X.c, .int .i64 X.e], .agg #[.bool Y.s, .slice Y.A Y.n Y.c, .int .i64 Y.e], .int .i64 c], v9.heap.size, v191.heap.size, X, Y, c, rfl, by omega, by omega, by omega, (box_later B6 (later j227 (later j230 (later j232 (later j234 j236)))) s193), (box_later B7 (later j230 (later j232 (later j234 j236))) s228), (later j10 (later j192 (later j227 (later j230 (later j232 (later j234 j236)))))), Lib.hid (bothN HX.out ⟨rfl, rfl, rfl⟩ ⟨rfl, rfl, rfl⟩), OX, OY⟩
        case o1_21 =>
         go_simp
         obtain ⟨v237, hc_, B7, j238, s239⟩ := alloc_d v9
         rw [hc_]
         clear hc_
         have zv237 : v9.heap.size ≤ v237.heap.size := Below.size j238
         refine hK _ _ ⟨fun _ _ => fun p hp => Below.block (later j10 j238) p hp, ?_⟩
         clear hK K
         try simp only [Act.put, zp]
         refine stepC2 (i := 4) (j := 20) (Li := #[zT,zT,zT,zT,zT,zF,zF,zF,zT,zT,zT,zT,zF,zF,zF,zF,zF,zF,zF,zF,zF,zT,zF,zF,zF]) (Lj := #[zT,zT,zT,zT,zF,zF,zF,zF,zT,zT,zT,zT,zF,zF,zF,zF,zF,zF,zF,zF,zT,zT,zF,zF,zF]) rfl rfl (by rfl) (by rfl) (by kernel_rfl) (by rfl) (by rfl) (fun K hK => ?o22_4) (fun K hK => ?o22_20)
         case o22_4 =>
          go_simp
          go_at_call 39
          refine (Floor_all v237 m.S.s m.W.s m.S.A m.W.A m.S.n m.S.c m.W.n m.W.c m.S.xs m.W.xs m.S.e m.W.e (MRows.on Rm (later j2 (later j8 (later j10 j238)))).S (MRows.on Rm (later j2 (later j8 (later j10 j238)))).W 0 r1 q1 H1.out).mono ?_
          rintro e' v240 ⟨G1, m1, o1, rfl, _, j241, I1⟩
          have zv240 : v237.heap.size ≤ v240.heap.size := Below.size j241
          refine hK _ _ ⟨fun _ _ => fun p hp => Below.block (later j10 (later j238 j241)) p hp, ?_⟩
          clear hK K
          try simp only [Act.put, zp]
          refine zC 5 #[zT,zT,zT,zT,zT,zT,zF,zF,zT,zT,zT,zT,zF,zF,zF,zF,zF,zF,zF,zF,zF,zT,zF,zF,zF] ?_ rfl ?hy201 ?rest201
          case hy201 => intro w; go_simp; (try with_reducible rfl)
          try simp only [Act.put, zp]
          refine zC 6 #[zT,zT,zT,zT,zT,zT,zT,zF,zT,zT,zT,zT,zF,zF,zF,zF,zF,zF,zF,zF,zF,zT,zF,zF,zF] ?_ rfl ?hy202 ?rest202
          case hy202 => intro w; go_simp; (try with_reducible rfl)
          try simp only [Act.put, zp]
          refine stepC2 (i := 7) (j := 20) (Li := #[zT,zT,zT,zT,zT,zT,zT,zT,zT,zT,zT,zT,zF,zF,zF,zF,zF,zF,zF,zF,zF,zT,zF,zF,zF]) (Lj := #[zT,zT,zT,zT,zT,zT,zT,zF,zT,zT,zT,zT,zF,zF,zF,zF,zF,zF,zF,zF,zT,zT,zF,zF,zF]) rfl rfl (by rfl) (by rfl) (by kernel_rfl) (by rfl) (by rfl) (fun K hK => ?o23_7) (fun K hK => ?o23_20)
          case o23_7 =>
           go_simp
           go_at_call 38
           refine (both_any v240 r1.neg G1 m1 o1 r1.e q1).mono ?_
           rintro e' v242 ⟨rfl, j243, D_, E_, lD_⟩
           have sD : v240.heap.size < v242.heap.size := by omega
           have sE : v240.heap.size + 1 < v242.heap.size := by omega
           have zv242 : v240.heap.size ≤ v242.heap.size := Below.size j243
           refine hK _ _ ⟨fun _ _ => fun p hp => Below.block (later j10 (later j238 (later j241 j243))) p hp, ?_⟩
           clear hK K
           try simp only [Act.put, zp]
           refine stepC2 (i := 12) (j := 20) (Li := #[zT,zT,zT,zT,zT,zT,zT,zT,zT,zT,zT,zT,zT,zF,zF,zF,zF,zF,zF,zF,zF,zT,zF,zF,zF]) (Lj := #[zT,zT,zT,zT,zT,zT,zT,zT,zT,zT,zT,zT,zF,zF,zF,zF,zF,zF,zF,zF,zT,zT,zF,zF,zF]) rfl rfl (by rfl) (by rfl) (by kernel_rfl) (by rfl) (by rfl) (fun K hK => ?o24_12) (fun K hK => ?o24_20)
           case o24_12 =>
            go_simp
            go_at_call 40
            refine (Ceil_all v242 m.S.s m.W.s m.S.A m.W.A m.S.n m.S.c m.W.n m.W.c m.S.xs m.W.xs m.S.e m.W.e (MRows.on Rm (later j2 (later j8 (later j10 (later j238 (later j241 j243)))))).S (MRows.on Rm (later j2 (later j8 (later j10 (later j238 (later j241 j243)))))).W 0 r2 q2 H2.out).mono ?_
            rintro e' v244 ⟨G2, m2, o2, rfl, _, j245, I2⟩
            have zv244 : v242.heap.size ≤ v244.heap.size := Below.size j245
            refine hK _ _ ⟨fun _ _ => fun p hp => Below.block (later j10 (later j238 (later j241 (later j243 j245)))) p hp, ?_⟩
            clear hK K
            try simp only [Act.put, zp]
            refine zC 13 #[zT,zT,zT,zT,zT,zT,zT,zT,zT,zT,zT,zT,zT,zT,zF,zF,zF,zF,zF,zF,zF,zT,zF,zF,zF] ?_ rfl ?hy203 ?rest203
            case hy203 => intro w; go_simp; (try with_reducible rfl)
            try simp only [Act.put, zp]
            refine zC 14 #[zT,zT,zT,zT,zT,zT,zT,zT,zT,zT,zT,zT,zT,zT,zT,zF,zF,zF,zF,zF,zF,zT,zF,zF,zF] ?_ rfl ?hy204 ?rest204
            case hy204 => intro w; go_simp; (try with_reducible rfl)
            try simp only [Act.put, zp]
            refine stepC2 (i := 15) (j := 20) (Li := #[zT,zT,zT,zT,zT,zT,zT,zT,zT,zT,zT,zT,zT,zT,zT,zT,zF,zF,zF,zF,zF,zT,zF,zF,zF]) (Lj := #[zT,zT,zT,zT,zT,zT,zT,zT,zT,zT,zT,zT,zT,zT,zT,zF,zF,zF,zF,zF,zT,zT,zF,zF,zF]) rfl rfl (by rfl) (by rfl) (by kernel_rfl) (by rfl) (by rfl) (fun K hK => ?o25_15) (fun K hK => ?o25_20)
            case o25_15 =>
             go_simp
             obtain ⟨X, Y, c, hX⟩ := bothR ⟨r1.neg, G1, m1, o1, r1.e, canon 4294967296 r1.m⟩ ⟨r2.neg, G2, m2, o2, r2.e, canon 4294967296 r2.m⟩ q1 q2
             go_at_call 60
             refine (both1_any v244 ⟨r1.neg, G1, m1, o1, r1.e, canon 4294967296 r1.m⟩ ⟨r2.neg, G2, m2, o2, r2.e, canon 4294967296 r2.m⟩ q1 q2 (v240.heap.size + 1) (v240.heap.size) (Nat.lt_of_lt_of_le sE (Below.size j245)) (Nat.lt_of_lt_of_le sD (Below.size j245)) (box_later E_ j245 sE) (box_later D_ j245 sD) X Y c hX).mono ?_
             rintro e' v246 ⟨rfl, j247⟩
             have HX := Lib.hid hX
             clear hX
             have zv246 : v244.heap.size ≤ v246.heap.size := Below.size j247
             refine hK _ _ ⟨fun _ _ => fun p hp => Below.block (later j10 (later j238 (later j241 (later j243 (later j245 j247))))) p hp, ?_⟩
             clear hK K
             try simp only [Act.put, zp]
             refine zC 16 #[zT,zT,zT,zT,zT,zT,zT,zT,zT,zT,zT,zT,zT,zT,zT,zT,zT,zF,zF,zF,zF,zT,zF,zF,zF] ?_ rfl ?hy205 ?rest205
             case hy205 => intro w; go_simp; (try with_reducible rfl)
             try simp only [Act.put, zp]
             refine zC 17 #[zT,zT,zT,zT,zT,zT,zT,zT,zT,zT,zT,zT,zT,zT,zT,zT,zT,zT,zF,zF,zF,zT,zF,zF,zF] ?_ rfl ?hy206 ?rest206
             case hy206 => intro w; go_simp; (try with_reducible rfl)
             try simp only [Act.put, zp]
             refine zC 18 #[zT,zT,zT,zT,zT,zT,zT,zT,zT,zT,zT,zT,zT,zT,zT,zT,zT,zT,zT,zF,zF,zT,zF,zF,zF] ?_ rfl ?hy207 ?rest207
             case hy207 => intro w; go_simp; (try with_reducible rfl)
             try simp only [Act.put, zp]
             refine zC 19 #[zT,zT,zT,zT,zT,zT,zT,zT,zT,zT,zT,zT,zT,zT,zT,zT,zT,zT,zT,zT,zF,zT,zF,zF,zF] ?_ rfl ?hy208 ?rest208
             case hy208 => intro w; go_simp; (try with_reducible rfl)
             try simp only [Act.put, zp]
             refine stepC (i := 20) (L := #[zT,zT,zT,zT,zT,zT,zT,zT,zT,zT,zT,zT,zT,zT,zT,zT,zT,zT,zT,zT,zT,zT,zF,zF,zF]) rfl (by rfl) (by kernel_rfl) (by rfl) (fun K hK => ?_)
             go_simp
             obtain ⟨v248, hc_, B6, j249, s250⟩ := alloc_d v246
             rw [hc_]
             clear hc_
             have zv248 : v246.heap.size ≤ v248.heap.size := Below.size j249
             refine hK _ _ ⟨fun _ _ => fun p hp => Below.block (later j10 (later j238 (later j241 (later j243 (later j245 (later j247 j249)))))) p hp, ?_⟩
             clear hK K
             try simp only [Act.put, zp]
             have O1 : OffD v248 v7.heap.size (v246.heap.size) (v9.heap.size) ⟨r1.neg, G1, m1, o1, r1.e, canon 4294967296 r1.m⟩ := OffD.of (d := ⟨r1.neg, G1, m1, o1, r1.e, canon 4294967296 r1.m⟩) (Ints.below I1 (later j243 (later j245 (later j247 j249))) (Nat.le_refl _)) (by omega) (by omega) (by omega) (by omega)
             have O2 : OffD v248 v7.heap.size (v246.heap.size) (v9.heap.size) ⟨r2.neg, G2, m2, o2, r2.e, canon 4294967296 r2.m⟩ := OffD.of (d := ⟨r2.neg, G2, m2, o2, r2.e, canon 4294967296 r2.m⟩) (Ints.below I2 (later j247 j249) (Nat.le_refl _)) (by omega) (by omega) (by omega) (by omega)
             obtain ⟨OX, OY⟩ := HX.out.all (P := OffD v248 v7.heap.size (v246.heap.size) (v9.heap.size)) O1 O2 (OffD.zero ..)
             exact leafC ⟨.tuple #[.agg #[.bool r1.neg, .slice G1 m1 o1, .int .i64 r1.e], .int .i64 q1], .agg #[.bool r1.neg, .slice G1 m1 o1, .int .i64 r1.e], .int .i64 q1, .func (.func 60) #[] #[.pointer (some ⟨v240.heap.size + 1, 0, none⟩), .pointer (some ⟨v240.heap.size, 0, none⟩)], .tuple #[.agg #[.bool r2.neg, .slice G2 m2 o2, .int .i64 r2.e], .int .i64 q2], .agg #[.bool r2.neg, .slice G2 m2 o2, .int .i64 r2.e], .int .i64 q2, .tuple #[.agg #[.bool X.s, .slice X.A X.n X.c, .int .i64 X.e], .agg #[.bool Y.s, .slice Y.A Y.n Y.c, .int .i64 Y.e], .int .i64 c], .tuple #[.agg #[.bool X.s, .slice X.A X.n X.c, .int .i64 X.e], .agg #[.bool Y.s, .slice Y.A Y.n Y.c, .int .i64 Y.e], .int .i64 c], v246.heap.size, v9.heap.size, X, Y, c, rfl, by omega, by omega, by omega, B6, (box_later B7 (later j241 (later j243 (later j245 (later j247 j249)))) s239), (later j10 (later j238 (later j241 (later j243 (later j245 (later j247 j249)))))), Lib.hid (bothN HX.out ⟨rfl, rfl, rfl⟩ ⟨rfl, rfl, rfl⟩), OX, OY⟩
            case o25_20 =>
             go_simp
             obtain ⟨v251, hc_, B6, j252, s253⟩ := alloc_d v244
             rw [hc_]
             clear hc_
             have zv251 : v244.heap.size ≤ v251.heap.size := Below.size j252
             refine hK _ _ ⟨fun _ _ => fun p hp => Below.block (later j10 (later j238 (later j241 (later j243 (later j245 j252))))) p hp, ?_⟩
             clear hK K
             try simp only [Act.put, zp]
             refine stepC (i := 15) (L := #[zT,zT,zT,zT,zT,zT,zT,zT,zT,zT,zT,zT,zT,zT,zT,zT,zF,zF,zF,zF,zT,zT,zF,zF,zF]) rfl (by rfl) (by kernel_rfl) (by rfl) (fun K hK => ?_)
             go_simp
             obtain ⟨X, Y, c, hX⟩ := bothR ⟨r1.neg, G1, m1, o1, r1.e, canon 4294967296 r1.m⟩ ⟨r2.neg, G2, m2, o2, r2.e, canon 4294967296 r2.m⟩ q1 q2
             go_at_call 60
             refine (both1_any v251 ⟨r1.neg, G1, m1, o1, r1.e, canon 4294967296 r1.m⟩ ⟨r2.neg, G2, m2, o2, r2.e, canon 4294967296 r2.m⟩ q1 q2 (v240.heap.size + 1) (v240.heap.size) (Nat.lt_of_lt_of_le sE (Below.size (later j245 j252))) (Nat.lt_of_lt_of_le sD (Below.size (later j245 j252))) (box_later E_ (later j245 j252) sE) (box_later D_ (later j245 j252) sD) X Y c hX).mono ?_
             rintro e' v254 ⟨rfl, j255⟩
             have HX := Lib.hid hX
             clear hX
             have zv254 : v251.heap.size ≤ v254.heap.size := Below.size j255
             refine hK _ _ ⟨fun _ _ => fun p hp => Below.block (later j10 (later j238 (later j241 (later j243 (later j245 (later j252 j255)))))) p hp, ?_⟩
             clear hK K
             try simp only [Act.put, zp]
             refine zC 16 #[zT,zT,zT,zT,zT,zT,zT,zT,zT,zT,zT,zT,zT,zT,zT,zT,zT,zF,zF,zF,zT,zT,zF,zF,zF] ?_ rfl ?hy211 ?rest211
             case hy211 => intro w; go_simp; (try with_reducible rfl)
             try simp only [Act.put, zp]
             refine zC 17 #[zT,zT,zT,zT,zT,zT,zT,zT,zT,zT,zT,zT,zT,zT,zT,zT,zT,zT,zF,zF,zT,zT,zF,zF,zF] ?_ rfl ?hy212 ?rest212
             case hy212 => intro w; go_simp; (try with_reducible rfl)
             try simp only [Act.put, zp]
             refine zC 18 #[zT,zT,zT,zT,zT,zT,zT,zT,zT,zT,zT,zT,zT,zT,zT,zT,zT,zT,zT,zF,zT,zT,zF,zF,zF] ?_ rfl ?hy213 ?rest213
             case hy213 => intro w; go_simp; (try with_reducible rfl)
             try simp only [Act.put, zp]
             refine zC 19 #[zT,zT,zT,zT,zT,zT,zT,zT,zT,zT,zT,zT,zT,zT,zT,zT,zT,zT,zT,zT,zT,zT,zF,zF,zF] ?_ rfl ?hy214 ?rest214
             case hy214 => intro w; go_simp; (try with_reducible rfl)
             try simp only [Act.put, zp]
             have O1 : OffD v254 v7.heap.size (v244.heap.size) (v9.heap.size) ⟨r1.neg, G1, m1, o1, r1.e, canon 4294967296 r1.m⟩ := OffD.of (d := ⟨r1.neg, G1, m1, o1, r1.e, canon 4294967296 r1.m⟩) (Ints.below I1 (later j243 (later j245 (later j252 j255))) (Nat.le_refl _)) (by omega) (by omega) (by omega) (by omega)
             have O2 : OffD v254 v7.heap.size (v244.heap.size) (v9.heap.size) ⟨r2.neg, G2, m2, o2, r2.e, canon 4294967296 r2.m⟩ := OffD.of (d := ⟨r2.neg, G2, m2, o2, r2.e, canon 4294967296 r2.m⟩) (Ints.below I2 (later j252 j255) (Nat.le_refl _)) (by omega) (by omega) (by omega) (by omega)
             obtain ⟨OX, OY⟩ := HX.out.all (P := OffD v254 v7.heap.size (v244.heap.size) (v9.heap.size)) O1 O2 (OffD.zero ..)
             exact leafC ⟨.tuple #[.agg #[.bool r1.neg, .slice G1 m1 o1, .int .i64 r1.e], .int .i64 q1], .agg #[.bool r1.neg, .slice G1 m1 o1, .int .i64 r1.e], .int .i64 q1, .func (.func 60) #[] #[.pointer (some ⟨v240.heap.size + 1, 0, none⟩), .pointer (some ⟨v240.heap.size, 0, none⟩)], .tuple #[.agg #[.bool r2.neg, .slice G2 m2 o2, .int .i64 r2.e], .int .i64 q2], .agg #[.bool r2.neg, .slice G2 m2 o2, .int .i64 r2.e], .int .i64 q2, .tuple #[.agg #[.bool X.s, .slice X.A X.n X.c, .int .i64 X.e], .agg #[.bool Y.s, .slice Y.A Y.n Y.c, .int .i64 Y.e], .int .i64 c], .tuple #[.agg #[.bool X.s, .slice X.A X.n X.c, .int .i64 X.e], .agg #[.bool Y.s, .slice Y.A Y.n Y.c, .int .i64 Y.e], .int .i64 c], v244.heap.size, v9.heap.size, X, Y, c, rfl, by omega, by omega, by omega, (box_later B6 j255 s253), (box_later B7 (later j241 (later j243 (later j245 (later j252 j255)))) s239), (later j10 (later j238 (later j241 (later j243 (later j245 (later j252 j255)))))), Lib.hid (bothN HX.out ⟨rfl, rfl, rfl⟩ ⟨rfl, rfl, rfl⟩), OX, OY⟩
           case o24_20 =>
            go_simp
            obtain ⟨v256, hc_, B6, j257, s258⟩ := alloc_d v242
            rw [hc_]
            clear hc_
            have zv256 : v242.heap.size ≤ v256.heap.size := Below.size j257
            refine hK _ _ ⟨fun _ _ => fun p hp => Below.block (later j10 (later j238 (later j241 (later j243 j257)))) p hp, ?_⟩
            clear hK K
            try simp only [Act.put, zp]
            refine stepC (i := 12) (L := #[zT,zT,zT,zT,zT,zT,zT,zT,zT,zT,zT,zT,zT,zF,zF,zF,zF,zF,zF,zF,zT,zT,zF,zF,zF]) rfl (by rfl) (by kernel_rfl) (by rfl) (fun K hK => ?_)
            go_simp
            go_at_call 40
            refine (Ceil_all v256 m.S.s m.W.s m.S.A m.W.A m.S.n m.S.c m.W.n m.W.c m.S.xs m.W.xs m.S.e m.W.e (MRows.on Rm (later j2 (later j8 (later j10 (later j238 (later j241 (later j243 j257))))))).S (MRows.on Rm (later j2 (later j8 (later j10 (later j238 (later j241 (later j243 j257))))))).W 0 r2 q2 H2.out).mono ?_
            rintro e' v259 ⟨G2, m2, o2, rfl, _, j260, I2⟩
            have zv259 : v256.heap.size ≤ v259.heap.size := Below.size j260
            refine hK _ _ ⟨fun _ _ => fun p hp => Below.block (later j10 (later j238 (later j241 (later j243 (later j257 j260))))) p hp, ?_⟩
            clear hK K
            try simp only [Act.put, zp]
            refine zC 13 #[zT,zT,zT,zT,zT,zT,zT,zT,zT,zT,zT,zT,zT,zT,zF,zF,zF,zF,zF,zF,zT,zT,zF,zF,zF] ?_ rfl ?hy216 ?rest216
            case hy216 => intro w; go_simp; (try with_reducible rfl)
            try simp only [Act.put, zp]
            refine zC 14 #[zT,zT,zT,zT,zT,zT,zT,zT,zT,zT,zT,zT,zT,zT,zT,zF,zF,zF,zF,zF,zT,zT,zF,zF,zF] ?_ rfl ?hy217 ?rest217
            case hy217 => intro w; go_simp; (try with_reducible rfl)
            try simp only [Act.put, zp]
            refine stepC (i := 15) (L := #[zT,zT,zT,zT,zT,zT,zT,zT,zT,zT,zT,zT,zT,zT,zT,zT,zF,zF,zF,zF,zT,zT,zF,zF,zF]) rfl (by rfl) (by kernel_rfl) (by rfl) (fun K hK => ?_)
            go_simp
            obtain ⟨X, Y, c, hX⟩ := bothR ⟨r1.neg, G1, m1, o1, r1.e, canon 4294967296 r1.m⟩ ⟨r2.neg, G2, m2, o2, r2.e, canon 4294967296 r2.m⟩ q1 q2
            go_at_call 60
            refine (both1_any v259 ⟨r1.neg, G1, m1, o1, r1.e, canon 4294967296 r1.m⟩ ⟨r2.neg, G2, m2, o2, r2.e, canon 4294967296 r2.m⟩ q1 q2 (v240.heap.size + 1) (v240.heap.size) (Nat.lt_of_lt_of_le sE (Below.size (later j257 j260))) (Nat.lt_of_lt_of_le sD (Below.size (later j257 j260))) (box_later E_ (later j257 j260) sE) (box_later D_ (later j257 j260) sD) X Y c hX).mono ?_
            rintro e' v261 ⟨rfl, j262⟩
            have HX := Lib.hid hX
            clear hX
            have zv261 : v259.heap.size ≤ v261.heap.size := Below.size j262
            refine hK _ _ ⟨fun _ _ => fun p hp => Below.block (later j10 (later j238 (later j241 (later j243 (later j257 (later j260 j262)))))) p hp, ?_⟩
            clear hK K
            try simp only [Act.put, zp]
            refine zC 16 #[zT,zT,zT,zT,zT,zT,zT,zT,zT,zT,zT,zT,zT,zT,zT,zT,zT,zF,zF,zF,zT,zT,zF,zF,zF] ?_ rfl ?hy219 ?rest219
            case hy219 => intro w; go_simp; (try with_reducible rfl)
            try simp only [Act.put, zp]
            refine zC 17 #[zT,zT,zT,zT,zT,zT,zT,zT,zT,zT,zT,zT,zT,zT,zT,zT,zT,zT,zF,zF,zT,zT,zF,zF,zF] ?_ rfl ?hy220 ?rest220
            case hy220 => intro w; go_simp; (try with_reducible rfl)
            try simp only [Act.put, zp]
            refine zC 18 #[zT,zT,zT,zT,zT,zT,zT,zT,zT,zT,zT,zT,zT,zT,zT,zT,zT,zT,zT,zF,zT,zT,zF,zF,zF] ?_ rfl ?hy221 ?rest221
            case hy221 => intro w; go_simp; (try with_reducible rfl)
            try simp only [Act.put, zp]
            refine zC 19 #[zT,zT,zT,zT,zT,zT,zT,zT,zT,zT,zT,zT,zT,zT,zT,zT,zT,zT,zT,zT,zT,zT,zF,zF,zF] ?_ rfl ?hy222 ?rest222
            case hy222 => intro w; go_simp; (try with_reducible rfl)
            try simp only [Act.put, zp]
            have O1 : OffD v261 v7.heap.size (v242.heap.size) (v9.heap.size) ⟨r1.neg, G1, m1, o1, r1.e, canon 4294967296 r1.m⟩ := OffD.of (d := ⟨r1.neg, G1, m1, o1, r1.e, canon 4294967296 r1.m⟩) (Ints.below I1 (later j243 (later j257 (later j260 j262))) (Nat.le_refl _)) (by omega) (by omega) (by omega) (by omega)
            have O2 : OffD v261 v7.heap.size (v242.heap.size) (v9.heap.size) ⟨r2.neg, G2, m2, o2, r2.e, canon 4294967296 r2.m⟩ := OffD.of (d := ⟨r2.neg, G2, m2, o2, r2.e, canon 4294967296 r2.m⟩) (Ints.below I2 j262 (Nat.le_refl _)) (by omega) (by omega) (by omega) (by omega)
            obtain ⟨OX, OY⟩ := HX.out.all (P := OffD v261 v7.heap.size (v242.heap.size) (v9.heap.size)) O1 O2 (OffD.zero ..)
            exact leafC ⟨.tuple #[.agg #[.bool r1.neg, .slice G1 m1 o1, .int .i64 r1.e], .int .i64 q1], .agg #[.bool r1.neg, .slice G1 m1 o1, .int .i64 r1.e], .int .i64 q1, .func (.func 60) #[] #[.pointer (some ⟨v240.heap.size + 1, 0, none⟩), .pointer (some ⟨v240.heap.size, 0, none⟩)], .tuple #[.agg #[.bool r2.neg, .slice G2 m2 o2, .int .i64 r2.e], .int .i64 q2], .agg #[.bool r2.neg, .slice G2 m2 o2, .int .i64 r2.e], .int .i64 q2, .tuple #[.agg #[.bool X.s, .slice X.A X.n X.c, .int .i64 X.e], .agg #[.bool Y.s, .slice Y.A Y.n Y.c, .int .i64 Y.e], .int .i64 c], .tuple #[.agg #[.bool X.s, .slice X.A X.n X.c, .int .i64 X.e], .agg #[.bool Y.s, .slice Y.A Y.n Y.c, .int .i64 Y.e], .int .i64 c], v242.heap.size, v9.heap.size, X, Y, c, rfl, by omega, by omega, by omega, (box_later B6 (later j260 j262) s258), (box_later B7 (later j241 (later j243 (later j257 (later j260 j262)))) s239), (later j10 (later j238 (later j241 (later j243 (later j257 (later j260 j262)))))), Lib.hid (bothN HX.out ⟨rfl, rfl, rfl⟩ ⟨rfl, rfl, rfl⟩), OX, OY⟩
          case o23_20 =>
           go_simp
           obtain ⟨v263, hc_, B6, j264, s265⟩ := alloc_d v240
           rw [hc_]
           clear hc_
           have zv263 : v240.heap.size ≤ v263.heap.size := Below.size j264
           refine hK _ _ ⟨fun _ _ => fun p hp => Below.block (later j10 (later j238 (later j241 j264))) p hp, ?_⟩
           clear hK K
           try simp only [Act.put, zp]
           refine stepC (i := 7) (L := #[zT,zT,zT,zT,zT,zT,zT,zT,zT,zT,zT,zT,zF,zF,zF,zF,zF,zF,zF,zF,zT,zT,zF,zF,zF]) rfl (by rfl) (by kernel_rfl) (by rfl) (fun K hK => ?_)
           go_simp
           go_at_call 38
           refine (both_any v263 r1.neg G1 m1 o1 r1.e q1).mono ?_
           rintro e' v266 ⟨rfl, j267, D_, E_, lD_⟩
           have sD : v263.heap.size < v266.heap.size := by omega
           have sE : v263.heap.size + 1 < v266.heap.size := by omega
           have zv266 : v263.heap.size ≤ v266.heap.size := Below.size j267
           refine hK _ _ ⟨fun _ _ => fun p hp => Below.block (later j10 (later j238 (later j241 (later j264 j267)))) p hp, ?_⟩
           clear hK K
           try simp only [Act.put, zp]
           refine stepC (i := 12) (L := #[zT,zT,zT,zT,zT,zT,zT,zT,zT,zT,zT,zT,zT,zF,zF,zF,zF,zF,zF,zF,zT,zT,zF,zF,zF]) rfl (by rfl) (by kernel_rfl) (by rfl) (fun K hK => ?_)
           go_simp
           go_at_call 40
           refine (Ceil_all v266 m.S.s m.W.s m.S.A m.W.A m.S.n m.S.c m.W.n m.W.c m.S.xs m.W.xs m.S.e m.W.e (MRows.on Rm (later j2 (later j8 (later j10 (later j238 (later j241 (later j264 j267))))))).S (MRows.on Rm (later j2 (later j8 (later j10 (later j238 (later j241 (later j264 j267))))))).W 0 r2 q2 H2.out).mono ?_
           rintro e' v268 ⟨G2, m2, o2, rfl, _, j269, I2⟩
           have zv268 : v266.heap.size ≤ v268.heap.size := Below.size j269
           refine hK _ _ ⟨fun _ _ => fun p hp => Below.block (later j10 (later j238 (later j241 (later j264 (later j267 j269))))) p hp, ?_⟩
           clear hK K
           try simp only [Act.put, zp]
           refine zC 13 #[zT,zT,zT,zT,zT,zT,zT,zT,zT,zT,zT,zT,zT,zT,zF,zF,zF,zF,zF,zF,zT,zT,zF,zF,zF] ?_ rfl ?hy225 ?rest225
           case hy225 => intro w; go_simp; (try with_reducible rfl)
           try simp only [Act.put, zp]
           refine zC 14 #[zT,zT,zT,zT,zT,zT,zT,zT,zT,zT,zT,zT,zT,zT,zT,zF,zF,zF,zF,zF,zT,zT,zF,zF,zF] ?_ rfl ?hy226 ?rest226
           case hy226 => intro w; go_simp; (try with_reducible rfl)
           try simp only [Act.put, zp]
           refine stepC (i := 15) (L := #[zT,zT,zT,zT,zT,zT,zT,zT,zT,zT,zT,zT,zT,zT,zT,zT,zF,zF,zF,zF,zT,zT,zF,zF,zF]) rfl (by rfl) (by kernel_rfl) (by rfl) (fun K hK => ?_)
           go_simp
           obtain ⟨X, Y, c, hX⟩ := bothR ⟨r1.neg, G1, m1, o1, r1.e, canon 4294967296 r1.m⟩ ⟨r2.neg, G2, m2, o2, r2.e, canon 4294967296 r2.m⟩ q1 q2
           go_at_call 60
           refine (both1_any v268 ⟨r1.neg, G1, m1, o1, r1.e, canon 4294967296 r1.m⟩ ⟨r2.neg, G2, m2, o2, r2.e, canon 4294967296 r2.m⟩ q1 q2 (v263.heap.size + 1) (v263.heap.size) (Nat.lt_of_lt_of_le sE (Below.size j269)) (Nat.lt_of_lt_of_le sD (Below.size j269)) (box_later E_ j269 sE) (box_later D_ j269 sD) X Y c hX).mono ?_
           rintro e' v270 ⟨rfl, j271⟩
           have HX := Lib.hid hX
           clear hX
           have zv270 : v268.heap.size ≤ v270.heap.size := Below.size j271
           refine hK _ _ ⟨fun _ _ => fun p hp => Below.block (later j10 (later j238 (later j241 (later j264 (later j267 (later j269 j271)))))) p hp, ?_⟩
           clear hK K
           try simp only [Act.put, zp]
           refine zC 16 #[zT,zT,zT,zT,zT,zT,zT,zT,zT,zT,zT,zT,zT,zT,zT,zT,zT,zF,zF,zF,zT,zT,zF,zF,zF] ?_ rfl ?hy228 ?rest228
           case hy228 => intro w; go_simp; (try with_reducible rfl)
           try simp only [Act.put, zp]
           refine zC 17 #[zT,zT,zT,zT,zT,zT,zT,zT,zT,zT,zT,zT,zT,zT,zT,zT,zT,zT,zF,zF,zT,zT,zF,zF,zF] ?_ rfl ?hy229 ?rest229
           case hy229 => intro w; go_simp; (try with_reducible rfl)
           try simp only [Act.put, zp]
           refine zC 18 #[zT,zT,zT,zT,zT,zT,zT,zT,zT,zT,zT,zT,zT,zT,zT,zT,zT,zT,zT,zF,zT,zT,zF,zF,zF] ?_ rfl ?hy230 ?rest230
           case hy230 => intro w; go_simp; (try with_reducible rfl)
           try simp only [Act.put, zp]
           refine zC 19 #[zT,zT,zT,zT,zT,zT,zT,zT,zT,zT,zT,zT,zT,zT,zT,zT,zT,zT,zT,zT,zT,zT,zF,zF,zF] ?_ rfl ?hy231 ?rest231
           case hy231 => intro w; go_simp; (try with_reducible rfl)
           try simp only [Act.put, zp]
           have O1 : OffD v270 v7.heap.size (v240.heap.size) (v9.heap.size) ⟨r1.neg, G1, m1, o1, r1.e, canon 4294967296 r1.m⟩ := OffD.of (d := ⟨r1.neg, G1, m1, o1, r1.e, canon 4294967296 r1.m⟩) (Ints.below I1 (later j264 (later j267 (later j269 j271))) (Nat.le_refl _)) (by omega) (by omega) (by omega) (by omega)
           have O2 : OffD v270 v7.heap.size (v240.heap.size) (v9.heap.size) ⟨r2.neg, G2, m2, o2, r2.e, canon 4294967296 r2.m⟩ := OffD.of (d := ⟨r2.neg, G2, m2, o2, r2.e, canon 4294967296 r2.m⟩) (Ints.below I2 j271 (Nat.le_refl _)) (by omega) (by omega) (by omega) (by omega)
           obtain ⟨OX, OY⟩ := HX.out.all (P := OffD v270 v7.heap.size (v240.heap.size) (v9.heap.size)) O1 O2 (OffD.zero ..)
           exact leafC ⟨.tuple #[.agg #[.bool r1.neg, .slice G1 m1 o1, .int .i64 r1.e], .int .i64 q1], .agg #[.bool r1.neg, .slice G1 m1 o1, .int .i64 r1.e], .int .i64 q1, .func (.func 60) #[] #[.pointer (some ⟨v263.heap.size + 1, 0, none⟩), .pointer (some ⟨v263.heap.size, 0, none⟩)], .tuple #[.agg #[.bool r2.neg, .slice G2 m2 o2, .int .i64 r2.e], .int .i64 q2], .agg #[.bool r2.neg, .slice G2 m2 o2, .int .i64 r2.e], .int .i64 q2, .tuple #[.agg #[.bool X.s, .slice X.A X.n X.c, .int .i64 X.e], .agg #[.bool Y.s, .slice Y.A Y.n Y.c, .int .i64 Y.e], .int .i64 c], .tuple #[.agg #[.bool X.s, .slice X.A X.n X.c, .int .i64 X.e], .agg #[.bool Y.s, .slice Y.A Y.n Y.c, .int .i64 Y.e], .int .i64 c], v240.heap.size, v9.heap.size, X, Y, c, rfl, by omega, by omega, by omega, (box_later B6 (later j267 (later j269 j271)) s265), (box_later B7 (later j241 (later j264 (later j267 (later j269 j271)))) s239), (later j10 (later j238 (later j241 (later j264 (later j267 (later j269 j271)))))), Lib.hid (bothN HX.out ⟨rfl, rfl, rfl⟩ ⟨rfl, rfl, rfl⟩), OX, OY⟩
         case o22_20 =>
          go_simp
          obtain ⟨v272, hc_, B6, j273, s274⟩ := alloc_d v237
          rw [hc_]
          clear hc_
          have zv272 : v237.heap.size ≤ v272.heap.size := Below.size j273
          refine hK _ _ ⟨fun _ _ => fun p hp => Below.block (later j10 (later j238 j273)) p hp, ?_⟩
          clear hK K
          try simp only [Act.put, zp]
          refine stepC (i := 4) (L := #[zT,zT,zT,zT,zT,zF,zF,zF,zT,zT,zT,zT,zF,zF,zF,zF,zF,zF,zF,zF,zT,zT,zF,zF,zF]) rfl (by rfl) (by kernel_rfl) (by rfl) (fun K hK => ?_)
          go_simp
          go_at_call 39
          refine (Floor_all v272 m.S.s m.W.s m.S.A m.W.A m.S.n m.S.c m.W.n m.W.c m.S.xs m.W.xs m.S.e m.W.e (MRows.on Rm (later j2 (later j8 (later j10 (later j238 j273))))).S (MRows.on Rm (later j2 (later j8 (later j10 (later j238 j273))))).W 0 r1 q1 H1.out).mono ?_
          rintro e' v275 ⟨G1, m1, o1, rfl, _, j276, I1⟩
          have zv275 : v272.heap.size ≤ v275.heap.size := Below.size j276
          refine hK _ _ ⟨fun _ _ => fun p hp => Below.block (later j10 (later j238 (later j273 j276))) p hp, ?_⟩
          clear hK K
          try simp only [Act.put, zp]
          refine zC 5 #[zT,zT,zT,zT,zT,zT,zF,zF,zT,zT,zT,zT,zF,zF,zF,zF,zF,zF,zF,zF,zT,zT,zF,zF,zF] ?_ rfl ?hy233 ?rest233
          case hy233 => intro w; go_simp; (try with_reducible rfl)
          try simp only [Act.put, zp]
          refine zC 6 #[zT,zT,zT,zT,zT,zT,zT,zF,zT,zT,zT,zT,zF,zF,zF,zF,zF,zF,zF,zF,zT,zT,zF,zF,zF] ?_ rfl ?hy234 ?rest234
          case hy234 => intro w; go_simp; (try with_reducible rfl)
          try simp only [Act.put, zp]
          refine stepC (i := 7) (L := #[zT,zT,zT,zT,zT,zT,zT,zT,zT,zT,zT,zT,zF,zF,zF,zF,zF,zF,zF,zF,zT,zT,zF,zF,zF]) rfl (by rfl) (by kernel_rfl) (by rfl) (fun K hK => ?_)
          go_simp
          go_at_call 38
          refine (both_any v275 r1.neg G1 m1 o1 r1.e q1).mono ?_
          rintro e' v277 ⟨rfl, j278, D_, E_, lD_⟩
          have sD : v275.heap.size < v277.heap.size := by omega
          have sE : v275.heap.size + 1 < v277.heap.size := by omega
          have zv277 : v275.heap.size ≤ v277.heap.size := Below.size j278
          refine hK _ _ ⟨fun _ _ => fun p hp => Below.block (later j10 (later j238 (later j273 (later j276 j278)))) p hp, ?_⟩
          clear hK K
          try simp only [Act.put, zp]
          refine stepC (i := 12) (L := #[zT,zT,zT,zT,zT,zT,zT,zT,zT,zT,zT,zT,zT,zF,zF,zF,zF,zF,zF,zF,zT,zT,zF,zF,zF]) rfl (by rfl) (by kernel_rfl) (by rfl) (fun K hK => ?_)
          go_simp
          go_at_call 40
          refine (Ceil_all v277 m.S.s m.W.s m.S.A m.W.A m.S.n m.S.c m.W.n m.W.c m.S.xs m.W.xs m.S.e m.W.e (MRows.on Rm (later j2 (later j8 (later j10 (later j238 (later j273 (later j276 j278))))))).S (MRows.on Rm (later j2 (later j8 (later j10 (later j238 (later j273 (later j276 j278))))))).W 0 r2 q2 H2.out).mono ?_
          rintro e' v279 ⟨G2, m2, o2, rfl, _, j280, I2⟩
          have zv279 : v277.heap.size ≤ v279.heap.size := Below.size j280
          refine hK _ _ ⟨fun _ _ => fun p hp => Below.block (later j10 (later j238 (later j273 (later j276 (later j278 j280))))) p hp, ?_⟩
          clear hK K
          try simp only [Act.put, zp]
          refine zC 13 #[zT,zT,zT,zT,zT,zT,zT,zT,zT,zT,zT,zT,zT,zT,zF,zF,zF,zF,zF,zF,zT,zT,zF,zF,zF] ?_ rfl ?hy237 ?rest237
          case hy237 => intro w; go_simp; (try with_reducible rfl)
          try simp only [Act.put, zp]
          refine zC 14 #[zT,zT,zT,zT,zT,zT,zT,zT,zT,zT,zT,zT,zT,zT,zT,zF,zF,zF,zF,zF,zT,zT,zF,zF,zF] ?_ rfl ?hy238 ?rest238
          case hy238 => intro w; go_simp; (try with_reducible rfl)
          try simp only [Act.put, zp]
          refine stepC (i := 15) (L := #[zT,zT,zT,zT,zT,zT,zT,zT,zT,zT,zT,zT,zT,zT,zT,zT,zF,zF,zF,zF,zT,zT,zF,zF,zF]) rfl (by rfl) (by kernel_rfl) (by rfl) (fun K hK => ?_)
          go_simp
          obtain ⟨X, Y, c, hX⟩ := bothR ⟨r1.neg, G1, m1, o1, r1.e, canon 4294967296 r1.m⟩ ⟨r2.neg, G2, m2, o2, r2.e, canon 4294967296 r2.m⟩ q1 q2
          go_at_call 60
          refine (both1_any v279 ⟨r1.neg, G1, m1, o1, r1.e, canon 4294967296 r1.m⟩ ⟨r2.neg, G2, m2, o2, r2.e, canon 4294967296 r2.m⟩ q1 q2 (v275.heap.size + 1) (v275.heap.size) (Nat.lt_of_lt_of_le sE (Below.size j280)) (Nat.lt_of_lt_of_le sD (Below.size j280)) (box_later E_ j280 sE) (box_later D_ j280 sD) X Y c hX).mono ?_
          rintro e' v281 ⟨rfl, j282⟩
          have HX := Lib.hid hX
          clear hX
          have zv281 : v279.heap.size ≤ v281.heap.size := Below.size j282
          refine hK _ _ ⟨fun _ _ => fun p hp => Below.block (later j10 (later j238 (later j273 (later j276 (later j278 (later j280 j282)))))) p hp, ?_⟩
          clear hK K
          try simp only [Act.put, zp]
          refine zC 16 #[zT,zT,zT,zT,zT,zT,zT,zT,zT,zT,zT,zT,zT,zT,zT,zT,zT,zF,zF,zF,zT,zT,zF,zF,zF] ?_ rfl ?hy240 ?rest240
          case hy240 => intro w; go_simp; (try with_reducible rfl)
          try simp only [Act.put, zp]
          refine zC 17 #[zT,zT,zT,zT,zT,zT,zT,zT,zT,zT,zT,zT,zT,zT,zT,zT,zT,zT,zF,zF,zT,zT,zF,zF,zF] ?_ rfl ?hy241 ?rest241
          case hy241 => intro w; go_simp; (try with_reducible rfl)
          try simp only [Act.put, zp]
          refine zC 18 #[zT,zT,zT,zT,zT,zT,zT,zT,zT,zT,zT,zT,zT,zT,zT,zT,zT,zT,zT,zF,zT,zT,zF,zF,zF] ?_ rfl ?hy242 ?rest242
          case hy242 => intro w; go_simp; (try with_reducible rfl)
          try simp only [Act.put, zp]
          refine zC 19 #[zT,zT,zT,zT,zT,zT,zT,zT,zT,zT,zT,zT,zT,zT,zT,zT,zT,zT,zT,zT,zT,zT,zF,zF,zF] ?_ rfl ?hy243 ?rest243
          case hy243 => intro w; go_simp; (try with_reducible rfl)
          try simp only [Act.put, zp]
          have O1 : OffD v281 v7.heap.size (v237.heap.size) (v9.heap.size) ⟨r1.neg, G1, m1, o1, r1.e, canon 4294967296 r1.m⟩ := OffD.of (d := ⟨r1.neg, G1, m1, o1, r1.e, canon 4294967296 r1.m⟩) (Ints.below I1 (later j278 (later j280 j282)) (Nat.le_refl _)) (by omega) (by omega) (by omega) (by omega)
          have O2 : OffD v281 v7.heap.size (v237.heap.size) (v9.heap.size) ⟨r2.neg, G2, m2, o2, r2.e, canon 4294967296 r2.m⟩ := OffD.of (d := ⟨r2.neg, G2, m2, o2, r2.e, canon 4294967296 r2.m⟩) (Ints.below I2 j282 (Nat.le_refl _)) (by omega) (by omega) (by omega) (by omega)
          obtain ⟨OX, OY⟩ := HX.out.all (P := OffD v281 v7.heap.size (v237.heap.size) (v9.heap.size)) O1 O2 (OffD.zero ..)
          exact leafC ⟨.tuple #[.agg #[.bool r1.neg, .slice G1 m1 o1, .int .i64 r1.e], .int .i64 q1], .agg #[.bool r1.neg, .slice G1 m1 o1, .int .i64 r1.e], .int .i64 q1, .func (.func 60) #[] #[.pointer (some ⟨v275.heap.size + 1, 0, none⟩), .pointer (some ⟨v275.heap.size, 0, none⟩)], .tuple #[.agg #[.bool r2.neg, .slice G2 m2 o2, .int .i64 r2.e], .int .i64 q2], .agg #[.bool r2.neg, .slice G2 m2 o2, .int .i64 r2.e], .int .i64 q2, .tuple #[.agg #[.bool X.s, .slice X.A X.n X.c, .int .i64 X.e], .agg #[.bool Y.s, .slice Y.A Y.n Y.c, .int .i64 Y.e], .int .i64 c], .tuple #[.agg #[.bool X.s, .slice X.A X.n X.c, .int .i64 X.e], .agg #[.bool Y.s, .slice Y.A Y.n Y.c, .int .i64 Y.e], .int .i64 c], v237.heap.size, v9.heap.size, X, Y, c, rfl, by omega, by omega, by omega, (box_later B6 (later j276 (later j278 (later j280 j282))) s274), (box_later B7 (later j273 (later j276 (later j278 (later j280 j282)))) s239), (later j10 (later j238 (later j273 (later j276 (later j278 (later j280 j282)))))), Lib.hid (bothN HX.out ⟨rfl, rfl, rfl⟩ ⟨rfl, rfl, rfl⟩), OX, OY⟩
end Ma
end Go.Proofs.YtmbppgjhdcmckaaDoor