/- headcountref06.Split, Check: walks (printed by a program of mine). -/
/- headcountref01.Of, headcountref02.Of: walks. -/
import Derived.Test.YtlbkepiflhchdaaDoorBn28
import Derived.Test.YtlbkepiflhchdaaDoorBn18
import Derived.Test.YtlbkepiflhchdaaDoorBn09
namespace Go.Proofs.YtlbkepiflhchdaaDoor
open Go.RowKit
namespace Ma
open Dp Dy
theorem RCheckM_any (w : World) (m : Mv) (hR : MRows w 0 w.heap.size m) (k : Int) (hk : chkM m = k) :
    Calls Tryd.prog 59 #[.agg #[.bool m.S.s, .slice m.S.A m.S.n m.S.c, .int .i64 m.S.e, .bool m.W.s, .slice m.W.A m.W.n m.W.c, .int .i64 m.W.e, .bool m.C.s, .slice m.C.A m.C.n m.C.c, .int .i64 m.C.e, .bool m.A.s, .slice m.A.A m.A.n m.A.c, .int .i64 m.A.e]] w fun e w' => e = .returned (.int .i64 k) ∧ Below w.heap.size w w' := by
  have HK := Lib.hid hk
  clear hk
  generalize hw1 : w.alloc (.cells #[.bool m.S.s, .slice m.S.A m.S.n m.S.c, .int .i64 m.S.e, .bool m.W.s, .slice m.W.A m.W.n m.W.c, .int .i64 m.W.e, .bool m.C.s, .slice m.C.A m.C.n m.C.c, .int .i64 m.C.e, .bool m.A.s, .slice m.A.A m.A.n m.A.c, .int .i64 m.A.e] 39) = w1
  have hBL : Below w.heap.size w w1 := by rw [← hw1]; exact (Below.refl _ w).alloc (Nat.le_refl _) _
  have hM : MBox w1 w.heap.size m := by rw [← hw1]; exact heap_alloc_last _ _
  have Rm : MRows w1 0 w1.heap.size m := hR.on hBL
  obtain ⟨g, hg⟩ : ∃ g, mayMB m = g := ⟨_, rfl⟩
  have HG := Lib.hid hg
  clear hg
  obtain ⟨⟨k0, k1, k2, k3, k4, k5, k6, k7, k8, k9, k10, k11⟩, kf⟩ := MBox.cells hM
  go_enter Tryd.func59, Tryd.ntmps59
  go_wp2_with fail
  try clear hw1
  refine (RMay_any w1 m Rm g HG.out).mono ?_
  rintro e w2 ⟨rfl, hB⟩
  have hb2 := hBL.trans (hB.mono hBL.size)
  clear k0 k1 k2 k3 k4 k5 k6 k7 k8 k9 k10 k11 kf
  cases g
  · have h8 : (8 : Int) = k := by
      rw [← HK.out, chk_not]
      intro hm
      have := (mayMB_iff m).2 hm
      rw [HG.out] at this
      cases this
    subst h8
    go_wp2
    go_ret
    exact ⟨rfl, hb2⟩
  · have h0 : (0 : Int) = k := by
      rw [← HK.out, chk_may ((mayMB_iff m).1 HG.out)]
    subst h0
    go_wp2
    go_ret
    exact ⟨rfl, hb2⟩
theorem halfX_two {s : Bool} {xs : List Int} {e : Int} {r : Dn} {q : Int} (h1 : MayD s xs e) (h : halfX s xs e = (r, q)) : q = 0 ∨ q = 10 := by
  rw [halfX_ok h1] at h
  rcases half_cases (dn s xs e) with k | k
  · rw [h] at k
    exact .inl k
  · rw [h] at k
    injection k with _ k
    exact .inr k
/-- Each row lies in one of two ranges. -/
def TwoR (w : World) (lo hi lo' hi' : Nat) (m : Mv) : Prop := ∀ x, x < 4 → Ints w lo hi .u32 (m.get x).A (m.get x).n (m.get x).xs ∨ Ints w lo' hi' .u32 (m.get x).A (m.get x).n (m.get x).xs
theorem TwoR.below {w w' : World} {lo hi lo' hi' B : Nat} {m : Mv} (h : TwoR w lo hi lo' hi' m) (hb : Below B w w') (h1 : hi ≤ B) (h2 : hi' ≤ B) : TwoR w' lo hi lo' hi' m := fun x hx => (h x hx).imp (fun k => k.below hb h1) (fun k => k.below hb h2)
theorem TwoR.rows {w : World} {lo hi lo' hi' : Nat} {m : Mv} (h : TwoR w lo hi lo' hi' m) (h1 : hi ≤ w.heap.size) (h2 : hi' ≤ w.heap.size) : MRows w 0 w.heap.size m :=
  have k : ∀ x, x < 4 → Ints w 0 w.heap.size .u32 (m.get x).A (m.get x).n (m.get x).xs := fun x hx => (h x hx).elim (fun k => k.more (Nat.zero_le _) h1) (fun k => k.more (Nat.zero_le _) h2)
  ⟨k 0 (by decide), k 1 (by decide), k 2 (by decide), k 3 (by decide)⟩
set_option maxHeartbeats 25600000 in
set_option maxRecDepth 100000 in
/-- What the document keeps and sends: no new memory but the halves. -/
theorem RSplit_num (w : World) (m : Mv) {lo hi : Nat} (hL : MRows w lo hi m) (hhi : hi ≤ w.heap.size) (kR sR : Nat → Dn) (code : Int) (hs : splitM m = ((kR, sR), code)) :
    Calls Tryd.prog 55 #[.agg #[.bool m.S.s, .slice m.S.A m.S.n m.S.c, .int .i64 m.S.e, .bool m.W.s, .slice m.W.A m.W.n m.W.c, .int .i64 m.W.e, .bool m.C.s, .slice m.C.A m.C.n m.C.c, .int .i64 m.C.e, .bool m.A.s, .slice m.A.A m.A.n m.A.c, .int .i64 m.A.e]] w fun e w' => ∃ k s : Mv, e = .returned (.tuple #[.agg #[.bool k.S.s, .slice k.S.A k.S.n k.S.c, .int .i64 k.S.e, .bool k.W.s, .slice k.W.A k.W.n k.W.c, .int .i64 k.W.e, .bool k.C.s, .slice k.C.A k.C.n k.C.c, .int .i64 k.C.e, .bool k.A.s, .slice k.A.A k.A.n k.A.c, .int .i64 k.A.e], .agg #[.bool s.S.s, .slice s.S.A s.S.n s.S.c, .int .i64 s.S.e, .bool s.W.s, .slice s.W.A s.W.n s.W.c, .int .i64 s.W.e, .bool s.C.s, .slice s.C.A s.C.n s.C.c, .int .i64 s.C.e, .bool s.A.s, .slice s.A.A s.A.n s.A.c, .int .i64 s.A.e], .int .i64 code]) ∧ Below w.heap.size w w' ∧ IsM kR k ∧ IsM sR s ∧ TwoR w' lo hi w.heap.size w'.heap.size k ∧ MRows w' w.heap.size w'.heap.size s := by
  have hR : MRows w 0 w.heap.size m := hL.more (Nat.zero_le _) hhi
  generalize hw1 : ((w.alloc (.cells #[.bool m.S.s, .slice m.S.A m.S.n m.S.c, .int .i64 m.S.e, .bool m.W.s, .slice m.W.A m.W.n m.W.c, .int .i64 m.W.e, .bool m.C.s, .slice m.C.A m.C.n m.C.c, .int .i64 m.C.e, .bool m.A.s, .slice m.A.A m.A.n m.A.c, .int .i64 m.A.e] 39)).alloc (.cells #[.bool false, .slice none 0 0, .int .i64 0, .bool false, .slice none 0 0, .int .i64 0, .bool false, .slice none 0 0, .int .i64 0, .bool false, .slice none 0 0, .int .i64 0] 39)).alloc (.cells #[.bool false, .slice none 0 0, .int .i64 0, .bool false, .slice none 0 0, .int .i64 0, .bool false, .slice none 0 0, .int .i64 0, .bool false, .slice none 0 0, .int .i64 0] 39) = w1
  obtain ⟨hM, hZ, hY, hBL, lo1, hi1⟩ := boxes3 w _ _ _ hw1
  replace hM : MBox w1 w.heap.size m := hM
  replace hZ : MBox w1 (w.heap.size + 1) ZM := hZ
  replace hY : MBox w1 (w.heap.size + 1 + 1) ZM := hY
  replace hBL : Below w.heap.size w w1 := hBL
  have Rm : MRows w1 0 w1.heap.size m := hR.on hBL
  have HR := Lib.hid hs
  clear hs
  obtain ⟨g, hg⟩ : ∃ g, mayMB m = g := ⟨_, rfl⟩
  have HG := Lib.hid hg
  clear hg
  go_enter Tryd.func55, Tryd.ntmps55
  obtain ⟨⟨q_1_0, q_1_1, q_1_2, q_1_3, q_1_4, q_1_5, q_1_6, q_1_7, q_1_8, q_1_9, q_1_10, q_1_11⟩, q_1f⟩ := MBox.cells hM
  go_wp2_with fail
  refine (RMay_any w1 m Rm g HG.out).mono ?_
  rintro e' w_2 ⟨rfl, hB⟩
  clear q_1_0 q_1_1 q_1_2 q_1_3 q_1_4 q_1_5 q_1_6 q_1_7 q_1_8 q_1_9 q_1_10 q_1_11 q_1f
  have lw_2 : w1.heap.size ≤ w_2.heap.size := hB.size
  replace hM := box_on hM hB (by omega)
  replace hZ := box_on hZ hB (by omega)
  replace hY := box_on hY hB (by omega)
  replace Rm := MRows.on Rm hB
  replace hBL := hBL.trans (hB.mono (by omega))
  try clear hw1
  clear hB
  cases g
  · skip
    have hcode : ((zR, zR), (8 : Int)) = ((kR, sR), code) := by
      rw [← HR.out]
      unfold splitM
      rw [if_neg fun k => ?_]
      have := (mayMB_iff m).2 k
      rw [HG.out] at this
      cases this
    injection hcode with h1 h2
    injection h1 with h1 h3
    subst h1 h2 h3
    obtain ⟨⟨q_3_0, q_3_1, q_3_2, q_3_3, q_3_4, q_3_5, q_3_6, q_3_7, q_3_8, q_3_9, q_3_10, q_3_11⟩, q_3f⟩ := MBox.cells hZ
    obtain ⟨⟨q_4_0, q_4_1, q_4_2, q_4_3, q_4_4, q_4_5, q_4_6, q_4_7, q_4_8, q_4_9, q_4_10, q_4_11⟩, q_4f⟩ := MBox.cells hY
    go_wp2
    obtain ⟨U1, M1, hc1, hM1, hX1, hb1, hf1, _, _⟩ := zero_to hZ
    rw [hc1]
    obtain ⟨U, M, hc2, hMe, hX2, hb2, hf2, _, _⟩ := zero_to (show MBox U1 (w.heap.size + 1 + 1) ZM from (hf1 _ (by omega)).trans hY)
    rw [hc2]
    replace hX1 : MBox U (w.heap.size + 1) M := by rw [hMe, ← hM1]; exact (hf2 _ (by omega)).trans hX1
    have hQ := hb2 _ _ (hb1 _ _ hBL (by omega)) (by omega)
    clear q_3_0 q_3_1 q_3_2 q_3_3 q_3_4 q_3_5 q_3_6 q_3_7 q_3_8 q_3_9 q_3_10 q_3_11 q_3f q_4_0 q_4_1 q_4_2 q_4_3 q_4_4 q_4_5 q_4_6 q_4_7 q_4_8 q_4_9 q_4_10 q_4_11 q_4f
    clear hc1 hc2
    obtain ⟨⟨k0, k1, k2, k3, k4, k5, k6, k7, k8, k9, k10, k11⟩, kf⟩ := MBox.cells hX1
    obtain ⟨⟨y0, y1, y2, y3, y4, y5, y6, y7, y8, y9, y10, y11⟩, yf⟩ := MBox.cells hX2
    refine bodyPost_ret (v := .tuple #[.agg #[.bool M.S.s, .slice M.S.A M.S.n M.S.c, .int .i64 M.S.e, .bool M.W.s, .slice M.W.A M.W.n M.W.c, .int .i64 M.W.e, .bool M.C.s, .slice M.C.A M.C.n M.C.c, .int .i64 M.C.e, .bool M.A.s, .slice M.A.A M.A.n M.A.c, .int .i64 M.A.e], .agg #[.bool M.S.s, .slice M.S.A M.S.n M.S.c, .int .i64 M.S.e, .bool M.W.s, .slice M.W.A M.W.n M.W.c, .int .i64 M.W.e, .bool M.C.s, .slice M.C.A M.C.n M.C.c, .int .i64 M.C.e, .bool M.A.s, .slice M.A.A M.A.n M.A.c, .int .i64 M.A.e], .int .i64 8]) (by simp [results, Tryd.results55, go_sem, k0, k1, k2, k3, k4, k5, k6, k7, k8, k9, k10, k11, y0, y1, y2, y3, y4, y5, y6, y7, y8, y9, y10, y11]) rfl ⟨M, M, rfl, hQ, ?_⟩
    rw [hMe]
    exact ⟨IsM.zero, IsM.zero, four (.inl (Ints.nil_ ..)) (.inl (Ints.nil_ ..)) (.inl (Ints.nil_ ..)) (.inl (Ints.nil_ ..)), ZM_rows ..⟩
  · skip
    have mm := Lib.hid ((mayMB_iff m).1 HG.out)
    obtain ⟨r0, q0, hx0⟩ : ∃ r q, halfX m.S.s m.S.xs m.S.e = (r, q) := ⟨_, _, rfl⟩
    have HX0 := Lib.hid hx0
    have c0 := Lib.hid (halfX_two (mm.out 0 (by decide)) hx0)
    clear hx0
    obtain ⟨r1, q1, hx1⟩ : ∃ r q, halfX m.W.s m.W.xs m.W.e = (r, q) := ⟨_, _, rfl⟩
    have HX1 := Lib.hid hx1
    have c1 := Lib.hid (halfX_two (mm.out 1 (by decide)) hx1)
    clear hx1
    obtain ⟨⟨q_5_0, q_5_1, q_5_2, q_5_3, q_5_4, q_5_5, q_5_6, q_5_7, q_5_8, q_5_9, q_5_10, q_5_11⟩, q_5f⟩ := MBox.cells hM
    go_wp2_with fail
    refine (rHalf_all w_2 m.S.s m.S.A m.S.n m.S.c m.S.xs m.S.e (MRows.get Rm 0) r0 q0 HX0.out).mono ?_
    rintro e' w_6 ⟨A0, n0, d0, rfl, hc0, hB, hI⟩
    clear q_5_0 q_5_1 q_5_2 q_5_3 q_5_4 q_5_5 q_5_6 q_5_7 q_5_8 q_5_9 q_5_10 q_5_11 q_5f
    have lw_6 : w_2.heap.size ≤ w_6.heap.size := hB.size
    replace hM := box_on hM hB (by omega)
    replace hZ := box_on hZ hB (by omega)
    replace hY := box_on hY hB (by omega)
    replace Rm := MRows.on Rm hB
    replace hBL := hBL.trans (hB.mono (by omega))
    have I0 : Ints _ (w.heap.size + 3) _ .u32 A0 n0 (canon 4294967296 r0.m) := Ints.more hI (by omega) (Nat.le_refl _)
    clear hI
    clear hB
    have hB := (Below.refl w_6.heap.size w_6).alloc (Nat.le_refl _) (.cells #[.bool r0.neg, .slice A0 n0 d0, .int .i64 r0.e] 24)
    have hD0 := heap_alloc_last w_6 (.cells #[.bool r0.neg, .slice A0 n0 d0, .int .i64 r0.e] 24)
    have mw_7 : w_6.heap.size < (w_6.alloc (.cells #[.bool r0.neg, .slice A0 n0 d0, .int .i64 r0.e] 24)).heap.size := by simp
    generalize hww_7 : w_6.alloc (.cells #[.bool r0.neg, .slice A0 n0 d0, .int .i64 r0.e] 24) = w_7 at *
    have lw_7 : w_6.heap.size ≤ w_7.heap.size := hB.size
    replace hM := box_on hM hB (by omega)
    replace hZ := box_on hZ hB (by omega)
    replace hY := box_on hY hB (by omega)
    replace Rm := MRows.on Rm hB
    replace I0 := (Ints.below I0 hB (Nat.le_refl _)).more (Nat.le_refl _) hB.size
    replace hBL := hBL.trans (hB.mono (by omega))
    clear hB
    obtain ⟨⟨q_8_0, q_8_1, q_8_2, q_8_3, q_8_4, q_8_5, q_8_6, q_8_7, q_8_8, q_8_9, q_8_10, q_8_11⟩, q_8f⟩ := MBox.cells hM
    go_wp2_with fail
    refine (rHalf_all w_7 m.W.s m.W.A m.W.n m.W.c m.W.xs m.W.e (MRows.get Rm 1) r1 q1 HX1.out).mono ?_
    rintro e' w_9 ⟨A1, n1, d1, rfl, hc1, hB, hI⟩
    clear q_8_0 q_8_1 q_8_2 q_8_3 q_8_4 q_8_5 q_8_6 q_8_7 q_8_8 q_8_9 q_8_10 q_8_11 q_8f
    have lw_9 : w_7.heap.size ≤ w_9.heap.size := hB.size
    replace hM := box_on hM hB (by omega)
    replace hZ := box_on hZ hB (by omega)
    replace hY := box_on hY hB (by omega)
    replace Rm := MRows.on Rm hB
    replace I0 := (Ints.below I0 hB (Nat.le_refl _)).more (Nat.le_refl _) hB.size
    replace hD0 := (hB.block _ (by omega)).trans hD0
    replace hBL := hBL.trans (hB.mono (by omega))
    have I1 : Ints _ (w.heap.size + 3) _ .u32 A1 n1 (canon 4294967296 r1.m) := Ints.more hI (by omega) (Nat.le_refl _)
    clear hI
    try clear hww_7
    clear hB
    have hB := (Below.refl w_9.heap.size w_9).alloc (Nat.le_refl _) (.cells #[.bool r1.neg, .slice A1 n1 d1, .int .i64 r1.e] 24)
    have hD1 := heap_alloc_last w_9 (.cells #[.bool r1.neg, .slice A1 n1 d1, .int .i64 r1.e] 24)
    have mw_10 : w_9.heap.size < (w_9.alloc (.cells #[.bool r1.neg, .slice A1 n1 d1, .int .i64 r1.e] 24)).heap.size := by simp
    generalize hww_10 : w_9.alloc (.cells #[.bool r1.neg, .slice A1 n1 d1, .int .i64 r1.e] 24) = w_10 at *
    have lw_10 : w_9.heap.size ≤ w_10.heap.size := hB.size
    replace hM := box_on hM hB (by omega)
    replace hZ := box_on hZ hB (by omega)
    replace hY := box_on hY hB (by omega)
    replace Rm := MRows.on Rm hB
    replace I0 := (Ints.below I0 hB (Nat.le_refl _)).more (Nat.le_refl _) hB.size
    replace I1 := (Ints.below I1 hB (Nat.le_refl _)).more (Nat.le_refl _) hB.size
    replace hD0 := (hB.block _ (by omega)).trans hD0
    replace hBL := hBL.trans (hB.mono (by omega))
    clear hB
    replace c0 := c0.out
    replace c1 := c1.out
    rcases c0 with rfl | rfl <;> rcases c1 with rfl | rfl
    · skip
      have hmax : ∀ W : World, (Builtin.max_ #[3, 3] 3 #[.int .i64 0, .int .i64 0]).run Tryd.prog W = .ok (.int .i64 0) W := fun W => run_max2 W _ _ _ _ _ (by decide)
      have hcode : ((fun x => if x = 0 then r0 else if x = 1 then r1 else dnM m x, fun x => if x = 0 then r0 else if x = 1 then r1 else Dn.zero), (0 : Int)) = ((kR, sR), code) := by
        rw [← HR.out]
        unfold splitM
        rw [if_pos mm.out, HX0.out, HX1.out, if_pos ⟨rfl, rfl⟩]
      injection hcode with h1 h2
      injection h1 with h1 h3
      subst h2
      have hI : Hid (IsM (dnM m) m) := Lib.hid (IsM.of hR mm.out)
      have HKR := Lib.hid h1
      have HSR := Lib.hid h3
      clear h1 h3
      go_wp2_with fail
      try clear hww_10
      have S0 : Hid (∀ w' : World, Keeps w_10 w' → True) := Lib.hid fun _ _ => trivial
      clear S0
      refine region_E (fun W' : World => ∀ p, p < w_10.heap.size → p ≠ w.heap.size + 1 → p ≠ w.heap.size + 1 + 1 → W'.heap[p]? = w_10.heap[p]?) [] (m := 13) (L := #[false, false, false, false, false, false, false, false, false, false, false, false, false]) (by kernel_rfl) (by rfl) (by rfl) ?_
      have kp_ : Keeps w_10 w_10.drew := fun _ _ => rfl
      have hB : Below w_10.heap.size w_10 w_10.drew := (Below.refl _ _).drew
      replace Rm : MRows w_10.drew 0 w_10.drew.heap.size _ := MRows.on Rm hB
      replace I0 := (Ints.below I0 hB (Nat.le_refl _)).more (Nat.le_refl _) hB.size
      replace I1 := (Ints.below I1 hB (Nat.le_refl _)).more (Nat.le_refl _) hB.size
      replace hBL := hBL.trans (hB.mono (by omega))
      have lw_11 : w_10.heap.size ≤ w_10.drew.heap.size := hB.size
      clear hB
      generalize w_10.drew = w_11 at *
      have kq_ : ∀ p, p < w_10.heap.size → p ≠ w.heap.size + 1 → p ≠ w.heap.size + 1 + 1 → w_11.heap[p]? = w_10.heap[p]? := fun p hp _ _ => kp_ p hp
      refine readE (i := 0) (L := #[true, false, false, false, false, false, false, false, false, false, false, false, false]) (v := .agg #[.bool r0.neg, .slice A0 n0 d0, .int .i64 r0.e]) rfl (by rfl) (by kernel_rfl) (by kernel_rfl) (by kernel_rfl) (fun _ _ _ h => h) (by assumption) (by rfl) ?yr_12 ?zr_12
      case yr_12 =>
        intro w' h1
        obtain ⟨⟨k1, k2, k3⟩, _⟩ := boxD ((h1 _ (by omega) (by omega) (by omega)).trans hD0)
        go_simp
      try simp only [Act.put, List.setIfInBounds_toArray, List.set_cons_zero, List.set_cons_succ]
      refine readE (i := 1) (L := #[true, true, false, false, false, false, false, false, false, false, false, false, false]) (v := .agg #[.bool r1.neg, .slice A1 n1 d1, .int .i64 r1.e]) rfl (by rfl) (by kernel_rfl) (by kernel_rfl) (by kernel_rfl) (fun _ _ _ h => h) (by assumption) (by rfl) ?yr_13 ?zr_13
      case yr_13 =>
        intro w' h1
        obtain ⟨⟨k1, k2, k3⟩, _⟩ := boxD ((h1 _ (by omega) (by omega) (by omega)).trans hD1)
        go_simp
      try simp only [Act.put, List.setIfInBounds_toArray, List.set_cons_zero, List.set_cons_succ]
      refine pureE (i := 2) (L := #[true, true, true, false, false, false, false, false, false, false, false, false, false]) (v := ?_) rfl (by rfl) (by kernel_rfl) (by kernel_rfl) (by kernel_rfl) (fun _ _ _ h => h) (by rfl) ?hy3 ?rest3
      case hy3 => intro w; go_simp; (try with_reducible rfl)
      try simp only [Act.put, List.setIfInBounds_toArray, List.set_cons_zero, List.set_cons_succ]
      refine readE (i := 3) (L := #[true, true, true, true, false, false, false, false, false, false, false, false, false]) (v := .agg #[.bool m.C.s, .slice m.C.A m.C.n m.C.c, .int .i64 m.C.e]) rfl (by rfl) (by kernel_rfl) (by kernel_rfl) (by kernel_rfl) (fun _ _ _ h => h) (by assumption) (by rfl) ?yr_14 ?zr_14
      case yr_14 =>
        intro w' h1
        obtain ⟨⟨k0, k1, k2, k3, k4, k5, k6, k7, k8, k9, k10, k11⟩, kf⟩ := MBox.cells ((h1 _ (by omega) (by omega) (by omega)).trans hM)
        go_simp
      try simp only [Act.put, List.setIfInBounds_toArray, List.set_cons_zero, List.set_cons_succ]
      refine pureE (i := 4) (L := #[true, true, true, true, true, false, false, false, false, false, false, false, false]) (v := ?_) rfl (by rfl) (by kernel_rfl) (by kernel_rfl) (by kernel_rfl) (fun _ _ _ h => h) (by rfl) ?hy5 ?rest5
      case hy5 => intro w; go_simp; (try with_reducible rfl)
      try simp only [Act.put, List.setIfInBounds_toArray, List.set_cons_zero, List.set_cons_succ]
      refine readE (i := 5) (L := #[true, true, true, true, true, true, false, false, false, false, false, false, false]) (v := .agg #[.bool m.A.s, .slice m.A.A m.A.n m.A.c, .int .i64 m.A.e]) rfl (by rfl) (by kernel_rfl) (by kernel_rfl) (by kernel_rfl) (fun _ _ _ h => h) (by assumption) (by rfl) ?yr_15 ?zr_15
      case yr_15 =>
        intro w' h1
        obtain ⟨⟨k0, k1, k2, k3, k4, k5, k6, k7, k8, k9, k10, k11⟩, kf⟩ := MBox.cells ((h1 _ (by omega) (by omega) (by omega)).trans hM)
        go_simp
      try simp only [Act.put, List.setIfInBounds_toArray, List.set_cons_zero, List.set_cons_succ]
      refine pureE (i := 6) (L := #[true, true, true, true, true, true, true, false, false, false, false, false, false]) (v := ?_) rfl (by rfl) (by kernel_rfl) (by kernel_rfl) (by kernel_rfl) (fun _ _ _ h => h) (by rfl) ?hy7 ?rest7
      case hy7 => intro w; go_simp; (try with_reducible rfl)
      try simp only [Act.put, List.setIfInBounds_toArray, List.set_cons_zero, List.set_cons_succ]
      refine readE (i := 7) (L := #[true, true, true, true, true, true, true, true, false, false, false, false, false]) (v := .agg #[.bool r0.neg, .slice A0 n0 d0, .int .i64 r0.e]) rfl (by rfl) (by kernel_rfl) (by kernel_rfl) (by kernel_rfl) (fun _ _ _ h => h) (by assumption) (by rfl) ?yr_16 ?zr_16
      case yr_16 =>
        intro w' h1
        obtain ⟨⟨k1, k2, k3⟩, _⟩ := boxD ((h1 _ (by omega) (by omega) (by omega)).trans hD0)
        go_simp
      try simp only [Act.put, List.setIfInBounds_toArray, List.set_cons_zero, List.set_cons_succ]
      refine readE (i := 8) (L := #[true, true, true, true, true, true, true, true, true, false, false, false, false]) (v := .agg #[.bool r1.neg, .slice A1 n1 d1, .int .i64 r1.e]) rfl (by rfl) (by kernel_rfl) (by kernel_rfl) (by kernel_rfl) (fun _ _ _ h => h) (by assumption) (by rfl) ?yr_17 ?zr_17
      case yr_17 =>
        intro w' h1
        obtain ⟨⟨k1, k2, k3⟩, _⟩ := boxD ((h1 _ (by omega) (by omega) (by omega)).trans hD1)
        go_simp
      try simp only [Act.put, List.setIfInBounds_toArray, List.set_cons_zero, List.set_cons_succ]
      refine pureE (i := 9) (L := #[true, true, true, true, true, true, true, true, true, true, false, false, false]) (v := ?_) rfl (by rfl) (by kernel_rfl) (by kernel_rfl) (by kernel_rfl) (fun _ _ _ h => h) (by rfl) ?hy10 ?rest10
      case hy10 => intro w; go_simp; (try with_reducible rfl)
      try simp only [Act.put, List.setIfInBounds_toArray, List.set_cons_zero, List.set_cons_succ]
      have hZ2 : MBox w_11 (w.heap.size + 1) ZM := (kp_ _ (by omega)).trans hZ
      have hY2 : MBox w_11 (w.heap.size + 1 + 1) ZM := (kp_ _ (by omega)).trans hY
      obtain ⟨⟨z0, z1, z2, z3, z4, z5, z6, z7, z8, z9, z10, z11⟩, zf⟩ := MBox.cells hZ2
      refine stepK (i := 10) (L := #[true, true, true, true, true, true, true, true, true, true, true, false, false]) rfl (by rfl) (by kernel_rfl) (by rfl) (fun K hK => ?_)
      go_simp
      refine hK _ _ ⟨fun _ h p hp h1 h2 => (far_all h1 ⟨⟨r0.neg, A0, n0, d0, r0.e, canon 4294967296 r0.m⟩, ⟨r1.neg, A1, n1, d1, r1.e, canon 4294967296 r1.m⟩, m.C, m.A⟩).trans (h p hp h1 h2), ?_⟩
      clear hK K z0 z1 z2 z3 z4 z5 z6 z7 z8 z9 z10 z11 zf
      try simp only [Act.put, List.setIfInBounds_toArray, List.set_cons_zero, List.set_cons_succ]
      obtain ⟨KM, hKM⟩ : ∃ M : Mv, M = ⟨⟨r0.neg, A0, n0, d0, r0.e, canon 4294967296 r0.m⟩, ⟨r1.neg, A1, n1, d1, r1.e, canon 4294967296 r1.m⟩, m.C, m.A⟩ := ⟨_, rfl⟩
      obtain ⟨SM, hSM⟩ : ∃ M : Mv, M = ⟨⟨r0.neg, A0, n0, d0, r0.e, canon 4294967296 r0.m⟩, ⟨r1.neg, A1, n1, d1, r1.e, canon 4294967296 r1.m⟩, ZM.C, ZM.A⟩ := ⟨_, rfl⟩
      have hX1 : MBox ((((((((((((w_11.setCell ⟨w.heap.size + 1, 0, none⟩ (.bool r0.neg)).setCell ⟨w.heap.size + 1, 1, none⟩ (.slice A0 n0 d0)).setCell ⟨w.heap.size + 1, 2, none⟩ (.int .i64 r0.e)).setCell ⟨w.heap.size + 1, 3, none⟩ (.bool r1.neg)).setCell ⟨w.heap.size + 1, 4, none⟩ (.slice A1 n1 d1)).setCell ⟨w.heap.size + 1, 5, none⟩ (.int .i64 r1.e)).setCell ⟨w.heap.size + 1, 6, none⟩ (.bool m.C.s)).setCell ⟨w.heap.size + 1, 7, none⟩ (.slice m.C.A m.C.n m.C.c)).setCell ⟨w.heap.size + 1, 8, none⟩ (.int .i64 m.C.e)).setCell ⟨w.heap.size + 1, 9, none⟩ (.bool m.A.s)).setCell ⟨w.heap.size + 1, 10, none⟩ (.slice m.A.A m.A.n m.A.c)).setCell ⟨w.heap.size + 1, 11, none⟩ (.int .i64 m.A.e)) (w.heap.size + 1) KM := by rw [hKM]; exact MBox.all hZ2 ⟨⟨r0.neg, A0, n0, d0, r0.e, canon 4294967296 r0.m⟩, ⟨r1.neg, A1, n1, d1, r1.e, canon 4294967296 r1.m⟩, m.C, m.A⟩
      have hY3 : MBox ((((((((((((w_11.setCell ⟨w.heap.size + 1, 0, none⟩ (.bool r0.neg)).setCell ⟨w.heap.size + 1, 1, none⟩ (.slice A0 n0 d0)).setCell ⟨w.heap.size + 1, 2, none⟩ (.int .i64 r0.e)).setCell ⟨w.heap.size + 1, 3, none⟩ (.bool r1.neg)).setCell ⟨w.heap.size + 1, 4, none⟩ (.slice A1 n1 d1)).setCell ⟨w.heap.size + 1, 5, none⟩ (.int .i64 r1.e)).setCell ⟨w.heap.size + 1, 6, none⟩ (.bool m.C.s)).setCell ⟨w.heap.size + 1, 7, none⟩ (.slice m.C.A m.C.n m.C.c)).setCell ⟨w.heap.size + 1, 8, none⟩ (.int .i64 m.C.e)).setCell ⟨w.heap.size + 1, 9, none⟩ (.bool m.A.s)).setCell ⟨w.heap.size + 1, 10, none⟩ (.slice m.A.A m.A.n m.A.c)).setCell ⟨w.heap.size + 1, 11, none⟩ (.int .i64 m.A.e)) (w.heap.size + 1 + 1) ZM := (far_all (by omega) ⟨⟨r0.neg, A0, n0, d0, r0.e, canon 4294967296 r0.m⟩, ⟨r1.neg, A1, n1, d1, r1.e, canon 4294967296 r1.m⟩, m.C, m.A⟩).trans hY2
      have hb3 : Below w.heap.size w ((((((((((((w_11.setCell ⟨w.heap.size + 1, 0, none⟩ (.bool r0.neg)).setCell ⟨w.heap.size + 1, 1, none⟩ (.slice A0 n0 d0)).setCell ⟨w.heap.size + 1, 2, none⟩ (.int .i64 r0.e)).setCell ⟨w.heap.size + 1, 3, none⟩ (.bool r1.neg)).setCell ⟨w.heap.size + 1, 4, none⟩ (.slice A1 n1 d1)).setCell ⟨w.heap.size + 1, 5, none⟩ (.int .i64 r1.e)).setCell ⟨w.heap.size + 1, 6, none⟩ (.bool m.C.s)).setCell ⟨w.heap.size + 1, 7, none⟩ (.slice m.C.A m.C.n m.C.c)).setCell ⟨w.heap.size + 1, 8, none⟩ (.int .i64 m.C.e)).setCell ⟨w.heap.size + 1, 9, none⟩ (.bool m.A.s)).setCell ⟨w.heap.size + 1, 10, none⟩ (.slice m.A.A m.A.n m.A.c)).setCell ⟨w.heap.size + 1, 11, none⟩ (.int .i64 m.A.e)) := below_all hBL (by omega) ⟨⟨r0.neg, A0, n0, d0, r0.e, canon 4294967296 r0.m⟩, ⟨r1.neg, A1, n1, d1, r1.e, canon 4294967296 r1.m⟩, m.C, m.A⟩
      have hf3 : ∀ j, j ≠ w.heap.size + 1 → ((((((((((((w_11.setCell ⟨w.heap.size + 1, 0, none⟩ (.bool r0.neg)).setCell ⟨w.heap.size + 1, 1, none⟩ (.slice A0 n0 d0)).setCell ⟨w.heap.size + 1, 2, none⟩ (.int .i64 r0.e)).setCell ⟨w.heap.size + 1, 3, none⟩ (.bool r1.neg)).setCell ⟨w.heap.size + 1, 4, none⟩ (.slice A1 n1 d1)).setCell ⟨w.heap.size + 1, 5, none⟩ (.int .i64 r1.e)).setCell ⟨w.heap.size + 1, 6, none⟩ (.bool m.C.s)).setCell ⟨w.heap.size + 1, 7, none⟩ (.slice m.C.A m.C.n m.C.c)).setCell ⟨w.heap.size + 1, 8, none⟩ (.int .i64 m.C.e)).setCell ⟨w.heap.size + 1, 9, none⟩ (.bool m.A.s)).setCell ⟨w.heap.size + 1, 10, none⟩ (.slice m.A.A m.A.n m.A.c)).setCell ⟨w.heap.size + 1, 11, none⟩ (.int .i64 m.A.e)).heap[j]? = w_11.heap[j]? := fun j hj => far_all hj ⟨⟨r0.neg, A0, n0, d0, r0.e, canon 4294967296 r0.m⟩, ⟨r1.neg, A1, n1, d1, r1.e, canon 4294967296 r1.m⟩, m.C, m.A⟩
      have hs3 : ((((((((((((w_11.setCell ⟨w.heap.size + 1, 0, none⟩ (.bool r0.neg)).setCell ⟨w.heap.size + 1, 1, none⟩ (.slice A0 n0 d0)).setCell ⟨w.heap.size + 1, 2, none⟩ (.int .i64 r0.e)).setCell ⟨w.heap.size + 1, 3, none⟩ (.bool r1.neg)).setCell ⟨w.heap.size + 1, 4, none⟩ (.slice A1 n1 d1)).setCell ⟨w.heap.size + 1, 5, none⟩ (.int .i64 r1.e)).setCell ⟨w.heap.size + 1, 6, none⟩ (.bool m.C.s)).setCell ⟨w.heap.size + 1, 7, none⟩ (.slice m.C.A m.C.n m.C.c)).setCell ⟨w.heap.size + 1, 8, none⟩ (.int .i64 m.C.e)).setCell ⟨w.heap.size + 1, 9, none⟩ (.bool m.A.s)).setCell ⟨w.heap.size + 1, 10, none⟩ (.slice m.A.A m.A.n m.A.c)).setCell ⟨w.heap.size + 1, 11, none⟩ (.int .i64 m.A.e)).heap.size = w_11.heap.size := size_all ⟨⟨r0.neg, A0, n0, d0, r0.e, canon 4294967296 r0.m⟩, ⟨r1.neg, A1, n1, d1, r1.e, canon 4294967296 r1.m⟩, m.C, m.A⟩
      have hs4 : w_11.heap.size ≤ ((((((((((((w_11.setCell ⟨w.heap.size + 1, 0, none⟩ (.bool r0.neg)).setCell ⟨w.heap.size + 1, 1, none⟩ (.slice A0 n0 d0)).setCell ⟨w.heap.size + 1, 2, none⟩ (.int .i64 r0.e)).setCell ⟨w.heap.size + 1, 3, none⟩ (.bool r1.neg)).setCell ⟨w.heap.size + 1, 4, none⟩ (.slice A1 n1 d1)).setCell ⟨w.heap.size + 1, 5, none⟩ (.int .i64 r1.e)).setCell ⟨w.heap.size + 1, 6, none⟩ (.bool m.C.s)).setCell ⟨w.heap.size + 1, 7, none⟩ (.slice m.C.A m.C.n m.C.c)).setCell ⟨w.heap.size + 1, 8, none⟩ (.int .i64 m.C.e)).setCell ⟨w.heap.size + 1, 9, none⟩ (.bool m.A.s)).setCell ⟨w.heap.size + 1, 10, none⟩ (.slice m.A.A m.A.n m.A.c)).setCell ⟨w.heap.size + 1, 11, none⟩ (.int .i64 m.A.e)).heap.size := Nat.le_of_eq hs3.symm
      clear hs3
      generalize ((((((((((((w_11.setCell ⟨w.heap.size + 1, 0, none⟩ (.bool r0.neg)).setCell ⟨w.heap.size + 1, 1, none⟩ (.slice A0 n0 d0)).setCell ⟨w.heap.size + 1, 2, none⟩ (.int .i64 r0.e)).setCell ⟨w.heap.size + 1, 3, none⟩ (.bool r1.neg)).setCell ⟨w.heap.size + 1, 4, none⟩ (.slice A1 n1 d1)).setCell ⟨w.heap.size + 1, 5, none⟩ (.int .i64 r1.e)).setCell ⟨w.heap.size + 1, 6, none⟩ (.bool m.C.s)).setCell ⟨w.heap.size + 1, 7, none⟩ (.slice m.C.A m.C.n m.C.c)).setCell ⟨w.heap.size + 1, 8, none⟩ (.int .i64 m.C.e)).setCell ⟨w.heap.size + 1, 9, none⟩ (.bool m.A.s)).setCell ⟨w.heap.size + 1, 10, none⟩ (.slice m.A.A m.A.n m.A.c)).setCell ⟨w.heap.size + 1, 11, none⟩ (.int .i64 m.A.e)) = V1 at *
      obtain ⟨⟨z0, z1, z2, z3, z4, z5, z6, z7, z8, z9, z10, z11⟩, zf⟩ := MBox.cells hY3
      refine stepK (i := 11) (L := #[true, true, true, true, true, true, true, true, true, true, true, true, false]) rfl (by rfl) (by kernel_rfl) (by rfl) (fun K hK => ?_)
      go_simp
      refine hK _ _ ⟨fun _ h p hp h1 h2 => (far_all h2 ⟨⟨r0.neg, A0, n0, d0, r0.e, canon 4294967296 r0.m⟩, ⟨r1.neg, A1, n1, d1, r1.e, canon 4294967296 r1.m⟩, ZM.C, ZM.A⟩).trans (h p hp h1 h2), ?_⟩
      clear hK K z0 z1 z2 z3 z4 z5 z6 z7 z8 z9 z10 z11 zf
      try simp only [Act.put, List.setIfInBounds_toArray, List.set_cons_zero, List.set_cons_succ]
      have hX2 : MBox ((((((((((((V1.setCell ⟨w.heap.size + 1 + 1, 0, none⟩ (.bool r0.neg)).setCell ⟨w.heap.size + 1 + 1, 1, none⟩ (.slice A0 n0 d0)).setCell ⟨w.heap.size + 1 + 1, 2, none⟩ (.int .i64 r0.e)).setCell ⟨w.heap.size + 1 + 1, 3, none⟩ (.bool r1.neg)).setCell ⟨w.heap.size + 1 + 1, 4, none⟩ (.slice A1 n1 d1)).setCell ⟨w.heap.size + 1 + 1, 5, none⟩ (.int .i64 r1.e)).setCell ⟨w.heap.size + 1 + 1, 6, none⟩ (.bool false)).setCell ⟨w.heap.size + 1 + 1, 7, none⟩ (.slice none 0 0)).setCell ⟨w.heap.size + 1 + 1, 8, none⟩ (.int .i64 0)).setCell ⟨w.heap.size + 1 + 1, 9, none⟩ (.bool false)).setCell ⟨w.heap.size + 1 + 1, 10, none⟩ (.slice none 0 0)).setCell ⟨w.heap.size + 1 + 1, 11, none⟩ (.int .i64 0)) (w.heap.size + 1 + 1) SM := by rw [hSM]; exact MBox.all hY3 ⟨⟨r0.neg, A0, n0, d0, r0.e, canon 4294967296 r0.m⟩, ⟨r1.neg, A1, n1, d1, r1.e, canon 4294967296 r1.m⟩, ZM.C, ZM.A⟩
      have hX3 : MBox ((((((((((((V1.setCell ⟨w.heap.size + 1 + 1, 0, none⟩ (.bool r0.neg)).setCell ⟨w.heap.size + 1 + 1, 1, none⟩ (.slice A0 n0 d0)).setCell ⟨w.heap.size + 1 + 1, 2, none⟩ (.int .i64 r0.e)).setCell ⟨w.heap.size + 1 + 1, 3, none⟩ (.bool r1.neg)).setCell ⟨w.heap.size + 1 + 1, 4, none⟩ (.slice A1 n1 d1)).setCell ⟨w.heap.size + 1 + 1, 5, none⟩ (.int .i64 r1.e)).setCell ⟨w.heap.size + 1 + 1, 6, none⟩ (.bool false)).setCell ⟨w.heap.size + 1 + 1, 7, none⟩ (.slice none 0 0)).setCell ⟨w.heap.size + 1 + 1, 8, none⟩ (.int .i64 0)).setCell ⟨w.heap.size + 1 + 1, 9, none⟩ (.bool false)).setCell ⟨w.heap.size + 1 + 1, 10, none⟩ (.slice none 0 0)).setCell ⟨w.heap.size + 1 + 1, 11, none⟩ (.int .i64 0)) (w.heap.size + 1) KM := (far_all (by omega) ⟨⟨r0.neg, A0, n0, d0, r0.e, canon 4294967296 r0.m⟩, ⟨r1.neg, A1, n1, d1, r1.e, canon 4294967296 r1.m⟩, ZM.C, ZM.A⟩).trans hX1
      have hb4 : Below w.heap.size w ((((((((((((V1.setCell ⟨w.heap.size + 1 + 1, 0, none⟩ (.bool r0.neg)).setCell ⟨w.heap.size + 1 + 1, 1, none⟩ (.slice A0 n0 d0)).setCell ⟨w.heap.size + 1 + 1, 2, none⟩ (.int .i64 r0.e)).setCell ⟨w.heap.size + 1 + 1, 3, none⟩ (.bool r1.neg)).setCell ⟨w.heap.size + 1 + 1, 4, none⟩ (.slice A1 n1 d1)).setCell ⟨w.heap.size + 1 + 1, 5, none⟩ (.int .i64 r1.e)).setCell ⟨w.heap.size + 1 + 1, 6, none⟩ (.bool false)).setCell ⟨w.heap.size + 1 + 1, 7, none⟩ (.slice none 0 0)).setCell ⟨w.heap.size + 1 + 1, 8, none⟩ (.int .i64 0)).setCell ⟨w.heap.size + 1 + 1, 9, none⟩ (.bool false)).setCell ⟨w.heap.size + 1 + 1, 10, none⟩ (.slice none 0 0)).setCell ⟨w.heap.size + 1 + 1, 11, none⟩ (.int .i64 0)) := below_all hb3 (by omega) ⟨⟨r0.neg, A0, n0, d0, r0.e, canon 4294967296 r0.m⟩, ⟨r1.neg, A1, n1, d1, r1.e, canon 4294967296 r1.m⟩, ZM.C, ZM.A⟩
      have hf4 : ∀ j, j ≠ w.heap.size + 1 + 1 → ((((((((((((V1.setCell ⟨w.heap.size + 1 + 1, 0, none⟩ (.bool r0.neg)).setCell ⟨w.heap.size + 1 + 1, 1, none⟩ (.slice A0 n0 d0)).setCell ⟨w.heap.size + 1 + 1, 2, none⟩ (.int .i64 r0.e)).setCell ⟨w.heap.size + 1 + 1, 3, none⟩ (.bool r1.neg)).setCell ⟨w.heap.size + 1 + 1, 4, none⟩ (.slice A1 n1 d1)).setCell ⟨w.heap.size + 1 + 1, 5, none⟩ (.int .i64 r1.e)).setCell ⟨w.heap.size + 1 + 1, 6, none⟩ (.bool false)).setCell ⟨w.heap.size + 1 + 1, 7, none⟩ (.slice none 0 0)).setCell ⟨w.heap.size + 1 + 1, 8, none⟩ (.int .i64 0)).setCell ⟨w.heap.size + 1 + 1, 9, none⟩ (.bool false)).setCell ⟨w.heap.size + 1 + 1, 10, none⟩ (.slice none 0 0)).setCell ⟨w.heap.size + 1 + 1, 11, none⟩ (.int .i64 0)).heap[j]? = V1.heap[j]? := fun j hj => far_all hj ⟨⟨r0.neg, A0, n0, d0, r0.e, canon 4294967296 r0.m⟩, ⟨r1.neg, A1, n1, d1, r1.e, canon 4294967296 r1.m⟩, ZM.C, ZM.A⟩
      have hs5 : ((((((((((((V1.setCell ⟨w.heap.size + 1 + 1, 0, none⟩ (.bool r0.neg)).setCell ⟨w.heap.size + 1 + 1, 1, none⟩ (.slice A0 n0 d0)).setCell ⟨w.heap.size + 1 + 1, 2, none⟩ (.int .i64 r0.e)).setCell ⟨w.heap.size + 1 + 1, 3, none⟩ (.bool r1.neg)).setCell ⟨w.heap.size + 1 + 1, 4, none⟩ (.slice A1 n1 d1)).setCell ⟨w.heap.size + 1 + 1, 5, none⟩ (.int .i64 r1.e)).setCell ⟨w.heap.size + 1 + 1, 6, none⟩ (.bool false)).setCell ⟨w.heap.size + 1 + 1, 7, none⟩ (.slice none 0 0)).setCell ⟨w.heap.size + 1 + 1, 8, none⟩ (.int .i64 0)).setCell ⟨w.heap.size + 1 + 1, 9, none⟩ (.bool false)).setCell ⟨w.heap.size + 1 + 1, 10, none⟩ (.slice none 0 0)).setCell ⟨w.heap.size + 1 + 1, 11, none⟩ (.int .i64 0)).heap.size = V1.heap.size := size_all ⟨⟨r0.neg, A0, n0, d0, r0.e, canon 4294967296 r0.m⟩, ⟨r1.neg, A1, n1, d1, r1.e, canon 4294967296 r1.m⟩, ZM.C, ZM.A⟩
      have hs6 : V1.heap.size ≤ ((((((((((((V1.setCell ⟨w.heap.size + 1 + 1, 0, none⟩ (.bool r0.neg)).setCell ⟨w.heap.size + 1 + 1, 1, none⟩ (.slice A0 n0 d0)).setCell ⟨w.heap.size + 1 + 1, 2, none⟩ (.int .i64 r0.e)).setCell ⟨w.heap.size + 1 + 1, 3, none⟩ (.bool r1.neg)).setCell ⟨w.heap.size + 1 + 1, 4, none⟩ (.slice A1 n1 d1)).setCell ⟨w.heap.size + 1 + 1, 5, none⟩ (.int .i64 r1.e)).setCell ⟨w.heap.size + 1 + 1, 6, none⟩ (.bool false)).setCell ⟨w.heap.size + 1 + 1, 7, none⟩ (.slice none 0 0)).setCell ⟨w.heap.size + 1 + 1, 8, none⟩ (.int .i64 0)).setCell ⟨w.heap.size + 1 + 1, 9, none⟩ (.bool false)).setCell ⟨w.heap.size + 1 + 1, 10, none⟩ (.slice none 0 0)).setCell ⟨w.heap.size + 1 + 1, 11, none⟩ (.int .i64 0)).heap.size := Nat.le_of_eq hs5.symm
      clear hs5
      generalize ((((((((((((V1.setCell ⟨w.heap.size + 1 + 1, 0, none⟩ (.bool r0.neg)).setCell ⟨w.heap.size + 1 + 1, 1, none⟩ (.slice A0 n0 d0)).setCell ⟨w.heap.size + 1 + 1, 2, none⟩ (.int .i64 r0.e)).setCell ⟨w.heap.size + 1 + 1, 3, none⟩ (.bool r1.neg)).setCell ⟨w.heap.size + 1 + 1, 4, none⟩ (.slice A1 n1 d1)).setCell ⟨w.heap.size + 1 + 1, 5, none⟩ (.int .i64 r1.e)).setCell ⟨w.heap.size + 1 + 1, 6, none⟩ (.bool false)).setCell ⟨w.heap.size + 1 + 1, 7, none⟩ (.slice none 0 0)).setCell ⟨w.heap.size + 1 + 1, 8, none⟩ (.int .i64 0)).setCell ⟨w.heap.size + 1 + 1, 9, none⟩ (.bool false)).setCell ⟨w.heap.size + 1 + 1, 10, none⟩ (.slice none 0 0)).setCell ⟨w.heap.size + 1 + 1, 11, none⟩ (.int .i64 0)) = V2 at *
      refine pureE (i := 12) (L := #[true, true, true, true, true, true, true, true, true, true, true, true, true]) (v := ?_) rfl (by rfl) (by kernel_rfl) (by kernel_rfl) (by kernel_rfl) (fun _ _ _ h => h) (by rfl) ?hy13 ?rest13
      case hy13 => intro w; go_simp; (try with_reducible rfl)
      try simp only [Act.put, List.setIfInBounds_toArray, List.set_cons_zero, List.set_cons_succ]
      refine doneE (by kernel_rfl) ?_ _
      go_wp2
      obtain ⟨⟨k0, k1, k2, k3, k4, k5, k6, k7, k8, k9, k10, k11⟩, kf⟩ := MBox.cells hX3
      obtain ⟨⟨y0, y1, y2, y3, y4, y5, y6, y7, y8, y9, y10, y11⟩, yf⟩ := MBox.cells hX2
      have mv : ∀ {A : Option Addr} {n : Nat} {xs : List Int}, Ints w_11 (w.heap.size + 3) w_11.heap.size .u32 A n xs → Ints V2 w.heap.size V2.heap.size .u32 A n xs := fun h => (ints_rng h fun k h1 h2 => (hf4 k (by omega)).trans (hf3 k (by omega))).more (by omega) (by omega)
      have mw : ∀ {A : Option Addr} {n : Nat} {xs : List Int}, Ints w lo hi .u32 A n xs → Ints V2 lo hi .u32 A n xs := fun h => h.below hb4 hhi
      have hRK : TwoR V2 lo hi w.heap.size V2.heap.size KM := by rw [hKM]; exact four (.inr (mv I0)) (.inr (mv I1)) (.inl (mw hL.C)) (.inl (mw hL.A))
      have hRS : MRows V2 w.heap.size V2.heap.size SM := by rw [hSM]; exact ⟨mv I0, mv I1, Ints.nil_ .., Ints.nil_ ..⟩
      have hK : IsM kR KM := by rw [hKM, ← HKR.out]; exact four ⟨rfl, rfl, rfl⟩ ⟨rfl, rfl, rfl⟩ (hI.out 2 (by decide)) (hI.out 3 (by decide))
      have hS : IsM sR SM := by rw [hSM, ← HSR.out]; exact four ⟨rfl, rfl, rfl⟩ ⟨rfl, rfl, rfl⟩ Is.zero Is.zero
      exact bodyPost_ret (v := .tuple #[.agg #[.bool KM.S.s, .slice KM.S.A KM.S.n KM.S.c, .int .i64 KM.S.e, .bool KM.W.s, .slice KM.W.A KM.W.n KM.W.c, .int .i64 KM.W.e, .bool KM.C.s, .slice KM.C.A KM.C.n KM.C.c, .int .i64 KM.C.e, .bool KM.A.s, .slice KM.A.A KM.A.n KM.A.c, .int .i64 KM.A.e], .agg #[.bool SM.S.s, .slice SM.S.A SM.S.n SM.S.c, .int .i64 SM.S.e, .bool SM.W.s, .slice SM.W.A SM.W.n SM.W.c, .int .i64 SM.W.e, .bool SM.C.s, .slice SM.C.A SM.C.n SM.C.c, .int .i64 SM.C.e, .bool SM.A.s, .slice SM.A.A SM.A.n SM.A.c, .int .i64 SM.A.e], .int .i64 0]) (by simp [results, Tryd.results55, go_sem, k0, k1, k2, k3, k4, k5, k6, k7, k8, k9, k10, k11, y0, y1, y2, y3, y4, y5, y6, y7, y8, y9, y10, y11]) rfl ⟨KM, SM, rfl, hb4, hK, hS, hRK, hRS⟩
    · skip
      have hmax : ∀ W : World, (Builtin.max_ #[3, 3] 3 #[.int .i64 0, .int .i64 10]).run Tryd.prog W = .ok (.int .i64 10) W := fun W => run_max2 W _ _ _ _ _ (by decide)
      have hcode : ((zR, zR), (10 : Int)) = ((kR, sR), code) := by
        rw [← HR.out]
        unfold splitM
        rw [if_pos mm.out, if_neg fun k => ?_]
        have := k.2
        rw [HX1.out] at this
        cases this
      injection hcode with h1 h2
      injection h1 with h1 h3
      subst h1 h2 h3
      obtain ⟨⟨q_18_0, q_18_1, q_18_2, q_18_3, q_18_4, q_18_5, q_18_6, q_18_7, q_18_8, q_18_9, q_18_10, q_18_11⟩, q_18f⟩ := MBox.cells hZ
      obtain ⟨⟨q_19_0, q_19_1, q_19_2, q_19_3, q_19_4, q_19_5, q_19_6, q_19_7, q_19_8, q_19_9, q_19_10, q_19_11⟩, q_19f⟩ := MBox.cells hY
      go_wp2
      try clear hww_10
      obtain ⟨U1, M1, hc1, hM1, hX1, hb1, hf1, _, _⟩ := zero_to hZ
      rw [hc1]
      obtain ⟨U, M, hc2, hMe, hX2, hb2, hf2, _, _⟩ := zero_to (show MBox U1 (w.heap.size + 1 + 1) ZM from (hf1 _ (by omega)).trans hY)
      rw [hc2]
      replace hX1 : MBox U (w.heap.size + 1) M := by rw [hMe, ← hM1]; exact (hf2 _ (by omega)).trans hX1
      have hQ := hb2 _ _ (hb1 _ _ hBL (by omega)) (by omega)
      clear q_18_0 q_18_1 q_18_2 q_18_3 q_18_4 q_18_5 q_18_6 q_18_7 q_18_8 q_18_9 q_18_10 q_18_11 q_18f q_19_0 q_19_1 q_19_2 q_19_3 q_19_4 q_19_5 q_19_6 q_19_7 q_19_8 q_19_9 q_19_10 q_19_11 q_19f
      clear hc1 hc2
      obtain ⟨⟨k0, k1, k2, k3, k4, k5, k6, k7, k8, k9, k10, k11⟩, kf⟩ := MBox.cells hX1
      obtain ⟨⟨y0, y1, y2, y3, y4, y5, y6, y7, y8, y9, y10, y11⟩, yf⟩ := MBox.cells hX2
      refine bodyPost_ret (v := .tuple #[.agg #[.bool M.S.s, .slice M.S.A M.S.n M.S.c, .int .i64 M.S.e, .bool M.W.s, .slice M.W.A M.W.n M.W.c, .int .i64 M.W.e, .bool M.C.s, .slice M.C.A M.C.n M.C.c, .int .i64 M.C.e, .bool M.A.s, .slice M.A.A M.A.n M.A.c, .int .i64 M.A.e], .agg #[.bool M.S.s, .slice M.S.A M.S.n M.S.c, .int .i64 M.S.e, .bool M.W.s, .slice M.W.A M.W.n M.W.c, .int .i64 M.W.e, .bool M.C.s, .slice M.C.A M.C.n M.C.c, .int .i64 M.C.e, .bool M.A.s, .slice M.A.A M.A.n M.A.c, .int .i64 M.A.e], .int .i64 10]) (by simp [results, Tryd.results55, go_sem, k0, k1, k2, k3, k4, k5, k6, k7, k8, k9, k10, k11, y0, y1, y2, y3, y4, y5, y6, y7, y8, y9, y10, y11]) rfl ⟨M, M, rfl, hQ, ?_⟩
      rw [hMe]
      exact ⟨IsM.zero, IsM.zero, four (.inl (Ints.nil_ ..)) (.inl (Ints.nil_ ..)) (.inl (Ints.nil_ ..)) (.inl (Ints.nil_ ..)), ZM_rows ..⟩
    · skip
      have hmax : ∀ W : World, (Builtin.max_ #[3, 3] 3 #[.int .i64 10, .int .i64 0]).run Tryd.prog W = .ok (.int .i64 10) W := fun W => run_max2 W _ _ _ _ _ (by decide)
      have hcode : ((zR, zR), (10 : Int)) = ((kR, sR), code) := by
        rw [← HR.out]
        unfold splitM
        rw [if_pos mm.out, if_neg fun k => ?_]
        have := k.1
        rw [HX0.out] at this
        cases this
      injection hcode with h1 h2
      injection h1 with h1 h3
      subst h1 h2 h3
      obtain ⟨⟨q_20_0, q_20_1, q_20_2, q_20_3, q_20_4, q_20_5, q_20_6, q_20_7, q_20_8, q_20_9, q_20_10, q_20_11⟩, q_20f⟩ := MBox.cells hZ
      obtain ⟨⟨q_21_0, q_21_1, q_21_2, q_21_3, q_21_4, q_21_5, q_21_6, q_21_7, q_21_8, q_21_9, q_21_10, q_21_11⟩, q_21f⟩ := MBox.cells hY
      go_wp2
      try clear hww_10
      obtain ⟨U1, M1, hc1, hM1, hX1, hb1, hf1, _, _⟩ := zero_to hZ
      rw [hc1]
      obtain ⟨U, M, hc2, hMe, hX2, hb2, hf2, _, _⟩ := zero_to (show MBox U1 (w.heap.size + 1 + 1) ZM from (hf1 _ (by omega)).trans hY)
      rw [hc2]
      replace hX1 : MBox U (w.heap.size + 1) M := by rw [hMe, ← hM1]; exact (hf2 _ (by omega)).trans hX1
      have hQ := hb2 _ _ (hb1 _ _ hBL (by omega)) (by omega)
      clear q_20_0 q_20_1 q_20_2 q_20_3 q_20_4 q_20_5 q_20_6 q_20_7 q_20_8 q_20_9 q_20_10 q_20_11 q_20f q_21_0 q_21_1 q_21_2 q_21_3 q_21_4 q_21_5 q_21_6 q_21_7 q_21_8 q_21_9 q_21_10 q_21_11 q_21f
      clear hc1 hc2
      obtain ⟨⟨k0, k1, k2, k3, k4, k5, k6, k7, k8, k9, k10, k11⟩, kf⟩ := MBox.cells hX1
      obtain ⟨⟨y0, y1, y2, y3, y4, y5, y6, y7, y8, y9, y10, y11⟩, yf⟩ := MBox.cells hX2
      refine bodyPost_ret (v := .tuple #[.agg #[.bool M.S.s, .slice M.S.A M.S.n M.S.c, .int .i64 M.S.e, .bool M.W.s, .slice M.W.A M.W.n M.W.c, .int .i64 M.W.e, .bool M.C.s, .slice M.C.A M.C.n M.C.c, .int .i64 M.C.e, .bool M.A.s, .slice M.A.A M.A.n M.A.c, .int .i64 M.A.e], .agg #[.bool M.S.s, .slice M.S.A M.S.n M.S.c, .int .i64 M.S.e, .bool M.W.s, .slice M.W.A M.W.n M.W.c, .int .i64 M.W.e, .bool M.C.s, .slice M.C.A M.C.n M.C.c, .int .i64 M.C.e, .bool M.A.s, .slice M.A.A M.A.n M.A.c, .int .i64 M.A.e], .int .i64 10]) (by simp [results, Tryd.results55, go_sem, k0, k1, k2, k3, k4, k5, k6, k7, k8, k9, k10, k11, y0, y1, y2, y3, y4, y5, y6, y7, y8, y9, y10, y11]) rfl ⟨M, M, rfl, hQ, ?_⟩
      rw [hMe]
      exact ⟨IsM.zero, IsM.zero, four (.inl (Ints.nil_ ..)) (.inl (Ints.nil_ ..)) (.inl (Ints.nil_ ..)) (.inl (Ints.nil_ ..)), ZM_rows ..⟩
    · skip
      have hmax : ∀ W : World, (Builtin.max_ #[3, 3] 3 #[.int .i64 10, .int .i64 10]).run Tryd.prog W = .ok (.int .i64 10) W := fun W => run_max2 W _ _ _ _ _ (by decide)
      have hcode : ((zR, zR), (10 : Int)) = ((kR, sR), code) := by
        rw [← HR.out]
        unfold splitM
        rw [if_pos mm.out, if_neg fun k => ?_]
        have := k.1
        rw [HX0.out] at this
        cases this
      injection hcode with h1 h2
      injection h1 with h1 h3
      subst h1 h2 h3
      obtain ⟨⟨q_22_0, q_22_1, q_22_2, q_22_3, q_22_4, q_22_5, q_22_6, q_22_7, q_22_8, q_22_9, q_22_10, q_22_11⟩, q_22f⟩ := MBox.cells hZ
      obtain ⟨⟨q_23_0, q_23_1, q_23_2, q_23_3, q_23_4, q_23_5, q_23_6, q_23_7, q_23_8, q_23_9, q_23_10, q_23_11⟩, q_23f⟩ := MBox.cells hY
      go_wp2
      try clear hww_10
      obtain ⟨U1, M1, hc1, hM1, hX1, hb1, hf1, _, _⟩ := zero_to hZ
      rw [hc1]
      obtain ⟨U, M, hc2, hMe, hX2, hb2, hf2, _, _⟩ := zero_to (show MBox U1 (w.heap.size + 1 + 1) ZM from (hf1 _ (by omega)).trans hY)
      rw [hc2]
      replace hX1 : MBox U (w.heap.size + 1) M := by rw [hMe, ← hM1]; exact (hf2 _ (by omega)).trans hX1
      have hQ := hb2 _ _ (hb1 _ _ hBL (by omega)) (by omega)
      clear q_22_0 q_22_1 q_22_2 q_22_3 q_22_4 q_22_5 q_22_6 q_22_7 q_22_8 q_22_9 q_22_10 q_22_11 q_22f q_23_0 q_23_1 q_23_2 q_23_3 q_23_4 q_23_5 q_23_6 q_23_7 q_23_8 q_23_9 q_23_10 q_23_11 q_23f
      clear hc1 hc2
      obtain ⟨⟨k0, k1, k2, k3, k4, k5, k6, k7, k8, k9, k10, k11⟩, kf⟩ := MBox.cells hX1
      obtain ⟨⟨y0, y1, y2, y3, y4, y5, y6, y7, y8, y9, y10, y11⟩, yf⟩ := MBox.cells hX2
      refine bodyPost_ret (v := .tuple #[.agg #[.bool M.S.s, .slice M.S.A M.S.n M.S.c, .int .i64 M.S.e, .bool M.W.s, .slice M.W.A M.W.n M.W.c, .int .i64 M.W.e, .bool M.C.s, .slice M.C.A M.C.n M.C.c, .int .i64 M.C.e, .bool M.A.s, .slice M.A.A M.A.n M.A.c, .int .i64 M.A.e], .agg #[.bool M.S.s, .slice M.S.A M.S.n M.S.c, .int .i64 M.S.e, .bool M.W.s, .slice M.W.A M.W.n M.W.c, .int .i64 M.W.e, .bool M.C.s, .slice M.C.A M.C.n M.C.c, .int .i64 M.C.e, .bool M.A.s, .slice M.A.A M.A.n M.A.c, .int .i64 M.A.e], .int .i64 10]) (by simp [results, Tryd.results55, go_sem, k0, k1, k2, k3, k4, k5, k6, k7, k8, k9, k10, k11, y0, y1, y2, y3, y4, y5, y6, y7, y8, y9, y10, y11]) rfl ⟨M, M, rfl, hQ, ?_⟩
      rw [hMe]
      exact ⟨IsM.zero, IsM.zero, four (.inl (Ints.nil_ ..)) (.inl (Ints.nil_ ..)) (.inl (Ints.nil_ ..)) (.inl (Ints.nil_ ..)), ZM_rows ..⟩
end Ma
end Go.Proofs.YtlbkepiflhchdaaDoor

namespace Go.Proofs.YtlbkepiflhchdaaDoor
open Go.RowKit
namespace Dy
open Dp
theorem of_bound {k r v : Nat} {o : Nat} (h : o + 2 ^ k * r = v) (h0 : 0 < r) (hv : v < 18446744073709551616) : k < 64 := by
  have h1 : 2 ^ k * 1 ≤ 2 ^ k * r := Nat.mul_le_mul_left _ h0
  have h2 : 2 ^ k < 2 ^ 64 := by
    have e : (2 : Nat) ^ 64 = 18446744073709551616 := by decide
    rw [e]
    omega
  exact (Nat.pow_lt_pow_iff_right (by decide)).1 h2
theorem of_step {k r v : Nat} {out : List Int} (hl : out.length = k) (h : num 2 out + 2 ^ k * r = v) : num 2 (out ++ [((r % 2 : Nat) : Int)]) + 2 ^ (k + 1) * (r / 2) = v := by
  rw [num_append, hl, ← h]
  have e1 : num 2 [((r % 2 : Nat) : Int)] = r % 2 := by
    simp [num]
    omega
  have e2 : 2 ^ k * r = 2 ^ k * (r % 2) + 2 ^ k * (2 * (r / 2)) := by
    rw [← Nat.mul_add]
    congr 1
    omega
  rw [e1, e2, Nat.pow_succ, Nat.mul_assoc]
  omega
set_option maxHeartbeats 3200000 in
set_option maxRecDepth 100000 in
/-- headcountref01.Of. -/
theorem rOf1_any (w : World) (v : Nat) (hv : v < 18446744073709551616) :
    Calls Tryd.prog 113 #[.int .u64 v] w fun e w' => ∃ A n c, e = .returned (.slice A n c) ∧ n ≤ c ∧ Below w.heap.size w w' ∧ Ints w' w.heap.size w'.heap.size .u32 A n (canon 4294967296 v) := by
  obtain ⟨i0, hi0, hz0, hz1, hz2⟩ := info_parts Tryd.info5
  go_enter Tryd.func113, Tryd.ntmps113
  go_wp2
  go_loopw [0, 3] (fun nv o wr => ∃ k r : Nat, ∃ out : List Int, nv = .int .u64 r ∧ r ≤ 18446744073709551615 ∧ k ≤ 64 ∧ wr.ownsRow w.heap.size 5 1 o k (out.map (Value.int .u8)) ∧ Dig 2 out ∧ Hid (num 2 out + 2 ^ k * r = v) ∧ Below w.heap.size w wr)
    (fun nv _ _ => (intOf nv).toNat)
  case atStart => exact ⟨0, v, [], rfl, by omega, by omega, ⟨rfl, .inl ⟨rfl, rfl⟩⟩, fun x hx => (by simp at hx), by simp [Hid, num], Below.refl _ _⟩
  case round =>
    obtain ⟨k, r, out, rfl, hr, hk, hown, hdo, hnum, hnx⟩ := hrel
    by_cases h0 : 0 < r
    · have hol : out.length = k := by have := hown.1; simpa using this
      have hk64 := of_bound hnum.out h0 hv
      have hnum2 := Lib.hid (of_step hol hnum.out)
      have hdo2 := dig_snoc hdo (r % 2) (by omega)
      clear hol hnum
      go_wp2_with (first
        | (at_builtin; refine wpList_append_raw _ rfl (.tmp 6) (.tmp 10) 85 rfl w.heap.size 5 i0 (.int .u8 0) 1 1 Tryd.underlying85 hi0 hz0 hz1 hz2 rfl (by decide) _ _ _ rfl (hown.alloc _) _ _ _ 1 1 [.int .u8 ((r : Int) % 2)] rfl (raw_one _ _ _ _) ?c1 ?c2 ?c3 ?c4 ?_))
      case c1 => first | rfl | (intro u hu; simp at hu; subst hu; rfl)
      case c2 => unfold maxLen; omega
      case c3 => omega
      case c4 => have := hnx.size; simp; omega
      intro A2 c2 w3 hown2 hgrow2 _
      have hnx2 : Below w.heap.size w w3 := (hnx.alloc hnx.size _).grown hgrow2 (by have := hnx.size; simp; omega) (fun q hq => (hown.lt q hq).1)
      have hs : (r : Int) % 2 = ((r % 2 : Nat) : Int) := by omega
      rw [hs] at hown2
      have hown3 : w3.ownsRow w.heap.size 5 1 (.slice A2 (k + 1) c2) (k + 1) ((out ++ [((r % 2 : Nat) : Int)]).map (Value.int .u8)) := by simpa [Nat.add_assoc] using hown2
      clear hs hown2 hgrow2 hown
      go_wp2
      go_roundw
      case rel => exact ⟨k + 1, r / 2, _, by congr 1, by omega, by omega, hown3, hdo2, hnum2, hnx2⟩
      case measure => simp [intOf]; omega
    · obtain rfl : r = 0 := by omega
      obtain ⟨A2, c2, rfl, hc2, _⟩ := own_shape hown
      have hend : num 2 out = v := by have := hnum.out; omega
      have hwf : ∀ x ∈ out, IntKind.u8.min ≤ x ∧ x ≤ IntKind.u8.max := fun x hx => by
        have := hdo x hx
        simp only [IntKind.min, IntKind.max, IntKind.signed, IntKind.bits]
        omega
      have hI := Ints.of_own hown hwf (by omega)
      have HE := Lib.hid hend
      clear hown hnum hend
      go_wp2_with fail
      refine (Limbs_any _ _ _ _ _ _ out hI hdo hc2 (Nat.le_refl _) (by omega) v HE.out).mono ?_
      rintro e w4 ⟨A4, n4, c4, rfl, hn4, hB, hI4⟩
      go_wp2
      go_ret
      exact ⟨A4, n4, c4, rfl, hn4, hnx.trans (hB.mono hnx.size), hI4.more hnx.size (Nat.le_refl _)⟩
set_option maxHeartbeats 3200000 in
set_option maxRecDepth 100000 in
/-- headcountref02.Of. -/
theorem rOf_any (w : World) (z : Int) (h0 : -9223372036854775808 ≤ z) (h1 : z ≤ 9223372036854775807) (s : Bool) (v : Nat) (hs : decide (z < 0) = s) (hv : z.natAbs = v) :
    Calls Tryd.prog 109 #[.int .i64 z] w fun e w' => ∃ A n c, e = .returned (.agg #[.bool s, .slice A n c, .int .i64 0]) ∧ n ≤ c ∧ Below w.heap.size w w' ∧ Ints w' w.heap.size w'.heap.size .u32 A n (canon 4294967296 v) := by
  generalize hw : w.alloc (.cells #[.bool false, .slice none 0 0, .int .i64 0] 24) = w1
  have X1 : w1.heap[w.heap.size]? = some (.cells #[.bool false, .slice none 0 0, .int .i64 0] 24 (0, 0)) := by rw [← hw]; exact heap_alloc_last _ _
  have hb : Below w.heap.size w w1 := by rw [← hw]; exact (Below.refl _ w).alloc (Nat.le_refl _) _
  have l1 : w.heap.size < w1.heap.size := by rw [← hw]; simp
  have hv64 : v < 18446744073709551616 := by omega
  by_cases hz : z < 0
  · obtain rfl : s = true := by rw [← hs]; simpa using hz
    obtain ⟨u, hu⟩ : ∃ u : Nat, v = u + 1 := ⟨v - 1, by omega⟩
    obtain rfl : z = -((u : Int) + 1) := by omega
    subst hu
    have e1 : IntKind.i64.wrap (-((u : Int) + 1) + 1) = -(u : Int) := by rw [IntKind.wrap_i64]; omega
    have e2 : wrap64 (u : Int) = u := by unfold wrap64; omega
    have e3 : IntKind.u64.wrap (u : Int) = u := by rw [IntKind.wrap_u64]; omega
    have e4 : IntKind.u64.wrap ((u : Int) + 1) = ((u + 1 : Nat) : Int) := by rw [IntKind.wrap_u64]; omega
    clear hs hv h0
    obtain ⟨⟨p0, p1, p2⟩, p3, p4, p5⟩ := boxD X1
    go_enter Tryd.func109, Tryd.ntmps109
    go_wp2_with fail
    try clear hw
    clear p0 p1 p2 p3 p4 p5 e1 e2 e3 e4
    refine (rOf1_any w1 (u + 1) hv64).mono ?_
    rintro e w2 ⟨A, n, c, rfl, hc, hB, hI⟩
    have l2 := hB.size
    replace X1 := (hB.block _ l1).trans X1
    replace hb := hb.trans (hB.mono (by omega))
    clear hB
    obtain ⟨⟨p0, p1, p2⟩, p3, p4, p5⟩ := boxD X1
    go_wp2
    clear p0 p1 p2 p3 p4 p5
    have X5 := box_put X1 (.bool true) (.slice A n c) (.int .i64 0)
    have b5 := below_put hb (g := w.heap.size) (Nat.le_refl _) (.bool true) (.slice A n c) (.int .i64 0)
    have I5 := ints_put hI (g := w.heap.size) (.inl (by omega)) (.bool true) (.slice A n c) (.int .i64 0)
    have s5 := size_put (w := w2) (g := w.heap.size) (.bool true) (.slice A n c) (.int .i64 0)
    obtain ⟨⟨q0, q1, q2⟩, q3, q4, q5⟩ := boxD X5
    exact bodyPost_ret (v := .agg #[.bool true, .slice A n c, .int .i64 0]) (by simp [results, Tryd.results109, go_sem, q0, q1, q2]) rfl ⟨A, n, c, rfl, hc, b5, I5.more (by omega) (by omega)⟩
  · obtain rfl : s = false := by rw [← hs]; simpa using hz
    obtain rfl : z = (v : Int) := by omega
    clear hs hv h0
    obtain ⟨⟨p0, p1, p2⟩, p3, p4, p5⟩ := boxD X1
    go_enter Tryd.func109, Tryd.ntmps109
    go_wp2_with fail
    try clear hw
    clear p0 p1 p2 p3 p4 p5
    refine (rOf1_any w1 v hv64).mono ?_
    rintro e w2 ⟨A, n, c, rfl, hc, hB, hI⟩
    have l2 := hB.size
    replace X1 := (hB.block _ l1).trans X1
    replace hb := hb.trans (hB.mono (by omega))
    clear hB
    obtain ⟨⟨p0, p1, p2⟩, p3, p4, p5⟩ := boxD X1
    go_wp2
    clear p0 p1 p2 p3 p4 p5
    have X5 := box_put X1 (.bool false) (.slice A n c) (.int .i64 0)
    have b5 := below_put hb (g := w.heap.size) (Nat.le_refl _) (.bool false) (.slice A n c) (.int .i64 0)
    have I5 := ints_put hI (g := w.heap.size) (.inl (by omega)) (.bool false) (.slice A n c) (.int .i64 0)
    have s5 := size_put (w := w2) (g := w.heap.size) (.bool false) (.slice A n c) (.int .i64 0)
    obtain ⟨⟨q0, q1, q2⟩, q3, q4, q5⟩ := boxD X5
    exact bodyPost_ret (v := .agg #[.bool false, .slice A n c, .int .i64 0]) (by simp [results, Tryd.results109, go_sem, q0, q1, q2]) rfl ⟨A, n, c, rfl, hc, b5, I5.more (by omega) (by omega)⟩
end Dy
end Go.Proofs.YtlbkepiflhchdaaDoor
